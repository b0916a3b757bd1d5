/-
  All events, as the document finds them.
  (and more)
-/
import Derived.Test.YtgemekpofpoopaaGreatKBOO07
open Go.Proofs.Tryz renaming prog→af,underlying42→wP,underlying174→vM,underlying89→kY,underlying87→wQ,underlying119→jq,underlying104→jo,underlying86→wR,underlying107→gL
open List renaming range→bF,replicate→bH,ext_getElem?→cM,getElem?_map→aI,getElem?_range→fE,getElem?_eq_none→aQ,getElem?_set→eQ,mem_range→a8,map_append→bG,mem_filter→bR,length_filter_le→cE,getElem?_append_left→aV,getElem?_eq_some_iff→an,length_append→aJ,length_map→ak,length→dv,length_range→jO,mem_of_getElem?→al,getD_eq_getElem?_getD→aO,any_eq_true→dY,mem_map_of_mem→bw,mem_map→bN,mem_singleton→bW,getElem?_eq_getElem→aw,find?_eq_none→gJ,getElem_of_mem→fD,take_succ_eq_append_getElem→bX,length_take→eU,take_length→eG,map_set→iS,filter_append→dI,take_succ_cons→mC,mem_cons_of_mem→iP,mem_cons_self→jl,append_assoc→dk
open Option renaming map_some→ft,map_eq_some_iff→mi
open Go.Proofs.YtgemekpofpoopaaGreat.db renaming fR→n9,tR→n4,m→dD,cells→l8,z→qb
open Nat renaming le_trans→dE,zero_le→aY,le_refl→cg,mul_comm→jF,not_lt_zero→cQ,mul_le_mul→nr,lt_succ_iff_lt_or_eq→cZ,le_of_ble_eq_true→bz
open Go.SL.VC renaming q→au,seq→av,eX→aM,block→aD,eg→bS,cond→ay,skip→aE,exit→bU,perm→gw,ret→be,draw→gj,res→iv
open Go.SL.VO renaming h→aB,a→ax,n→aq,m→ag,l→ah,t→dK,nil→aN,p→da,h0→cu,f→bO,c→cL,gt→bh,gf→aK
open Go.SL.HO renaming box→c8,lo→aW,bs→eW,k8→eP,eS→cd,alloc→cJ,st→cq
open Go.SL.LO renaming len→bE,fT→aX,iy→bM,call→bK,jA→cy,mv→aS,ld→aC,fa→aP,qc→e7,bd→fA,nc→cV,eq→ia
open Go.SL.cG renaming l→dw
open Go.SL.VE renaming aU→aj,gO→bB,df→aZ,bZ→aH,jT→cB,s→dP,mq→dA,dB→bA,res→dh
open Go.SL.LX renaming m→cT,l→aG,s→dC
open Go.Proofs.YtgemekpofpoopaaGreat.RO renaming jX→cY
open Go.SL.HX renaming s→az
open Go.Proofs.YtgemekpofpoopaaGreat.LO renaming eqv→eN
open Go.Value renaming slice→il,int→cX
open Quotient renaming mk→rQ
open Option.some renaming inj→eI
open Int renaming natCast_nonneg→fW
open Go.SL.LL renaming m→eT,l→bl,gf→cW,gt→gm
open Bool renaming and_eq_true→bD
open Go.Ending renaming returned→bT
open Go.Proofs.YtgemekpofpoopaaGreat.Mv renaming cells→eR
open Go.Proofs.YtgemekpofpoopaaGreat.cH renaming m→dG,cells→e9,aR→gl,pR→ff,cR→ef
open Go.SL.RV renaming agg→jH
open Classical renaming not_not→eK
open Go.SL.HY renaming s→oI
open Go.IntKind renaming wrap→qR

set_option linter.unusedSimpArgs false
set_option maxRecDepth 20000
set_option maxHeartbeats 8000000
namespace Go.Proofs.YtgemekpofpoopaaGreat
open Go.SL Go.Proofs Go.sM Go.Cell
set_option linter.unusedVariables false
theorem C73:fh af 73:=⟨_,Tryz.func73,by decide,rfl⟩
theorem acg:dr af 157 (.slice none 0 0):=by unfold dr;kernel_rfl
theorem abC:j6 af 157 1 24 (.slice none 0 0):=⟨by kernel_rfl,by kernel_rfl,by unfold dr;kernel_rfl,rfl,by decide⟩
theorem C74:fh af 74:=⟨_,Tryz.func74,by decide,rfl⟩
theorem FD:ee af 42 104:=wP
theorem abE:j6 af 104 3 56 (.agg #[.int .i64 0,.slice none 0 0,.slice none 0 0]):=⟨by kernel_rfl,by kernel_rfl,by unfold dr;kernel_rfl,rfl,by decide⟩
def zM (m:Nat) (T:Nat→Nat→Bool) (i j:Nat):List Bool:=(bF m).map fun q=>if q<j then T i q else false
theorem D6 {m i j:Nat} {T:Nat→Nat→Bool}:(zM m T i j).length=m:=by unfold zM;simp
theorem Ks {m i:Nat} {T:Nat→Nat→Bool}:bH m false=zM m T i 0:=by
 refine cM fun q=>?_
 unfold zM
 rw[aI,List.getElem?_replicate]
 by_cases e:q<m
 ·rw[if_pos e,fE e];rfl
 ·rw[if_neg e,aQ (by simpa using e)];rfl
theorem NN {m i j:Nat} {b:Bool} {T:Nat→Nat→Bool} (hj:j<m) (hb:b=T i j):(zM m T i j).set j b=zM m T i (j+1):=by
 refine cM fun q=>?_
 rw[eQ]
 unfold zM
 by_cases e:j=q
 ·subst e
  rw[if_pos rfl,if_pos (by simpa using hj),aI,fE hj]
  simp [hb]
 ·rw[if_neg e,aI,aI]
  by_cases hq:q<m
  ·rw[fE hq]
   simp only[ft]
   by_cases z:q<j
   ·rw[if_pos z,if_pos (by omega)]
   ·rw[if_neg z,if_neg (by omega)]
  ·rw[aQ (by simpa using hq)];rfl
theorem Pb {m i:Nat} {T:Nat→Nat→Bool}:zM m T i m=tJ m T i:=by
 unfold zM tJ
 exact List.map_congr_left fun q hq=>if_pos (a8.1 hq)
theorem W0 {m i:Nat} {T:Nat→Nat→Bool}:(bF (i+1)).map (tJ m T)=(bF i).map (tJ m T)++[tJ m T i]:=by rw[List.range_succ,bG];rfl
theorem St.acp {β:Bs} {L:List dg} {w:World} {l:List db} {e:db} (h:St β (e.fR::e.tR::bV (l.map n9)::bV (l.map n4)::L) w):St β (bV ((l++[e]).map n9)::bV ((l++[e]).map n4)::L) w:=by
 rw[bG,bG]
 have h1:=St.Cj (rs:=[e.fR]) (Rs:=l.map n9) (L:=e.tR::bV (l.map n4)::L) (h.perm (.cons _ (.swap _ _ _)))
 have h2:=St.Cj (rs:=[e.tR]) (Rs:=l.map n4) (L:=bV (l.map n9++[e.fR])::L) (h1.perm ((List.Perm.swap _ _ _).trans (.cons _ (.swap _ _ _))))
 exact h2.perm (.swap _ _ _)
theorem Pd {κ:Nat→Bool×Int} {n m k:Nat}:(∀i,i∈(rU κ n (n+m) k).f→i<n)∧∀j,j∈(rU κ n (n+m) k).t→j<m:=by
 unfold rU
 refine⟨fun i hi=>?_,fun j hj=>?_⟩
 ·have:=a8.1 (bR.1 hi).1;omega
 ·have:=a8.1 (bR.1 hj).1;omega
theorem QW {κ:Nat→Bool×Int} {n m k:Nat}:(rU κ n (n+m) k).f.length≤n∧(rU κ n (n+m) k).t.length≤m:=by
 unfold rU
 exact⟨dE (cE _ _) (by simp),dE (cE _ _) (by simp)⟩
theorem abo {n i x:Nat} {f t:List Nat} (h:f[i]? =some x):(f++t.map (n+ ·))[i]? =some x:=by
 rw[aV (an.1 h).1];exact h
theorem abk {n i x:Nat} {f t:List Nat} (h:t[i]? =some x):(f++t.map (n+ ·))[f.length+i]? =some (n+x):=by
 rw[List.getElem?_append_right (by omega),show f.length+i-f.length=i by omega,aI,h];rfl
theorem N7 {κ:Nat→Bool×Int} {n m k:Nat} {f t:List Nat} (h:iT κ k=true) (hf:f=(rU κ n (n+m) k).f) (ht:t=(rU κ n (n+m) k).t):kM κ n m k (f++t.map (n+ ·)) (f.length+t.length)=kM κ n m (k+1) [] 0∧pN κ n m (k+1)=pN κ n m k++[⟨iR f.length t.length,f,t⟩]:=by
 have z:=MG (n:=n) (m:=m) h (l:=Jq n (rU κ n (n+m) k)) fun t ht=>J4 ht
 have e:Jq n (rU κ n (n+m) k)=f++t.map (n+ ·):=by rw[hf,ht];rfl
 have hl:(f++t.map (n+ ·)).length=f.length+t.length:=by rw[aJ,ak]
 rw[e,hl]at z
 refine⟨z.1,z.2.trans ?_⟩
 unfold kdM
 rw[←hf, ←ht]
theorem KM (g:eo) (la lb:List di) (pa:Option Addr) (ca:Nat) (pb_:Option Addr) (cb:Nat) (r:Nat) (T:Nat→Nat→Bool) (J:Bool×Int→Bool×Int→Prop) (ld:Bool×Int→Bool×Int) (w:World) (hg:dH g) (ha:AL w pa la) (hb:AL w pb_ lb) (hA:ALB la) (hB:ALB lb) (hAn:∀a,a∈la→∀p,p∈a.px.l→p<gW g*gH g) (hBn:∀a,a∈lb→∀p,p∈a.px.l→p<gW g*gH g) (hT:∀(i j:Nat) a b,la[i]? =some a→lb[j]? =some b→FG (gW g) r a.px.l b.px.l=T i j) (hJ:TJ la.length lb.length T J ld):
 Calls af 37 #[lL g,.slice pa la.length ca,.slice pb_ lb.length cb,.int .i64 (r:Int)] w fun e w'=>∃y:qv,y.l.map dD=uc (xg ld la.length) la.length lb.length∧e= .returned (.slice y.p y.l.length y.c)∧St (bs w) [own 104 3 y.p y.c (y.l.map l8),bV (y.l.map n9),bV (y.l.map n4)] w':=by
 have hal:=hA.n
 have hbl:=hB.n
 refine enter (vs:=[_,_,_,_]) (env:=[(0,_),(1,_),(2,_),(3,_)]) Tryz.func37 rfl rfl rfl rfl ?_
 refine au (aB rfl<|c8 (C:=#[_,_,_,_,_]) rfl rfl fun b1=>ax rfl<|aq<|au (ag rfl<|ah (bE yE (.r rfl) rfl) rfl<|ag rfl<|ah (bE yE (.r rfl) rfl) rfl<|ax rfl<|ax rfl<|aq<|av ?_))
 refine aM (ax rfl<|aq<|av<|au (ax rfl<|aq<|aD ?_))
 refine bS (α:=Nat×(List (cG Bool))×(Option Addr)×Nat) 0 (fun gx=>[(11,.slice gx.2.2.1 gx.2.1.length gx.2.2.2),(12,.int .i64 (gx.1:Nat))]) [(1,_),(2,_),(3,_),(4,_),(9,_),(10,_)] (fun gx=>[own 157 1 gx.2.2.1 gx.2.2.2 (gx.2.1.map lI),kZ 4 1 bC gx.2.1]) (fun gx=>gx.1≤la.length∧gx.2.1.map dw=(bF gx.1).map (tJ lb.length T)) (fun gx=>la.length-gx.1) (0,[],none,0) (by exact⟨aY _,rfl⟩) (.c4 rfl rfl rfl rfl (.c4 rfl rfl rfl rfl .nil)) (fun _ h=>((h.qi 4 1 bC).fX 157 1)) ?_
 rintro ⟨i,rs,pr,cr⟩ ⟨hi,hrs⟩
 show VC _ _ _ _ _ ([(11,.slice pr rs.length cr),(12,.int .i64 (i:Nat))]++_) ([own 157 1 pr cr (rs.map lI),kZ 4 1 bC rs]++_) _ _
 dsimp only at hi hrs
 have hrl:=congrArg dv hrs
 rw[ak,ak,jO]at hrl
 refine av<|au (ag rfl<|ag rfl<|dK rfl<|aq<|ay rfl (fun h27=>?_) (fun h27=>?_))
 ·
  refine aE (aj<|av<|aD<|au (ag rfl<|aB rfl<|HO.Au (f:=bC) (z0:=false) (n:=lb.length) rfl jj I4 (.r rfl) (.r rfl) rfl (by decide) (by omega) (by omega) fun b4=>aB rfl<|aW (LO.as (.r rfl))<|aN ?_))
  rw[show bH lb.length false=zM lb.length T i 0 from Ks]
  refine aj<|av<|au (ax rfl<|aq<|aD<|bS (α:=Nat) 1 (fun gx=>[(14,.int .i64 (gx:Nat))]) [(1,_),(2,_),(3,_),(4,_),(9,_),(10,_),(11,_),(12,_),(13,_)] (fun gx=>[own 4 1 (some ⟨b4,0,none⟩) lb.length ((zM lb.length T i gx).map bC)]) (fun gx=>gx≤lb.length) (fun gx=>lb.length-gx) 0 (by exact aY _) (.c4 rfl rfl rfl rfl (.c4 rfl rfl rfl rfl (.cons rfl (.cons rfl .nil)))) (fun _ h=>h) ?_)
  rintro j hj
  refine av<|au (ag rfl<|ag rfl<|dK rfl<|aq<|ay rfl (fun h34=>?_) (fun h34=>?_))
  ·
   obtain⟨aa,hai⟩:=du (l:=la) (n:=i) (by omega)
   obtain⟨bb,hbj⟩:=du (l:=lb) (n:=j) (by omega)
   refine aE (aj<|av<|aD<|VC.iI [[0,1,2,3],[1,2,3]] [some 0,some 0,some 0,some 0,some 0,some 0,some 0,some 0,some 0,some 0,some 0,some 0,some 0,some 0,none] mixed (by kernel_rfl) rfl (cT rfl<|cT rfl<|aG (fun _ hJ=>aX (vs:=[_,_,_,_,_]) qw (.r rfl) (fun _ hw=>cN (hJ _ hw) 3 rfl ⟨_,rfl⟩) rfl) rfl<|cT rfl<|cT rfl<|aG (fun _ hJ=>bM yE Fm ha.ar.sm (.r rfl) (.r rfl) rfl (by omega)) rfl<|aG (fun _ hJ=>aX (vs:=[_,_,_,_,_,_,_,_]) Ap (.r rfl) (fun w hw=>aA (off:=0) ((fun w3 h3=>cY (ha.ar.b0 w3 h3) hai) w (hJ _ hw)) ⟨_,rfl⟩) rfl) rfl<|cT rfl<|cT rfl<|aG (fun _ hJ=>bM yE Fm hb.ar.sm (.r rfl) (.r rfl) rfl (by omega)) rfl<|aG (fun _ hJ=>aX (vs:=[_,_,_,_,_,_,_,_]) Ap (.r rfl) (fun w hw=>aA (off:=0) ((fun w3 h3=>cY (hb.ar.b0 w3 h3) hbj) w (hJ _ hw)) ⟨_,rfl⟩) rfl) rfl<|cT rfl<|aG (fun _ hJ=>bK (xs:=[_,_,_,_]) (vs:=[_,_,_,_]) C73 ⟨(.r rfl),(.r rfl),(.r rfl),(.r rfl),trivial⟩ (fun w2 hw=>Pu g aa bb r w2 hg ((ha.px aa (al hai)).b0 w2 hw) ((hb.px bb (al hbj)).b0 w2 hw) (hAn aa (al hai)) (hBn bb (al hbj)) (hA.px aa (al hai)) (hB.px bb (al hbj)))) rfl<|aG (fun _ hJ=>cy jj N4 (fun _ hw=>(bL (hJ _ hw) 0 rfl).some (by rw[ak,D6])) (.r rfl) (.r rfl) rfl (by omega)) rfl<|dC<|LX.nil) (az<|az<|az<|az<|az<|az<|az<|az<|az<|az<|az<|az<|az<|az<|HX.h0<|HO.zF 0 (fun R=>[R,_,_,_]) ((FG (gW g) r aa.px.l bb.px.l)) (vs:=[_]) N4 (.r rfl) (.r rfl) rfl (by rw[D6];omega) rfl rfl rfl rfl rfl (fun _=>rfl)<|⟨fun _ hw=>hw.gY [1,2,3] rfl,HX.nil ?_⟩))
   rw[NN (by omega) (hT i j aa bb hai hbj)]
   refine bB (aj<|aM (ag rfl<|da rfl rfl (by omega) (by omega) rfl<|ax rfl<|aN<|aZ fun a w ha hw=>⟨j+1,(by omega),(by omega),ha.sub (.c4 rfl rfl rfl rfl (.c4 rfl rfl rfl rfl (.cons rfl (.cons rfl .nil)))),hw⟩))
  ·
   have hje:j=lb.length:=by omega
   subst hje
   rw[Pb]
   refine bU (aH (aH (cB (aj<|aM (ag rfl<|ah (eN (aS (.r rfl)) (show il (some ⟨b4,0,none⟩) lb.length lb.length=il (some ⟨b4,0,none⟩) (tJ lb.length T i).length lb.length from by rw[DL])) rfl<|aB rfl<|eW (ps:=[(_,_)]) (vs:=[(_,_)]) (Z:=[_]) (C:=[_]) Sl acg ZF ⟨(.r rfl),trivial⟩ rfl rfl rfl rfl ⟨_,[_],[_],rfl,rfl,rfl,rfl,rfl⟩ fun b5=>aB rfl<|eP ((⟨some ⟨b4,0,none⟩,lb.length,tJ lb.length T i⟩:cG Bool)) 2 0 (fun R=>[_,_,R,_,_]) Sl Sl abC (.r rfl) (.r rfl) rfl rfl rfl rfl rfl rfl rfl (fun _=>rfl) rfl (by omega) fun p3 c3=>aB rfl<|aW (LO.as (.r rfl))<|aN<|bB (aj<|aM (ag rfl<|da rfl rfl (by omega) (by omega) rfl<|ax rfl<|aN<|aZ fun a w ha hw=>⟨(i+1,rs++[(⟨some ⟨b4,0,none⟩,lb.length,tJ lb.length T i⟩:cG Bool)],p3,c3),⟨by dsimp only;omega,by dsimp only;rw[bG,hrs,W0];rfl⟩,(by dsimp only;omega),ha.sub (.c4 rfl rfl rfl rfl (.c4 rfl rfl rfl rfl .nil)),(by exact dq (L1:=[_,_,_]) [2,0,3] rfl rfl _ (St.wg (E:=4) (z:=1) (f:=bC) (x:=(⟨some ⟨b4,0,none⟩,lb.length,tJ lb.length T i⟩:cG Bool)) (dq (L1:=[_,_,_,_,_]) [1,3,0,2,4] rfl rfl _ hw)))⟩)))))))
 ·
  have hie:i=la.length:=by omega
  subst hie
  refine bU (aH (aH (cB (aj<|av<|VC.nF fun w1 hst1=>?_))))
  have hto:R8 w1 la.length lb.length T pr rs:=⟨RR.gM hst1 0 1 rfl rfl,hrs⟩
  refine aM (ax rfl<|aq<|au (ag rfl<|ag rfl<|ah (eN (LO.add (.r rfl) (.r rfl) (wi (by omega) (by omega))) (congrArg (cX .i64) (Int.natCast_add _ _).symm)) rfl<|aB rfl<|HO.Au (f:=bC) (z0:=false) (n:=(la.length+lb.length)) rfl jj I4 (.r rfl) (.r rfl) rfl (by decide) (by omega) (by omega) fun b6=>aB rfl<|aW (LO.as (.r rfl))<|aN ?_))
  rw[show bH (la.length+lb.length) false=kM (xg ld la.length) la.length lb.length 0 [] 0 from Kr]
  refine aj<|av<|au (ax rfl<|aq<|aD<|bS (α:=Nat×(List db)×(Option Addr)×Nat) 1 (fun gx=>[(15,.slice gx.2.2.1 gx.2.1.length gx.2.2.2),(17,.int .i64 (gx.1:Nat))]) [(9,_),(10,_),(11,_),(16,_)] (fun gx=>[own 4 1 (some ⟨b6,0,none⟩) (la.length+lb.length) ((kM (xg ld la.length) la.length lb.length gx.1 [] 0).map bC),own 104 3 gx.2.2.1 gx.2.2.2 (gx.2.1.map l8),bV (gx.2.1.map n9),bV (gx.2.1.map n4)]) (fun gx=>gx.1≤la.length+lb.length∧gx.2.1.map dD=pN (xg ld la.length) la.length lb.length gx.1) (fun gx=>la.length+lb.length-gx.1) (0,[],none,0) (by exact⟨aY _,by rw[FW];rfl⟩) (.c4 rfl rfl rfl rfl (.cons rfl (.cons rfl .nil))) (fun _ h=>(((St.bV (Rs:=[]) (St.bV (Rs:=[]) h)).fX 104 3)).gY [3,0,1,2] rfl) ?_)
  rintro ⟨k,l,pe,ce⟩ ⟨hk,hl⟩
  show VC _ _ _ _ _ ([(15,.slice pe l.length ce),(17,.int .i64 (k:Nat))]++_) ([own 4 1 (some ⟨b6,0,none⟩) (la.length+lb.length) ((kM (xg ld la.length) la.length lb.length k [] 0).map bC),own 104 3 pe ce (l.map l8),bV (l.map n9),bV (l.map n4)]++_) _ _
  dsimp only at hk hl
  have hll:=K7 (κ:=xg ld la.length) (n:=la.length) (m:=lb.length) (k:=k)
  rw[←hl,ak]at hll
  refine av<|au (ag rfl<|ag rfl<|ag rfl<|da rfl rfl (by omega) (by omega) rfl<|dK rfl<|aq<|ay rfl (fun h63=>?_) (fun h63=>?_))
  ·
   refine aE (aj<|av<|aD<|av<|au (ag rfl<|ag rfl<|ah (cy jj N4 (fun _ hw=>(bL hw 0 rfl).some (by rw[ak];unfold kM;rw[gn])) (.r rfl) (.r rfl) rfl (by omega)) rfl<|ah (aC O4 (.r rfl) (fun w hw=>aA (off:=0) (cO hw 0 rfl (sg (n:=k) (by unfold kM;rw[gn];omega))) ⟨_,rfl⟩)) rfl<|aq ?_))
   refine ay rfl (fun h69=>?_) (fun h69=>?_)
   ·
    have hnf:iT (xg ld la.length) k=false:=by rw[Jd (by omega)]at h69;simpa using h69
    have hold:=NH (n:=la.length) (m:=lb.length) hnf
    refine bU (aH (cB (aj<|aM (ag rfl<|da rfl rfl (by omega) (by omega) rfl<|ax rfl<|aN ?_))))
    rw[←hold.1]
    refine aZ fun a w ha hw=>⟨(k+1,l,pe,ce),⟨by dsimp only;omega,by dsimp only;rw[hold.2];exact hl⟩,(by dsimp only;omega),ha.sub (.c4 rfl rfl rfl rfl (.cons rfl (.cons rfl .nil))),(by exact dq (L1:=[_,_,_,_]) [0,1,2,3] rfl rfl _ hw)⟩
   ·
    have hif_:iT (xg ld la.length) k=true:=by rw[Jd (by omega)]at h69;simpa using h69
    refine aE (aj<|au (ag rfl<|ag rfl<|ag rfl<|ag rfl<|aB rfl<|cd (xs:=[_,_,_,_]) (vs:=[_,_,_,_]) C74 ⟨(.r rfl),(.r rfl),(.r rfl),(.r rfl),trivial⟩ (fun w2 hw=>NF la.length lb.length k T J ld pr cr rs w2 (hto.b0 w2 hw) hJ (by omega) (by omega)) fun y hy=>aB rfl<|cJ (C:=#[_,_,_]) Ef rfl fun b12=>cu<|cq 0 (vs:=[_,_,_]) (C':=[_,_,_]) (L':=[_,_,_,_,_,_,_]) rZ rfl rfl rfl rfl rfl rfl rfl rfl<|aN ?_))
    obtain⟨hyf,hyt⟩:=hy
    have hfl:=QW (κ:=xg ld la.length) (n:=la.length) (m:=lb.length) (k:=k)
    rw[←hyf, ←hyt]at hfl
    rw[FA (l:=(y.f++y.t.map (la.length+ ·)))]
    refine aj<|av<|au (ax rfl<|aq<|aD<|gw [3,0,1,2,4,5,6] rfl ?_)
    refine bS (α:=Nat) 1 (fun gx=>[(19,.int .i64 (gx:Nat))]) [(9,_),(10,_),(11,_),(15,_),(16,_),(17,_),(18,_)] (fun gx=>[own 4 1 (some ⟨b6,0,none⟩) (la.length+lb.length) ((kM (xg ld la.length) la.length lb.length k (y.f++y.t.map (la.length+ ·)) gx).map bC)]) (fun gx=>gx≤y.f.length) (fun gx=>y.f.length-gx) 0 (by exact aY _) (.c4 rfl rfl rfl rfl (.c4 rfl rfl rfl rfl .nil)) (fun _ h=>h) ?_
    rintro i hif
    refine av<|au (ag rfl<|bO (r:=1) uh rfl<|cL 1 iL rfl rfl ⟨_,rfl⟩ rfl<|ah (bE fk (.r rfl) rfl) rfl<|dK rfl<|aq<|ay rfl (fun h79=>?_) (fun h79=>?_))
    ·
     obtain⟨x,hxf⟩:=du (l:=y.f) (n:=i) (by omega)
     have hxl:=(Pd (κ:=xg ld la.length) (n:=la.length) (m:=lb.length) (k:=k)).1 x (by rw[←hyf];exact al hxf)
     refine aE (aj<|av<|aD<|aM (ag rfl<|bO (r:=1) uh rfl<|cL 1 iL rfl rfl ⟨_,rfl⟩ rfl<|ag rfl<|ah (cy fk N3 (fun _ hw=>(bL hw 2 rfl).some (by rw[ak])) (.r rfl) (.r rfl) rfl (by omega)) rfl<|ah (aC O3 (.r rfl) (fun w hw=>aA (off:=0) (cO hw 2 rfl hxf) ⟨_,rfl⟩)) rfl<|ah (cy jj N4 (fun _ hw=>(bL hw 0 rfl).some (by rw[ak];unfold kM;rw[gn])) (.r rfl) (.r rfl) rfl (by omega)) rfl<|cu<|HO.zF 0 (fun R=>[R,_,_,_,_,_,_]) (true) (vs:=[_]) N4 (.r rfl) (.r rfl) rfl (by unfold kM;rw[gn];omega) rfl rfl rfl rfl rfl (fun _=>rfl)<|aN ?_))
     rw[AX (abo hxf) (by omega)]
     refine bB (aj<|aM (ag rfl<|da rfl rfl (by omega) (by omega) rfl<|ax rfl<|aN<|aZ fun a w ha hw=>⟨i+1,(by omega),(by omega),ha.sub (.c4 rfl rfl rfl rfl (.c4 rfl rfl rfl rfl .nil)),hw⟩))
    ·
     have hie:i=y.f.length:=by omega
     subst hie
     refine bU (aH (aH (cB (aj<|av<|au (ax rfl<|aq<|aD<|bS (α:=Nat) 1 (fun gx=>[(20,.int .i64 (gx:Nat))]) [(9,_),(10,_),(11,_),(15,_),(16,_),(17,_),(18,_)] (fun gx=>[own 4 1 (some ⟨b6,0,none⟩) (la.length+lb.length) ((kM (xg ld la.length) la.length lb.length k (y.f++y.t.map (la.length+ ·)) (y.f.length+gx)).map bC)]) (fun gx=>gx≤y.t.length) (fun gx=>y.t.length-gx) 0 (by exact aY _) (.c4 rfl rfl rfl rfl (.c4 rfl rfl rfl rfl .nil)) (fun _ h=>h) ?_)))))
     rintro i hit
     refine av<|au (ag rfl<|bO (r:=2) rf rfl<|cL 1 iL rfl rfl ⟨_,rfl⟩ rfl<|ah (bE fk (.r rfl) rfl) rfl<|dK rfl<|aq<|ay rfl (fun h93=>?_) (fun h93=>?_))
     ·
      obtain⟨x,hxt⟩:=du (l:=y.t) (n:=i) (by omega)
      have hxl:=(Pd (κ:=xg ld la.length) (n:=la.length) (m:=lb.length) (k:=k)).2 x (by rw[←hyt];exact al hxt)
      refine aE (aj<|av<|aD<|aM (ag rfl<|ag rfl<|bO (r:=2) rf rfl<|cL 1 iL rfl rfl ⟨_,rfl⟩ rfl<|ag rfl<|ah (cy fk N3 (fun _ hw=>(bL hw 3 rfl).some (by rw[ak])) (.r rfl) (.r rfl) rfl (by omega)) rfl<|ah (aC O3 (.r rfl) (fun w hw=>aA (off:=0) (cO hw 3 rfl hxt) ⟨_,rfl⟩)) rfl<|ah (eN (LO.add (.r rfl) (.r rfl) (wi (by omega) (by omega))) (congrArg (cX .i64) (Int.natCast_add _ _).symm)) rfl<|ah (cy jj N4 (fun _ hw=>(bL hw 0 rfl).some (by rw[ak];unfold kM;rw[gn])) (.r rfl) (.r rfl) rfl (by omega)) rfl<|cu<|HO.zF 0 (fun R=>[R,_,_,_,_,_,_]) (true) (vs:=[_]) N4 (.r rfl) (.r rfl) rfl (by unfold kM;rw[gn];omega) rfl rfl rfl rfl rfl (fun _=>rfl)<|aN ?_))
      rw[AX (abk hxt) (by omega)]
      refine bB (aj<|aM (ag rfl<|da rfl rfl (by omega) (by omega) rfl<|ax rfl<|aN<|aZ fun a w ha hw=>⟨i+1,(by omega),(by omega),ha.sub (.c4 rfl rfl rfl rfl (.c4 rfl rfl rfl rfl .nil)),hw⟩))
     ·
      have hie:i=y.t.length:=by omega
      subst hie
      have hend:=N7 (n:=la.length) (m:=lb.length) hif_ hyf hyt
      refine bU (aH (aH (cB (aj<|aM (ag rfl<|ah (aX (vs:=[_,_,_]) As (.r rfl) (aF 1 rfl ⟨_,rfl⟩) rfl) rfl<|aB rfl<|eW (ps:=[(_,_)]) (vs:=[(_,_)]) (Z:=[_,_,_]) (C:=[_,_,_]) FD Ef rZ ⟨(.r rfl),trivial⟩ rfl rfl rfl rfl ⟨_,[_,_,_],[_,_,_],rfl,rfl,rfl,rfl,rfl⟩ fun b14=>aB rfl<|eP ((⟨iR y.f.length y.t.length,y.fp,y.fc,y.f,y.tp,y.tc,y.t⟩:db)) 5 0 (fun R=>[_,_,_,_,_,R,_,_]) FD FD abE (.r rfl) (.r rfl) rfl rfl rfl rfl rfl rfl rfl (fun _=>rfl) rfl (by omega) fun p3 c3=>aB rfl<|aW (LO.as (.r rfl))<|aN<|bB (aj<|aM (ag rfl<|da rfl rfl (by omega) (by omega) rfl<|ax rfl<|aN ?_)))))))
      rw[hend.1]
      refine aZ fun a w ha hw=>⟨(k+1,l++[(⟨iR y.f.length y.t.length,y.fp,y.fc,y.f,y.tp,y.tc,y.t⟩:db)],p3,c3),⟨by dsimp only;omega,by dsimp only;rw[bG,hl,hend.2];rfl⟩,(by dsimp only;omega),ha.sub (.c4 rfl rfl rfl rfl (.cons rfl (.cons rfl .nil))),(by exact dq (L1:=[_,_,_,_]) [3,5,0,1] rfl rfl _ (St.acp (e:=(⟨iR y.f.length y.t.length,y.fp,y.fc,y.f,y.tp,y.tc,y.t⟩:db)) (dq (L1:=[_,_,_,_,_,_,_,_]) [3,4,6,7,0,1,2,5] rfl rfl _ hw)))⟩
  ·
   have hke:k=la.length+lb.length:=by omega
   subst hke
   refine bU (aH (aH (cB (aj<|au (ag rfl<|ax rfl<|aq<|be (dP rfl rfl (fun w hw=>?_)))))))
   rw[J8]at hl
   have hf:=hst1.call (dq (L1:=[_,_,_]) [1,2,3] rfl rfl _ hw)
   exact⟨⟨l,pe,ce⟩,hl,rfl,dq [0,1,2] rfl rfl _ hf⟩
theorem C78:fh af 78:=⟨_,Tryz.func78,by decide,rfl⟩
theorem Ym {α:Type} (J:α→α→Prop):∃ld:α→α,∀a b,ld a=ld b↔vQ J a b:=by
 let s:Setoid α:=⟨vQ J,⟨fun x=>.refl x,fun h=>.symm h,fun h k=>.trans h k⟩⟩
 have key:∀q:Quotient s,∃a,rQ s a=q:=fun q=>Quotient.exists_rep q
 let out:Quotient s→α:=fun q=>Classical.choose (key q)
 have hout:∀q,rQ s (out q)=q:=fun q=>Classical.choose_spec (key q)
 refine⟨fun a=>out (rQ s a),fun a b=>⟨fun h=>?_,fun h=>?_⟩⟩
 ·have h:out (rQ s a)=out (rQ s b):=h
  have h1:=hout (rQ s a)
  rw[h,hout]at h1
  exact(Quotient.exact h1.symm:vQ J a b)
 ·have e:rQ s a=rQ s b:=Quotient.sound h
  show out (rQ s a)=out (rQ s b)
  rw[e]
theorem O2 {W H:Nat} {vs:List Span} {lv:Int} {y:uE} (h:Ax W H vs lv y) {i:Nat} {a:di} (ha:y.l[i]? =some a):(dM W H (et vs lv))[i]? =some a.px.l:=by rw[←Ua h,aI,ha];rfl
theorem Mx {W H:Nat} {vs:List Span} {lv:Int} {y:uE} (h:Ax W H vs lv y):y.l.length=(dM W H (et vs lv)).length:=by rw[←Ua h,ak]
theorem MB {W H q:Nat} {S:Nat→Bool} (h:q<W*H):(mH W H S).getD q (-1)=iG (dM W H S) q:=by rw[aO,ru h];rfl
theorem zx {W H:Nat} {vs:List Span} {lv:Int} {y:uE} (h:Ax W H vs lv y) {j:Nat} {b:di} (hb:y.l[j]? =some b):∀q,q<W*H→((mH W H (et vs lv)).getD q (-1)=(j:Int)↔q∈b.px.l):=fun q hq=>by
 rw[MB hq]
 constructor
 ·intro e
  obtain⟨i,l,h1,h2,h3⟩:=Cg (q:=q) (ls:=dM W H (et vs lv)) (by omega)
  have:i=j:=by omega
  subst this
  rw[O2 h hb]at h1
  cases h1;exact h2
 ·intro hm
  exact Fi (sO (cg _)) (O2 h hb) hm
theorem Jj {W H:Nat} {vs:List Span} {lv:Int} {y:uE} (h:Ax W H vs lv y):∀a,a∈y.l→∀p,p∈a.px.l→p<W*H:=fun a ha p hp=>by
 obtain⟨i,hi⟩:=List.mem_iff_getElem?.1 ha
 exact(oA (cg _) (al (O2 h hi)) hp).2.1
def tT (W r:Nat) (y z:uE) (i j:Nat):Bool:=FG W r (y.l.getD i Zx).px.l (z.l.getD j Zx).px.l
theorem Pw {W r:Nat} {y z:uE} {i j:Nat} {a b:di} (ha:y.l[i]? =some a) (hb:z.l[j]? =some b):FG W r a.px.l b.px.l=tT W r y z i j:=by
 unfold tT
 rw[aO,ha,aO,hb];rfl
theorem MU {W r p q:Nat}:Kv W r p q=true↔(q / W≤p / W+r∧p / W≤q / W+r)∧q%W≤p%W+r∧p%W≤q%W+r:=by
 unfold Kv;rw[decide_eq_true_eq];omega
theorem WZ {W H r:Nat} {lv:Int} {v1 v2:List Span} {y z:uE} {ld:Bool×Int→Bool×Int} (h1:Ax W H v1 lv y) (h2:Ax W H v2 lv z) (hld:∀a b,ld a=ld b↔vQ (Yc W H r (mH W H (et v1 lv)) (mH W H (et v2 lv))) a b):TJ y.l.length z.l.length (tT W r y z) (Yc W H r (mH W H (et v1 lv)) (mH W H (et v2 lv))) ld where
 eq:=hld
 to:=fun a b hJ=>by
  obtain⟨p,v,u,hp⟩:=hJ.ex
  have hpl:=hp.hp
  obtain⟨_,_,hv⟩:=hp.hv
  obtain⟨_,_,hu⟩:=hp.hu
  have hq:v*W+u<W*H:=by rw[jF v W];exact vV hu hv
  obtain⟨ea,ha⟩:=hp.ha
  obtain⟨eb,hb⟩:=hp.hb
  rw[MB hpl]at ea ha
  rw[MB hq]at eb hb
  obtain⟨i,l,i1,i2,i3⟩:=Cg ha
  obtain⟨j,m,j1,j2,j3⟩:=Cg hb
  have hi:i<y.l.length:=by rw[Mx h1];exact(an.1 i1).1
  have hj:j<z.l.length:=by rw[Mx h2];exact(an.1 j1).1
  obtain⟨x1,hx1⟩:=du hi
  obtain⟨x2,hx2⟩:=du hj
  have e1:=O2 h1 hx1
  have e2:=O2 h2 hx2
  rw[i1]at e1
  rw[j1]at e2
  have e1:=eI e1
  have e2:=eI e2
  refine⟨i,j,hi,hj,by rw[ea,i3],by rw[eb,j3],?_⟩
  rw[←Pw hx1 hx2, ←e1, ←e2]
  have hd:=Bv (W:=W) (p:=v*W+u) (a:=v) (b:=u) (by rw[jF]) hu
  refine dY.2 ⟨p,i2,dY.2 ⟨_,j2,MU.2 ?_⟩⟩
  rw[hd.1,hd.2]
  exact⟨⟨hp.hv.1,hp.hv.2.1⟩,hp.hu.1,hp.hu.2.1⟩
 of:=fun i j hi hj ht=>by
  obtain⟨x1,hx1⟩:=du hi
  obtain⟨x2,hx2⟩:=du hj
  rw[←Pw hx1 hx2]at ht
  obtain⟨p,hp,ht⟩:=dY.1 ht
  obtain⟨q,hq,ht⟩:=dY.1 ht
  have ht:=MU.1 ht
  have hpl:=Jj h1 x1 (al hx1) p hp
  have hql:=Jj h2 x2 (al hx2) q hq
  have hW:0<W:=Nat.pos_of_ne_zero fun z=>by subst z;simp at hpl
  have ed:q / W*W+q%W=q:=by rw[jF];exact Nat.div_add_mod q W
  refine⟨p,q / W,q%W,⟨hpl,⟨ht.1.1,ht.1.2,uu hql⟩,⟨ht.2.1,ht.2.2,Nat.mod_lt _ hW⟩,⟨?_,?_⟩,?_⟩⟩
  ·rw[(zx h1 hx1 p hpl).2 hp]
  ·rw[(zx h1 hx1 p hpl).2 hp];exact fW _
  ·rw[ed,(zx h2 hx2 q hql).2 hq];exact⟨rfl,fW _⟩
theorem Jr {W H:Nat} {vs:List Span} {lv:Int} {y:uE} (h:Ax W H vs lv y) (hW:W*H≤4096):ALB y.l:=OF hW h.m
theorem VF (l:List Nat) (p:Option Addr) (c:Nat) (n:Int) (w:World) (hl:RO 1 nC w p l) (hn:l.length≤1000000):Calls af 78 #[.slice p l.length c,.int .i64 n] w fun e w'=>e= .returned (.bool (decide (n∈l.map fun k:Nat=>(k:Int))))∧St (bs w) [] w':=by
 have z:=OS (l.map fun n:Nat=>(n:Int)) p c n w (Rj hl) (by rw[ak];exact hn)
 rw[ak]at z
 exact z
theorem zu {g:eo} {of:List Int} {l:List Nat} {j x y:Int} {p:Nat} (hg:dH g) (hof:∀q,q<gW g*gH g→(of.getD q (-1)=j↔q∈l)):
 rS (gW g) (gH g) of j x y p=true↔¬((((0≤((p%gW g:Nat):Int)+x∧((p%gW g:Nat):Int)+x<g.wide)∧0≤((p / gW g:Nat):Int)+y)∧((p / gW g:Nat):Int)+y<g.high)∧¬((((p / gW g:Nat):Int)+y)*g.wide+(((p%gW g:Nat):Int)+x)∈l.map fun k:Nat=>(k:Int))):=by
 by_cases hin:(((p%gW g:Nat):Int)+x<0∨g.wide≤((p%gW g:Nat):Int)+x∨((p / gW g:Nat):Int)+y<0∨g.high≤((p / gW g:Nat):Int)+y)
 ·rw[zj hg hin]
  exact⟨fun _ z=>by omega,fun _=>rfl⟩
 ·obtain⟨q,hq1,hq2,hq3⟩:=target hg (x:=((p%gW g:Nat):Int)+x) (y:=((p / gW g:Nat):Int)+y) hin
  rw[uJ hg hin hq3,decide_eq_true_eq,hof q hq2,hq1,Bm]
  exact⟨fun h z=>z.2 h,fun h=>Classical.byContradiction fun z=>h ⟨by omega,z⟩⟩
theorem zz (g:eo) (a b:di) (of:List Int) (j:Nat) (mx my:Int) (w:World) (hgr:dH g) (hka:RR 1 nC w a.kp a.kr) (hb:RO 1 nC w b.px.p b.px.l) (hks:zn (gW g) (gH g) (a.kr.map dw)) (hbl:b.px.l.length≤4096) (hof:∀q,q<gW g*gH g→(of.getD q (-1)=(j:Int)↔q∈b.px.l)) (hx: -8≤mx∧mx≤8) (hy: -8≤my∧my≤8):
 Calls af 99 #[lL g,.agg #[.slice a.px.p a.px.l.length a.px.c,.slice a.kp a.kr.length a.kc,.int .i64 a.s.xl,.int .i64 a.s.xh,.int .i64 a.s.yl,.int .i64 a.s.yh,.int .i64 a.s.sl,.int .i64 a.s.sh],.agg #[.slice b.px.p b.px.l.length b.px.c,.slice b.kp b.kr.length b.kc,.int .i64 b.s.xl,.int .i64 b.s.xh,.int .i64 b.s.yl,.int .i64 b.s.yh,.int .i64 b.s.sl,.int .i64 b.s.sh],.int .i64 mx,.int .i64 my] w fun e w'=>e= .returned (.bool (oC (gW g) (gH g) (a.kr.map dw) of j mx my))∧St (bs w) [] w':=by
 have har:=iM hgr
 have hkn:=hks.1
 rw[ak]at hkn
 obtain⟨hW,hH,hW1,hW2,hH1,hH2⟩:=An hgr
 refine enter (vs:=[_,_,_,_,_]) (env:=[(0,_),(1,_),(2,_),(3,_),(4,_)]) Tryz.func99 rfl rfl rfl rfl ?_
 refine au (aB rfl<|c8 (C:=#[_,_,_,_,_]) rfl rfl fun b1=>aB rfl<|c8 (C:=#[_,_,_,_,_,_,_,_]) rfl rfl fun b2=>aB rfl<|c8 (C:=#[_,_,_,_,_,_,_,_]) rfl rfl fun b3=>ax rfl<|aq<|av<|au (ax rfl<|aq ?_))
 refine aD<|bS (α:=Nat) 0 (fun gx=>[(11,.int .i64 (gx:Nat))]) [(3,_),(4,_),(5,_),(6,_),(7,_)] (fun gx=>[]) (fun gx=>gx≤a.kr.length∧∀i k,i<gx→a.kr[i]? =some k→k.l.all (rS (gW g) (gH g) of j mx my)=true) (fun gx=>a.kr.length-gx) 0 (by exact⟨aY _,fun i k h=>absurd h (cQ _)⟩) (.c4 rfl rfl rfl rfl (.cons rfl (.cons rfl .nil))) (fun _ h=>h) ?_
 rintro n ⟨hn,hz⟩
 refine av<|au (ag rfl<|bO (r:=1) BL rfl<|cL 1 XK rfl rfl ⟨_,rfl⟩ rfl<|ah (bE tQ (.r rfl) rfl) rfl<|dK rfl<|aq<|ay rfl (fun h20=>?_) (fun h20=>?_))
 ·
  obtain⟨k,hk⟩:=du (l:=a.kr) (n:=n) (by omega)
  obtain⟨hkl,hkm⟩:=hks.2 k.l (bw (al hk))
  refine aE (aj<|av<|aD<|au (ax rfl<|aq<|aD ?_))
  refine bS (α:=Nat) 0 (fun gx=>[(12,.int .i64 (gx:Nat))]) [(3,_),(4,_),(5,_),(6,_),(7,_),(11,_)] (fun gx=>[]) (fun gx=>gx≤k.l.length∧∀i p,i<gx→k.l[i]? =some p→rS (gW g) (gH g) of j mx my p=true) (fun gx=>k.l.length-gx) 0 (by exact⟨aY _,fun i k h=>absurd h (cQ _)⟩) (.c4 rfl rfl rfl rfl (.cons rfl (.cons rfl (.cons rfl .nil)))) (fun _ h=>h) ?_
  rintro m ⟨hm,hzm⟩
  refine av<|au (ag rfl<|bO (r:=1) BL rfl<|cL 1 XK rfl rfl ⟨_,rfl⟩ rfl<|ag rfl<|ah (bM tQ qL hka.1.sm (.r rfl) (.r rfl) rfl (by omega)) rfl<|ah (aC iL (.r rfl) (fun w hw=>aA (off:=0) ((fun w3 h3=>RR.cell (RR.b0 hka w3 h3) hk) w hw) ⟨_,rfl⟩)) rfl<|ah (bE fk (.r rfl) rfl) rfl<|dK rfl<|aq<|ay rfl (fun h30=>?_) (fun h30=>?_))
  ·
   obtain⟨p,hp⟩:=du (l:=k.l) (n:=m) (by omega)
   have hpm:=hkm p (al hp)
   refine aE (aj<|av<|aD<|au (bO (r:=1) BL rfl<|cL 1 XK rfl rfl ⟨_,rfl⟩ rfl<|ag rfl<|ah (bM tQ qL hka.1.sm (.r rfl) (.r rfl) rfl (by omega)) rfl<|ah (aC iL (.r rfl) (fun w hw=>aA (off:=0) ((fun w3 h3=>RR.cell (RR.b0 hka w3 h3) hk) w hw) ⟨_,rfl⟩)) rfl<|ag rfl<|ah (bM fk N3 (RR.row hka hk).sm (.r rfl) (.r rfl) rfl (by omega)) rfl<|ah (aC O3 (.r rfl) (fun w hw=>aA (off:=0) ((fun w3 h3=>cY (RR.row (RR.b0 hka w3 h3) hk) hp) w hw) ⟨_,rfl⟩)) rfl<|ax rfl<|aq<|av ?_))
   have hpd:=nE hgr (p:=p) (by omega)
   have hpr:p%gW g<gW g:=Nat.mod_lt _ (by omega)
   refine gj mixed (eT rfl<|bl (aP (r:=3) iQ (.r rfl) rfl) rfl<|bl (aC O3 (.r rfl) (aF 2 rfl ⟨_,rfl⟩)) rfl<|bl (eN (LO.rem (.r rfl) (.r rfl) (by omega)) (congrArg (cX .i64) (sK hgr p))) rfl<|eT rfl<|bl (LO.add (.r rfl) (.r rfl) (wi (by omega) (by omega))) rfl<|eT rfl<|bl (aP (r:=3) iQ (.r rfl) rfl) rfl<|bl (aC O3 (.r rfl) (aF 2 rfl ⟨_,rfl⟩)) rfl<|bl (eN (LO.quo (.r rfl) (.r rfl) (by omega) (wi (by rw[jB hgr];have:=nE hgr (p:=p) (by omega);omega) (by rw[jB hgr];have:=nE hgr (p:=p) (by omega);omega))) (congrArg (cX .i64) (jB hgr p))) rfl<|eT rfl<|bl (LO.add (.r rfl) (.r rfl) (wi (by omega) (by omega))) rfl<|bl (LO.as (.r rfl)) rfl<|bl (LO.as (.r rfl)) rfl<|LL.nil) (by kernel_rfl)<|aj<|au (ag rfl<|ah (LO.ge (.r rfl) (.r rfl)) rfl<|ag rfl<|bh rfl (fun hg=>aS (.r rfl))<|bh rfl (fun hg=>aP (r:=3) iQ (.r rfl) rfl)<|bh rfl (fun hg=>aC O3 (.g hg rfl) (aF 2 rfl ⟨_,rfl⟩))<|bh rfl (fun hg=>LO.lt (.g hg rfl) (.g hg rfl))<|ah (e7 (.r rfl) rfl rfl (.r rfl)) rfl<|ag rfl<|bh rfl (fun hg=>aS (.r rfl))<|bh rfl (fun hg=>LO.ge (.g hg rfl) (.r rfl))<|ah (e7 (.r rfl) rfl rfl (.r rfl)) rfl<|ag rfl<|bh rfl (fun hg=>aS (.r rfl))<|bh rfl (fun hg=>aP (r:=4) uH (.r rfl) rfl)<|bh rfl (fun hg=>aC O3 (.g hg rfl) (aF 2 rfl ⟨_,rfl⟩))<|bh rfl (fun hg=>LO.lt (.g hg rfl) (.g hg rfl))<|ah (e7 (.r rfl) rfl rfl (.r rfl)) rfl<|ag rfl<|bh rfl (fun hg=>aP (r:=0) zg (.r rfl) rfl)<|bh rfl (fun hg=>aC iL (.g hg rfl) (aF 0 rfl ⟨_,rfl⟩))<|bh rfl (fun hg=>aS (.r rfl))<|bh rfl (fun hg=>aP (r:=3) iQ (.r rfl) rfl)<|bh rfl (fun hg=>aC O3 (.g hg rfl) (aF 2 rfl ⟨_,rfl⟩))<|bh rfl (fun hg=>LO.mul (.g hg rfl) (.g hg rfl) (wi (by have z:=hg;simp only[bD,decide_eq_true_eq]at z;obtain⟨q,hq1,hq2,hq3⟩:=target hgr (x:=((p%gW g:Nat):Int)+mx) (y:=((p / gW g:Nat):Int)+my) (by omega);omega) (by have z:=hg;simp only[bD,decide_eq_true_eq]at z;obtain⟨q,hq1,hq2,hq3⟩:=target hgr (x:=((p%gW g:Nat):Int)+mx) (y:=((p / gW g:Nat):Int)+my) (by omega);omega)))<|bh rfl (fun hg=>aS (.r rfl))<|bh rfl (fun hg=>LO.add (.g hg rfl) (.g hg rfl) (wi (by have z:=hg;simp only[bD,decide_eq_true_eq]at z;obtain⟨q,hq1,hq2,hq3⟩:=target hgr (x:=((p%gW g:Nat):Int)+mx) (y:=((p / gW g:Nat):Int)+my) (by omega);omega) (by have z:=hg;simp only[bD,decide_eq_true_eq]at z;obtain⟨q,hq1,hq2,hq3⟩:=target hgr (x:=((p%gW g:Nat):Int)+mx) (y:=((p / gW g:Nat):Int)+my) (by omega);omega)))<|bh rfl (fun hg=>bK (xs:=[_,_]) (vs:=[_,_]) C78 ⟨(.g hg rfl),(.g hg rfl),trivial⟩ (fun w2 hw=>VF b.px.l b.px.p b.px.c _ w2 (hb.b0 w2 hw) (by omega)))<|bh rfl (fun hg=>LO.not (.g hg rfl))<|ah (e7 (.r rfl) rfl rfl (.r rfl)) rfl<|aq<|ay rfl (fun h82=>?_) (fun h82=>?_))
   ·
    refine au (ax rfl<|aq<|be (dA (bA (bA (dA (dA (bA (bA (dA (bA (dP rfl rfl (fun w hw=>?_))))))))))))
    refine⟨?_,hw.nil⟩
    refine congrArg (fun z=>bT (.bool z)) ?_
    first |exact(yn hz (by omega)).symm|exact(Ck hk (zk hp fun z=>(zu hgr hof).1 z h82)).symm
   ·
    refine aE (bB (aj<|aM (ag rfl<|da rfl rfl (by omega) (by omega) rfl<|ax rfl<|aN<|aZ fun a w ha hw=>⟨m+1,⟨by omega,sP hzm hp ((zu hgr hof).2 h82)⟩,(by omega),ha.sub (.c4 rfl rfl rfl rfl (.cons rfl (.cons rfl (.cons rfl .nil)))),hw⟩)))
  ·
   refine bU (aH (aH (cB (bB (aj<|aM (ag rfl<|da rfl rfl (by omega) (by omega) rfl<|ax rfl<|aN<|aZ fun a w ha hw=>⟨n+1,⟨by omega,sP hz hk (BX hzm (by omega))⟩,(by omega),ha.sub (.c4 rfl rfl rfl rfl (.cons rfl (.cons rfl .nil))),hw⟩))))))
 ·
  refine bU (aH (aH (cB (aj<|au (ax rfl<|aq<|be (dP rfl rfl (fun w hw=>?_)))))))
  refine⟨?_,hw.nil⟩
  refine congrArg (fun z=>bT (.bool z)) ?_
  first |exact(yn hz (by omega)).symm|exact(Ck hk (zk hp fun z=>(zu hgr hof).1 z h82)).symm
theorem C99:fh af 99:=⟨_,Tryz.func99,by decide,rfl⟩
theorem aa7:fU af 174 [(0,1),(1,1)] [.int .i64 0,.int .i64 0]:=fU.mk fun _=>by kernel_rfl
theorem J3:ee af 118 174:=Tryz.underlying118
theorem abc:dr af 174 (.agg #[.int .i64 0,.int .i64 0]):=by unfold dr;kernel_rfl
theorem Wp:(af.info? 174).map (·.size)=some 2:=by kernel_rfl
theorem abi:j6 af 174 2 16 (.agg #[.int .i64 0,.int .i64 0]):=⟨by kernel_rfl,by kernel_rfl,by unfold dr;kernel_rfl,rfl,by decide⟩
theorem NY {r v u:Nat} (hu:u<2*r+1):Fu r (v*(2*r+1)+u)=⟨(u:Int)-r,(v:Int)-r⟩:=by
 have hd:=Bv (W:=2*r+1) (p:=v*(2*r+1)+u) (a:=v) (b:=u) (by rw[jF]) hu
 unfold Fu
 rw[hd.1,hd.2]
theorem Vs {r v:Nat}:v*(2*r+1)+(2*r+1)=(v+1)*(2*r+1):=by rw[Nat.add_mul,Nat.one_mul]
theorem Wl {r v u:Nat} (hr:r≤8) (hv:v≤2*r+1) (hu:u≤2*r+1):v*(2*r+1)+u≤306:=by have:=nr (show v≤17 by omega) (show 2*r+1≤17 by omega);omega
theorem NX (g:eo) (a b:di) (ofa ofb:List Int) (i j r:Nat) (w:World) (hgr:dH g) (hka:RR 1 nC w a.kp a.kr) (hkb:RR 1 nC w b.kp b.kr) (hpa:RO 1 nC w a.px.p a.px.l) (hpb:RO 1 nC w b.px.p b.px.l) (hksa:zn (gW g) (gH g) (a.kr.map dw)) (hksb:zn (gW g) (gH g) (b.kr.map dw)) (hal:a.px.l.length≤4096) (hbl:b.px.l.length≤4096) (hofa:∀q,q<gW g*gH g→(ofa.getD q (-1)=(i:Int)↔q∈a.px.l)) (hofb:∀q,q<gW g*gH g→(ofb.getD q (-1)=(j:Int)↔q∈b.px.l)) (hr:r≤8):
 Calls af 84 #[lL g,.agg #[.slice a.px.p a.px.l.length a.px.c,.slice a.kp a.kr.length a.kc,.int .i64 a.s.xl,.int .i64 a.s.xh,.int .i64 a.s.yl,.int .i64 a.s.yh,.int .i64 a.s.sl,.int .i64 a.s.sh],.agg #[.slice b.px.p b.px.l.length b.px.c,.slice b.kp b.kr.length b.kc,.int .i64 b.s.xl,.int .i64 b.s.xh,.int .i64 b.s.yl,.int .i64 b.s.yh,.int .i64 b.s.sl,.int .i64 b.s.sh],.int .i64 (r:Int)] w fun e w'=>∃y:B9,True∧e= .returned (.slice y.p (rp (gW g) (gH g) (a.kr.map dw) (b.kr.map dw) ofa ofb i j r).length y.c)∧St (bs w) [own 174 2 y.p y.c ((rp (gW g) (gH g) (a.kr.map dw) (b.kr.map dw) ofa ofb i j r).map eR)] w':=by
 have hln:=fun n=>sC (W:=gW g) (H:=gH g) (ka:=a.kr.map dw) (kb:=b.kr.map dw) (ofa:=ofa) (ofb:=ofb) (i:=i) (j:=j) (r:=r) (n:=n)
 refine enter (vs:=[_,_,_,_]) (env:=[(0,_),(1,_),(2,_),(3,_)]) Tryz.func84 rfl rfl rfl rfl ?_
 refine au (aB rfl<|c8 (C:=#[_,_,_,_,_]) rfl rfl fun b1=>aB rfl<|c8 (C:=#[_,_,_,_,_,_,_,_]) rfl rfl fun b2=>aB rfl<|c8 (C:=#[_,_,_,_,_,_,_,_]) rfl rfl fun b3=>ax rfl<|aq<|au (ax rfl<|aq<|av ?_))
 refine au (ag rfl<|ah (eN (LO.neg (.r rfl) (wi (by omega) (by omega))) (congrArg (cX .i64) (show-(r:Int)=((0:Nat):Int)-r by omega))) rfl<|ax rfl<|aq<|aD<|bS (α:=Nat×(Option Addr)×Nat) 0 (fun gx=>[(9,.slice gx.2.1 (iU (gW g) (gH g) (a.kr.map dw) (b.kr.map dw) ofa ofb i j r (gx.1*(2*r+1))).length gx.2.2),(10,.int .i64 ((gx.1:Int)-r))]) [(3,_),(4,_),(5,_),(6,_)] (fun gx=>[own 174 2 gx.2.1 gx.2.2 ((iU (gW g) (gH g) (a.kr.map dw) (b.kr.map dw) ofa ofb i j r (gx.1*(2*r+1))).map eR)]) (fun gx=>gx.1≤2*r+1) (fun gx=>2*r+1-gx.1) (0,none,0) (by exact aY _) (.cons (congrArg (fun l:List Mv=>some (il none l.length 0)) (show([]:List Mv)=iU (gW g) (gH g) (a.kr.map dw) (b.kr.map dw) ofa ofb i j r (0*(2*r+1)) from by rw[Nat.zero_mul];rfl)) (.c4 rfl rfl rfl rfl (.cons rfl .nil))) (fun _ h=>by dsimp only;rw[Nat.zero_mul];exact(h.fX 174 2)) ?_)
 rintro ⟨v,po,co⟩ hv
 show VC _ _ _ _ _ ([(9,.slice po (iU (gW g) (gH g) (a.kr.map dw) (b.kr.map dw) ofa ofb i j r (v*(2*r+1))).length co),(10,.int .i64 ((v:Int)-r))]++_) ([own 174 2 po co ((iU (gW g) (gH g) (a.kr.map dw) (b.kr.map dw) ofa ofb i j r (v*(2*r+1))).map eR)]++_) _ _
 dsimp only at hv
 refine av<|au (ag rfl<|ag rfl<|ah (LO.le (.r rfl) (.r rfl)) rfl<|aq<|ay rfl (fun h16=>?_) (fun h16=>?_))
 ·
  refine aE (aj<|av<|aD<|au (ag rfl<|ah (eN (LO.neg (.r rfl) (wi (by omega) (by omega))) (congrArg (cX .i64) (show-(r:Int)=((0:Nat):Int)-r by omega))) rfl<|ax rfl<|aq<|aD ?_))
  refine bS (α:=Nat×(Option Addr)×Nat) 1 (fun gx=>[(9,.slice gx.2.1 (iU (gW g) (gH g) (a.kr.map dw) (b.kr.map dw) ofa ofb i j r (v*(2*r+1)+gx.1)).length gx.2.2),(11,.int .i64 ((gx.1:Int)-r))]) [(3,_),(4,_),(5,_),(6,_),(10,_)] (fun gx=>[own 174 2 gx.2.1 gx.2.2 ((iU (gW g) (gH g) (a.kr.map dw) (b.kr.map dw) ofa ofb i j r (v*(2*r+1)+gx.1)).map eR)]) (fun gx=>gx.1≤2*r+1) (fun gx=>2*r+1-gx.1) (0,po,co) (by exact aY _) (.c4 rfl rfl rfl rfl (.cons rfl (.cons rfl (.cons rfl .nil)))) (fun _ h=>h) ?_
  rintro ⟨u,po,co⟩ hu
  show VC _ _ _ _ _ ([(9,.slice po (iU (gW g) (gH g) (a.kr.map dw) (b.kr.map dw) ofa ofb i j r (v*(2*r+1)+u)).length co),(11,.int .i64 ((u:Int)-r))]++_) ([own 174 2 po co ((iU (gW g) (gH g) (a.kr.map dw) (b.kr.map dw) ofa ofb i j r (v*(2*r+1)+u)).map eR)]++_) _ _
  dsimp only at hu
  have hcn:=Wl hr (show v≤2*r+1 by omega) hu
  refine av<|au (ag rfl<|ag rfl<|ah (LO.le (.r rfl) (.r rfl)) rfl<|aq<|ay rfl (fun h23=>?_) (fun h23=>?_))
  ·
   refine aE (aj<|av<|aD<|au (ah (aX (vs:=[_,_,_,_,_]) qw (.r rfl) (aF 3 rfl ⟨_,rfl⟩) rfl) rfl<|ah (aX (vs:=[_,_,_,_,_,_,_,_]) Ap (.r rfl) (aF 2 rfl ⟨_,rfl⟩) rfl) rfl<|ah (aX (vs:=[_,_,_,_,_,_,_,_]) Ap (.r rfl) (aF 1 rfl ⟨_,rfl⟩) rfl) rfl<|ag rfl<|ag rfl<|ah (bK (xs:=[_,_,_,_,_]) (vs:=[_,_,_,_,_]) C99 ⟨(.r rfl),(.r rfl),(.r rfl),(.r rfl),(.r rfl),trivial⟩ (fun w2 hw=>zz g a b ofb j ((u:Int)-r) ((v:Int)-r) w2 hgr (RR.b0 hka w2 hw) (hpb.b0 w2 hw) hksa hbl hofb (by omega) (by omega))) rfl<|ag rfl<|bh rfl (fun hg=>aX (vs:=[_,_,_,_,_]) qw (.r rfl) (aF 3 rfl ⟨_,rfl⟩) rfl)<|bh rfl (fun hg=>aX (vs:=[_,_,_,_,_,_,_,_]) Ap (.r rfl) (aF 1 rfl ⟨_,rfl⟩) rfl)<|bh rfl (fun hg=>aX (vs:=[_,_,_,_,_,_,_,_]) Ap (.r rfl) (aF 2 rfl ⟨_,rfl⟩) rfl)<|bh rfl (fun hg=>aS (.r rfl))<|bh rfl (fun hg=>LO.neg (.g hg rfl) (wi (by omega) (by omega)))<|bh rfl (fun hg=>aS (.r rfl))<|bh rfl (fun hg=>LO.neg (.g hg rfl) (wi (by omega) (by omega)))<|bh rfl (fun hg=>bK (xs:=[_,_,_,_,_]) (vs:=[_,_,_,_,_]) C99 ⟨(.g hg rfl),(.g hg rfl),(.g hg rfl),(.g hg rfl),(.g hg rfl),trivial⟩ (fun w2 hw=>zz g b a ofa i (-((u:Int)-r)) (-((v:Int)-r)) w2 hgr (RR.b0 hkb w2 hw) (hpa.b0 w2 hw) hksb hal hofa (by omega) (by omega)))<|ah (e7 (.r rfl) rfl rfl (.r rfl)) rfl<|aq<|ay rfl (fun h41=>?_) (fun h41=>?_)))
   ·
    have hmx:=NY (r:=r) (v:=v) (u:=u) (by omega)
    refine aM (ag rfl<|ag rfl<|ag rfl<|ah (fA (ps:=[(_,_),(_,_)]) (vs:=[(_,_),(_,_)]) (C:=[_,_]) aa7 ⟨(.r rfl),(.r rfl),trivial⟩ rfl ⟨_,[_],[_,_],rfl,rfl,rfl,rfl,⟨_,[_],[_,_],rfl,rfl,rfl,rfl,rfl⟩⟩) rfl<|aB rfl<|eW (ps:=[(_,_)]) (vs:=[(_,_)]) (Z:=[_,_]) (C:=[_,_]) J3 abc Wp ⟨(.r rfl),trivial⟩ rfl rfl rfl rfl ⟨_,[_,_],[_,_],rfl,rfl,rfl,rfl,rfl⟩ fun b5=>aB rfl<|eP ((⟨(u:Int)-r,(v:Int)-r⟩:Mv)) (f:=eR) 1 0 (fun R=>[_,R,_,_,_]) J3 J3 abi (.r rfl) (.r rfl) rfl rfl rfl rfl rfl rfl rfl (fun _=>rfl) rfl (by have:=hln (v*(2*r+1)+u);omega) fun p5 c5=>aB rfl<|aW (LO.as (.r rfl))<|aN<|bB (aj<|aM (ag rfl<|da rfl rfl (by omega) (by omega) rfl<|ax rfl<|aN ?_)))
    have hmx:=NY (r:=r) (v:=v) (u:=u) (by omega)
    have hmt:=AZ (W:=gW g) (H:=gH g) (ka:=a.kr.map dw) (kb:=b.kr.map dw) (ofa:=ofa) (ofb:=ofb) (i:=i) (j:=j) (r:=r) (n:=(v*(2*r+1)+u)) (by rw[hmx];show(_&&_)=true;rw[bD];exact h41)
    rw[hmx]at hmt
    refine aZ fun a w ha hw=>⟨(u+1,p5,c5),(by dsimp only;omega),(by dsimp only;omega),ha.sub (.cons (congrArg (fun l:List Mv=>some (il _ l.length _)) hmt.symm) (.cons (congrArg (fun z=>some (cX .i64 z)) (by push_cast;omega)) (.c4 rfl rfl rfl rfl (.cons rfl .nil)))),(by dsimp only;rw[show v*(2*r+1)+(u+1)=(v*(2*r+1)+u)+1 from rfl,hmt];first |exact hw.gY [1,2,3,4] rfl|(rw[hmx];exact hw.gY [1,2,3,4] rfl))⟩
   ·
    refine aE (bB (aj<|aM (ag rfl<|da rfl rfl (by omega) (by omega) rfl<|ax rfl<|aN ?_)))
    have hmx:=NY (r:=r) (v:=v) (u:=u) (by omega)
    have hmt:=A0 (W:=gW g) (H:=gH g) (ka:=a.kr.map dw) (kb:=b.kr.map dw) (ofa:=ofa) (ofb:=ofb) (i:=i) (j:=j) (r:=r) (n:=(v*(2*r+1)+u)) (by rw[hmx];show ¬(_&&_)=true;rw[bD];exact h41)
    refine aZ fun a w ha hw=>⟨(u+1,po,co),(by dsimp only;omega),(by dsimp only;omega),ha.sub (.cons (congrArg (fun l:List Mv=>some (il _ l.length _)) hmt.symm) (.cons (congrArg (fun z=>some (cX .i64 z)) (by push_cast;omega)) (.c4 rfl rfl rfl rfl (.cons rfl .nil)))),(by dsimp only;rw[show v*(2*r+1)+(u+1)=(v*(2*r+1)+u)+1 from rfl,hmt];first |exact hw|(rw[hmx];exact hw))⟩
  ·
   have hue:u=2*r+1:=by omega
   subst hue
   rw[Vs]
   refine bU (aH (aH (cB (bB (aj<|aM (ag rfl<|da rfl rfl (by omega) (by omega) rfl<|ax rfl<|aN<|aZ fun a w ha hw=>⟨(v+1,po,co),(by dsimp only;omega),(by dsimp only;omega),ha.sub (.cons rfl (.cons (congrArg (fun z=>some (cX .i64 z)) (by push_cast;omega)) (.c4 rfl rfl rfl rfl .nil))),hw⟩))))))
 ·
  have hve:v=2*r+1:=by omega
  subst hve
  refine bU (aH (aH (cB (aj<|au (ag rfl<|ax rfl<|aq<|be (dP rfl rfl (fun w hw=>?_)))))))
  exact⟨⟨po,co⟩,trivial,rfl,dq [0] rfl rfl _ hw⟩
theorem Nf {W H:Nat} {vs:List Span} {lv:Int} {y:uE} (h:Ax W H vs lv y) {a:di} (ha:a∈y.l):zn W H (a.kr.map dw):=by
 have:a.m∈kL W H vs lv:=by rw[←h.m];exact bw ha
 obtain⟨l,_,e⟩:=bN.1 this
 have e2:a.kr.map dw=(dM W H (pF vs lv)).filter (fun k=>decide (k.headD 0∈l)):=(congrArg qh.ks e).symm
 rw[e2];exact xe zq
theorem Iz {W H:Nat} {vs:List Span} {lv:Int} {y:uE} (h:Ax W H vs lv y) {i:Nat} {a:di} (ha:y.l[i]? =some a):Kq W H vs lv i=a.kr.map dw:=by
 unfold Kq;rw[←h.m,aI,ha];rfl
theorem Wk:cP af 174 0 0:=⟨_,_,vM,rfl,rfl,0,by kernel_rfl⟩
theorem V4:cP af 174 1 1:=⟨_,_,vM,rfl,rfl,0,by kernel_rfl⟩
theorem Oy {W H r n m:Nat} {oa ob:List Int} {l l2:List gF} (h:Oo W H r oa ob n m l) (k:Oo W H r oa ob n m l2):l=l2:=by
 obtain⟨ld,h1,rfl⟩:=h.ex
 obtain⟨ld2,h2,rfl⟩:=k.ex
 exact zv fun i j _ _=>(h1 _ _).trans (h2 _ _).symm
theorem Ih {g:eo} {vs:List Span} {lv:Int} (hW:gW g*gH g≤4096):nP g vs lv≤4096:=by
 have:=kh (W:=gW g) (H:=gH g) (S:=et vs lv) (p:=gW g*gH g)
 unfold nP dM;omega
theorem Sh {w:World} {T:Nat} {l:List db} {p:Option Addr} {c:Nat} (h:∀r,r∈[own T 3 p c (l.map l8),bV (l.map n9),bV (l.map n4)]→r.inv w):EP w p l:=
 ⟨gh (h (own T 3 p c (l.map l8)) (by simp)),fun e he=>gh ((h (bV (l.map n9)) (by simp)).1 _ (bw (f:=n9) he)),fun e he=>gh ((h (bV (l.map n4)) (by simp)).1 _ (bw (f:=n4) he))⟩
theorem x8 (w:World):EP w none []:=⟨⟨by simp,fun _=>rfl,fun h=>absurd rfl h⟩,by simp,by simp⟩
theorem Sr {g1:eo} {v1 v2:List Span} {lv:Int} {i j r:Nat} (hr:r≤8):(ju g1 v1 v2 lv i j r).length≤1000000:=by
 unfold ju rp
 have:=Tz hr
 exact dE sC (by omega)
theorem YF {l m:List db} {i:Nat} {a b:db} (h:l.map dD=m.map dD) (ha:l[i]? =some a) (hb:m[i]? =some b):a.kd=b.kd∧a.f=b.f∧a.t=b.t:=by
 have e:=congrArg (fun l=>l[i]?) h
 simp only[aI,ha,hb,ft,Option.some.injEq]at e
 exact⟨congrArg gF.kd e,congrArg gF.f e,congrArg gF.t e⟩
theorem Ro {l m:List db} (h:l.map dD=m.map dD):l.length=m.length:=by have:=congrArg dv h;rwa [ak,ak]at this
theorem Wv (la lb:List db) (pa:Option Addr) (ca:Nat) (pb_:Option Addr) (cb:Nat) (w:World) (ha:EP w pa la) (hb:EP w pb_ lb) (hE:la.map dD=lb.map dD) (hn:la.length≤1000000) (hl:∀e,e∈la→e.f.length≤1000000∧e.t.length≤1000000):
 Calls af 10 #[.slice pa la.length ca,.slice pb_ lb.length cb] w fun e w'=>e= .returned (.bool true)∧St (bs w) [] w':=by
 have hlen:=Ro hE
 refine enter (vs:=[_,_]) (env:=[(0,_),(1,_)]) Tryz.func10 rfl rfl rfl rfl ?_
 refine au (ax rfl<|aq<|av<|au (ag rfl<|ah (bE Am (.r rfl) rfl) rfl<|ag rfl<|ah (bE FD (.r rfl) rfl) rfl<|VO.u rfl<|aq ?_))
 refine ay rfl (fun h10=>?_) (fun h10=>?_)
 · (exfalso;omega)
 ·
  refine aE (aj<|av<|au (ax rfl<|aq<|aD<|bS (α:=Nat) 0 (fun gx=>[(5,.int .i64 (gx:Nat))]) [(0,_),(1,_)] (fun gx=>[]) (fun gx=>gx≤la.length) (fun gx=>la.length-gx) 0 (by exact aY _) (.cons rfl (.cons rfl (.cons rfl .nil))) (fun _ h=>h) ?_))
  rintro i hi
  refine av<|au (ag rfl<|ag rfl<|ah (bE Am (.r rfl) rfl) rfl<|dK rfl<|aq<|ay rfl (fun h14=>?_) (fun h14=>?_))
  ·
   obtain⟨a,hai⟩:=du (l:=la) (n:=i) (by omega)
   obtain⟨b,hbi⟩:=du (l:=lb) (n:=i) (by omega)
   obtain⟨e1,e2,e3⟩:=YF hE hai hbi
   refine aE (aj<|av<|aD<|av<|gj mixed (eT rfl<|eT rfl<|bl (bM Am EO ha.ev.sm (.r rfl) (.r rfl) rfl (by omega)) rfl<|bl (aP wY (.r rfl) rfl) rfl<|bl (aC O3 (.r rfl) (fun w hw=>aA (off:=0) ((fun w3 h3=>cY (ha.b0 w3 h3).ev hai) w hw) ⟨_,rfl⟩)) rfl<|eT rfl<|eT rfl<|bl (bM FD rZ hb.ev.sm (.r rfl) (.r rfl) rfl (by omega)) rfl<|bl (aP uj (.r rfl) rfl) rfl<|bl (aC O3 (.r rfl) (fun w hw=>aA (off:=0) ((fun w3 h3=>cY (hb.b0 w3 h3).ev hbi) w hw) ⟨_,rfl⟩)) rfl<|bl (LO.ne (.r rfl) (.r rfl)) rfl<|eT rfl<|cW rfl (fun hg=>aS (.r rfl))<|cW rfl (fun hg=>aS (.r rfl))<|cW rfl (fun hg=>bM Am EO ha.ev.sm (.g hg rfl) (.g hg rfl) rfl (by omega))<|cW rfl (fun hg=>aP yW (.g hg rfl) rfl)<|cW rfl (fun hg=>aC iL (.g hg rfl) (fun w hw=>aA (off:=1) ((fun w3 h3=>cY (ha.b0 w3 h3).ev hai) w hw) ⟨_,rfl⟩))<|cW rfl (fun hg=>aS (.r rfl))<|cW rfl (fun hg=>aS (.r rfl))<|cW rfl (fun hg=>bM FD rZ hb.ev.sm (.g hg rfl) (.g hg rfl) rfl (by omega))<|cW rfl (fun hg=>aP uh (.g hg rfl) rfl)<|cW rfl (fun hg=>aC iL (.g hg rfl) (fun w hw=>aA (off:=1) ((fun w3 h3=>cY (hb.b0 w3 h3).ev hbi) w hw) ⟨_,rfl⟩))<|cW rfl (fun hg=>bK (xs:=[_,_]) (vs:=[_,_]) Qk ⟨(.g hg rfl),(.g hg rfl),trivial⟩ (fun w2 hw=>nG a.f b.f a.fp a.fc b.fp b.fc w2 ((ha.f a (al hai)).b0 w2 hw) ((hb.f b (al hbi)).b0 w2 hw) (hl a (al hai)).1))<|cW rfl (fun hg=>LO.not (.g hg rfl))<|bl (LO.jZ (.r rfl) (.r rfl) rfl rfl) rfl<|eT rfl<|cW rfl (fun hg=>aS (.r rfl))<|cW rfl (fun hg=>aS (.r rfl))<|cW rfl (fun hg=>bM Am EO ha.ev.sm (.g hg rfl) (.g hg rfl) rfl (by omega))<|cW rfl (fun hg=>aP yV (.g hg rfl) rfl)<|cW rfl (fun hg=>aC iL (.g hg rfl) (fun w hw=>aA (off:=2) ((fun w3 h3=>cY (ha.b0 w3 h3).ev hai) w hw) ⟨_,rfl⟩))<|cW rfl (fun hg=>aS (.r rfl))<|cW rfl (fun hg=>aS (.r rfl))<|cW rfl (fun hg=>bM FD rZ hb.ev.sm (.g hg rfl) (.g hg rfl) rfl (by omega))<|cW rfl (fun hg=>aP rf (.g hg rfl) rfl)<|cW rfl (fun hg=>aC iL (.g hg rfl) (fun w hw=>aA (off:=2) ((fun w3 h3=>cY (hb.b0 w3 h3).ev hbi) w hw) ⟨_,rfl⟩))<|cW rfl (fun hg=>bK (xs:=[_,_]) (vs:=[_,_]) Qk ⟨(.g hg rfl),(.g hg rfl),trivial⟩ (fun w2 hw=>nG a.t b.t a.tp a.tc b.tp b.tc w2 ((ha.t a (al hai)).b0 w2 hw) ((hb.t b (al hbi)).b0 w2 hw) (hl a (al hai)).2))<|cW rfl (fun hg=>LO.not (.g hg rfl))<|bl (LO.jZ (.r rfl) (.r rfl) rfl rfl) rfl<|LL.nil) (by kernel_rfl)<|aj<|ay rfl (fun h55=>?_) (fun h55=>?_))
   · (exfalso;simp [e1,e2,e3]at h55)
   ·
    refine aE (bB (aj<|aM (ag rfl<|da rfl rfl (by omega) (by omega) rfl<|ax rfl<|aN<|aZ fun a w ha hw=>⟨i+1,(by omega),(by omega),ha.sub (.cons rfl (.cons rfl (.cons rfl .nil))),hw⟩)))
  ·
   refine bU (aH (aH (cB (aj<|au (ax rfl<|aq<|be (dP rfl rfl (fun w hw=>?_)))))))
   exact⟨rfl,hw.nil⟩
theorem WT (l:List Mv) (pa:Option Addr) (ca:Nat) (pb_:Option Addr) (cb:Nat) (w:World) (ha:RO 2 eR w pa l) (hb:RO 2 eR w pb_ l) (hn:l.length≤1000000):
 Calls af 46 #[.slice pa l.length ca,.slice pb_ l.length cb] w fun e w'=>e= .returned (.bool true)∧St (bs w) [] w':=by
 refine enter (vs:=[_,_]) (env:=[(0,_),(1,_)]) Tryz.func46 rfl rfl rfl rfl ?_
 refine au (ax rfl<|aq<|av<|au (ag rfl<|ah (bE Qx (.r rfl) rfl) rfl<|ag rfl<|ah (bE J3 (.r rfl) rfl) rfl<|VO.u rfl<|aq ?_))
 refine ay rfl (fun h10=>?_) (fun h10=>?_)
 · (exfalso;omega)
 ·
  refine aE (aj<|av<|au (ax rfl<|aq<|aD<|bS (α:=Nat) 0 (fun gx=>[(5,.int .i64 (gx:Nat))]) [(0,_),(1,_)] (fun gx=>[]) (fun gx=>gx≤l.length) (fun gx=>l.length-gx) 0 (by exact aY _) (.cons rfl (.cons rfl (.cons rfl .nil))) (fun _ h=>h) ?_))
  rintro i hi
  refine av<|au (ag rfl<|ag rfl<|ah (bE Qx (.r rfl) rfl) rfl<|dK rfl<|aq<|ay rfl (fun h14=>?_) (fun h14=>?_))
  ·
   obtain⟨a,hai⟩:=du (l:=l) (n:=i) (by omega)
   refine aE (aj<|av<|aD<|av<|gj mixed (eT rfl<|eT rfl<|bl (bM Qx XM ha.sm (.r rfl) (.r rfl) rfl (by omega)) rfl<|bl (aP OD (.r rfl) rfl) rfl<|bl (aC O3 (.r rfl) (fun w hw=>aA (off:=0) ((fun w3 h3=>cY (ha.b0 w3 h3) hai) w hw) ⟨_,rfl⟩)) rfl<|eT rfl<|eT rfl<|bl (bM J3 Wp hb.sm (.r rfl) (.r rfl) rfl (by omega)) rfl<|bl (aP Wk (.r rfl) rfl) rfl<|bl (aC O3 (.r rfl) (fun w hw=>aA (off:=0) ((fun w3 h3=>cY (hb.b0 w3 h3) hai) w hw) ⟨_,rfl⟩)) rfl<|bl (LO.ne (.r rfl) (.r rfl)) rfl<|eT rfl<|cW rfl (fun hg=>aS (.r rfl))<|cW rfl (fun hg=>aS (.r rfl))<|cW rfl (fun hg=>bM Qx XM ha.sm (.g hg rfl) (.g hg rfl) rfl (by omega))<|cW rfl (fun hg=>aP Ni (.g hg rfl) rfl)<|cW rfl (fun hg=>aC O3 (.g hg rfl) (fun w hw=>aA (off:=1) ((fun w3 h3=>cY (ha.b0 w3 h3) hai) w hw) ⟨_,rfl⟩))<|cW rfl (fun hg=>aS (.r rfl))<|cW rfl (fun hg=>aS (.r rfl))<|cW rfl (fun hg=>bM J3 Wp hb.sm (.g hg rfl) (.g hg rfl) rfl (by omega))<|cW rfl (fun hg=>aP V4 (.g hg rfl) rfl)<|cW rfl (fun hg=>aC O3 (.g hg rfl) (fun w hw=>aA (off:=1) ((fun w3 h3=>cY (hb.b0 w3 h3) hai) w hw) ⟨_,rfl⟩))<|cW rfl (fun hg=>LO.ne (.g hg rfl) (.g hg rfl))<|bl (LO.jZ (.r rfl) (.r rfl) rfl rfl) rfl<|LL.nil) (by kernel_rfl)<|aj<|ay rfl (fun h40=>?_) (fun h40=>?_))
   · (exfalso;simp at h40)
   ·
    refine aE (bB (aj<|aM (ag rfl<|da rfl rfl (by omega) (by omega) rfl<|ax rfl<|aN<|aZ fun a w ha hw=>⟨i+1,(by omega),(by omega),ha.sub (.cons rfl (.cons rfl (.cons rfl .nil))),hw⟩)))
  ·
   refine bU (aH (aH (cB (aj<|au (ax rfl<|aq<|be (dP rfl rfl (fun w hw=>?_)))))))
   exact⟨rfl,hw.nil⟩
theorem If {Rs:List dg}:mG [bV Rs]=mG Rs:=by
 funext k
 refine propext ⟨fun h=>?_,fun h=>?_⟩
 ·obtain⟨r,hr,hk⟩:=uZ.1 h
  have:=bW.1 hr
  subst this
  obtain⟨s,hs,hk⟩:=hk
  exact uZ.2 ⟨s,hs,hk⟩
 ·obtain⟨s,hs,hk⟩:=uZ.1 h
  exact uZ.2 ⟨bV Rs,bW.2 rfl,⟨s,hs,hk⟩⟩
structure oM where
 la:Int
 pm:Option Addr
 cm:Nat
 ys:List oV
 pt:Option Addr
 ct:Nat
 kd:Nat→Int
 tk:List cH
 of:Nat×Nat→Option Nat
 E:List (List gF)
 Ms:List Nat
 yP:oV
 vP:List Span
 X:List dg
abbrev oM.F (b:Nat) (h:jk) (s:oM):List dg:=tI b h s.la s.pm s.cm s.ys s.pt s.ct s.kd s.tk s.of
def bk0 (h:jk):oM:=⟨-1,none,0,[],none,0,fun _=>0,[],fun _=>none,[],[],⟨[],none,0,[],none,0,[],none,0,none,0,[],none,0⟩,[],[]⟩
theorem Jb {g:eo} {vs:List Span} {lv:Int} {y:oV} (h:AR (gW g) (gH g) vs lv y):y.l.length=nP g vs lv:=by
 have:=congrArg dv h.m
 rw[ak]at this
 rw[this];unfold kL nP;rw[ak]
theorem nD {l:List Nat} {n i:Nat} (h:i<l.length):(l++[n]).getD i 0=l.getD i 0:=by
 rw[aO,aO,aV h]
theorem OK {E:List (List gF)} {Ms:List Nat} {evs:List gF} {m n:Nat} (h:re E Ms) (hN:Ms.length=n+1) (hE:E.length=Ms.length) (hg:iq (Ms.getD n 0) m evs):re (E++[evs]) (Ms++[m]):=⟨fun i hi=>by
 rw[aJ,List.length_singleton]at hi
 by_cases e:i=n
 ·subst e
  rw[nD (by omega),show(Ms++[m]).getD (i+1) 0=m from by rw[←hN];exact ki,show(E++[evs]).getD (i+1) []=evs from by rw[←hN, ←hE];exact ki]
  exact hg
 ·rw[nD (by omega),nD (by omega),pC (by omega)]
  exact h.g i (by omega)⟩
theorem C80:fh af 80:=⟨_,Tryz.func80,by decide,rfl⟩
theorem C82:fh af 82:=⟨_,Tryz.func82,by decide,rfl⟩
section
variable {E:List (List gF)} {Ms:List Nat} {tk:List fo} {of:Nat×Nat→Option Nat} {t:fo} {n k j:Nat}
theorem DU {a:Int×Int} {m:Nat} (h:qK of a=some m):∃x y:Nat,a=((x:Int),(y:Int))∧of (x,y)=some m:=by
 unfold qK at h
 split at h
 ·rename_i z
  exact⟨a.1.toNat,a.2.toNat,Prod.ext (by show a.1=_;omega) (by show a.2=_;omega),h⟩
 ·cases h
theorem Vv (h:iF E Ms tk of) (a:Int×Int):a∈WR Ms↔(qK of a).isSome=true:=by
 rw[RF]
 constructor
 ·rintro ⟨n,i,hn,hi,rfl⟩
  obtain⟨k,_,hk,_⟩:=h.all hn hi
  rw[va,hk];rfl
 ·intro ha
  obtain⟨m,hm⟩:=Option.isSome_iff_exists.1 ha
  obtain⟨x,y,rfl,ho⟩:=DU hm
  obtain⟨s,hs,h1,h2⟩:=(h.q.base.ES x y m).1 ho
  obtain⟨_,h4,h5⟩:=h.at_ hs h2
  rw[show s.fr+(x-s.fr)=x by omega]at h4 h5
  exact⟨x,y,h4,h5,rfl⟩
theorem TD {nx:Nat→List Nat} {n B:Nat} {met:Nat→Bool} (h:∀k,(nx k).length≤B):LZ nx n met≤n*B:=by
 unfold LZ
 have key:∀l:List Nat,(l.map fun k=>(nx k).length).sum≤l.length*B:=fun l=>by
  induction l with
  |nil=>simp
  |cons a l ih=>
   rw[List.map_cons,List.sum_cons,List.length_cons,Nat.add_mul,Nat.one_mul]
   have:=h a;omega
 refine dE (key _) (Nat.mul_le_mul_right _ ?_)
 refine dE (cE _ _) (by simp)
theorem yw (h:iF E Ms tk of) (k:Nat):(CO tk k).length≤tk.length:=by
 unfold CO
 by_cases hk:k<tk.length
 ·obtain⟨t,ht⟩:=vc hk
  rw[nv ht,h.q.pa k t ht]
  refine dE (cE _ _) (by simp)
 ·rw[x7 (by omega)];exact aY _
theorem x4 (h:iF E Ms tk of) (k:Nat):(B2 tk k).length≤tk.length:=by
 unfold B2
 by_cases hk:k<tk.length
 ·obtain⟨t,ht⟩:=vc hk
  rw[nv ht,h.q.ch k t ht]
  refine dE (cE _ _) (by simp)
 ·rw[x7 (by omega)];exact aY _
end
theorem MY {tk:List cH} {k:Nat} {t:cH} (h:tk[k]? =some t):(tk.map dG).getD k zT=t.m:=nv (by rw[aI,h];rfl)
structure Al (w:World) (b:Nat) (h:jk) (s:oM):Prop where
 c:fG w ⟨b,0,none⟩ (uO h s.la ⟨s.pm,s.ys.length,s.cm⟩ s.pt s.tk.length s.ct s.kd)
 tk:RO 6 e9 w s.pt s.tk
 ti:∀t,t∈s.tk→VL w t
 of:(jr Ay vZ h.bm (qK s.of)).inv w
theorem Al.b0 {w0:World} {b:Nat} {h:jk} {s:oM} (k:Al w0 b h s) {L:List dg}:∀w,St (bs w0) L w→Al w b h s:=fun w hw=>⟨bj k.c w hw,k.tk.b0 w hw,fun t ht=>(k.ti t ht).b0 w hw,pB k.of w hw⟩
theorem RI (t:cH) (w:World):
 Calls af 80 #[QZ t] w fun e w'=>e= .returned (.slice t.pp t.pa.length t.pc)∧St (bs w) [] w':=by
 refine enter (vs:=[_]) (env:=[(0,_)]) Tryz.func80 rfl rfl rfl rfl ?_
 refine au (aB rfl<|c8 (C:=#[_,_,_,_,_,_]) rfl rfl fun b1=>ax rfl<|aq<|au (bO (r:=4) IU rfl<|cL 0 iL rfl rfl ⟨_,rfl⟩ rfl<|ax rfl<|aq<|be (dP rfl rfl (fun w hw=>?_))))
 exact⟨rfl,hw.nil⟩
theorem Wd (t:cH) (w:World):
 Calls af 82 #[QZ t] w fun e w'=>e= .returned (.slice t.cp t.ch.length t.cc)∧St (bs w) [] w':=by
 refine enter (vs:=[_]) (env:=[(0,_)]) Tryz.func82 rfl rfl rfl rfl ?_
 refine au (aB rfl<|c8 (C:=#[_,_,_,_,_,_]) rfl rfl fun b1=>ax rfl<|aq<|au (bO (r:=5) AQ rfl<|cL 0 iL rfl rfl ⟨_,rfl⟩ rfl<|ax rfl<|aq<|be (dP rfl rfl (fun w hw=>?_))))
 exact⟨rfl,hw.nil⟩
theorem SC (b:Nat) (h:jk) (s:oM) (n:Nat) (t:cH) (w:World) (hb:Al w b h s) (hI:iF s.E s.Ms (s.tk.map dG) s.of) (hlen:s.tk.length≤30000) (hnt:s.tk[n]? =some t):
 Calls af 40 #[.pointer (some ⟨b,0,none⟩),.int .i64 (n:Int)] w fun e w'=>∃y:Qw,Ww (CO (s.tk.map dG)) n y.l∧e= .returned (.tuple #[.slice y.p y.l.length y.c,.int .i64 0])∧St (bs w) [own 3 1 y.p y.c (y.l.map nC)] w':=by
 have hnl:=(an.1 hnt).1
 have hml:(s.tk.map dG).length=s.tk.length:=ak ..
 have hall:∀x,Ak (CO (s.tk.map dG)) n x→x<s.tk.length:=fun x hx=>by have:=Ij hI hx;omega
 have hsz:LZ (CO (s.tk.map dG)) s.tk.length (fun _=>false)+(CO (s.tk.map dG) n).length≤1000000000:=by have h1:=TD (n:=s.tk.length) (met:=fun _=>false) (fun k=>yw hI k);have h2:=yw hI n;rw[hml]at h1 h2;have h3:=nr hlen hlen;omega
 refine enter (vs:=[_,_]) (env:=[(0,_),(1,_)]) Tryz.func40 rfl rfl rfl rfl ?_
 refine au (ax rfl<|ax rfl<|aq<|au (ag rfl<|ag rfl<|aB rfl<|cd (xs:=[_,_,_]) (vs:=[_,_,_]) C79 ⟨(.r rfl),(.r rfl),(.r rfl),trivial⟩ (fun w2 hw=>uU b h s.la ⟨s.pm,s.ys.length,s.cm⟩ s.pt s.ct s.kd s.tk w2 (hb.b0 w2 hw).c (hb.b0 w2 hw).tk (by omega) n 80 cH.pp cH.pc cH.pa C80 (fun w3 t _=>RI t w3) (fun t ht=>((hb.b0 w2 hw).ti t ht).p) (CO (s.tk.map dG)) (fun k t ht=>by unfold CO;rw[MY ht];rfl) hall hsz t hnt) fun y hy=>aB rfl<|aW (LO.ex (.r rfl) rfl)<|aB rfl<|aW (LO.ex (.r rfl) rfl)<|aB rfl<|aW (LO.as (.r rfl))<|aB rfl<|aW (LO.as (.r rfl))<|aq<|be (dh (vs:=[_,_]) rfl ⟨rfl,rfl,trivial⟩ (fun w hw=>?_))))
 exact⟨y,hy,rfl,dq [0] rfl rfl _ hw⟩
theorem Kb (b:Nat) (h:jk) (s:oM) (n:Nat) (t:cH) (w:World) (hb:Al w b h s) (hI:iF s.E s.Ms (s.tk.map dG) s.of) (hlen:s.tk.length≤30000) (hnt:s.tk[n]? =some t):
 Calls af 42 #[.pointer (some ⟨b,0,none⟩),.int .i64 (n:Int)] w fun e w'=>∃y:Qw,Ww (B2 (s.tk.map dG)) n y.l∧e= .returned (.tuple #[.slice y.p y.l.length y.c,.int .i64 0])∧St (bs w) [own 3 1 y.p y.c (y.l.map nC)] w':=by
 have hnl:=(an.1 hnt).1
 have hml:(s.tk.map dG).length=s.tk.length:=ak ..
 have hall:∀x,Ak (B2 (s.tk.map dG)) n x→x<s.tk.length:=fun x hx=>by have:=Bk hI hx;omega
 have hsz:LZ (B2 (s.tk.map dG)) s.tk.length (fun _=>false)+(B2 (s.tk.map dG) n).length≤1000000000:=by have h1:=TD (n:=s.tk.length) (met:=fun _=>false) (fun k=>x4 hI k);have h2:=x4 hI n;rw[hml]at h1 h2;have h3:=nr hlen hlen;omega
 refine enter (vs:=[_,_]) (env:=[(0,_),(1,_)]) Tryz.func42 rfl rfl rfl rfl ?_
 refine au (ax rfl<|ax rfl<|aq<|au (ag rfl<|ag rfl<|aB rfl<|cd (xs:=[_,_,_]) (vs:=[_,_,_]) C79 ⟨(.r rfl),(.r rfl),(.r rfl),trivial⟩ (fun w2 hw=>uU b h s.la ⟨s.pm,s.ys.length,s.cm⟩ s.pt s.ct s.kd s.tk w2 (hb.b0 w2 hw).c (hb.b0 w2 hw).tk (by omega) n 82 cH.cp cH.cc cH.ch C82 (fun w3 t _=>Wd t w3) (fun t ht=>((hb.b0 w2 hw).ti t ht).c) (B2 (s.tk.map dG)) (fun k t ht=>by unfold B2;rw[MY ht];rfl) hall hsz t hnt) fun y hy=>aB rfl<|aW (LO.ex (.r rfl) rfl)<|aB rfl<|aW (LO.ex (.r rfl) rfl)<|aB rfl<|aW (LO.as (.r rfl))<|aB rfl<|aW (LO.as (.r rfl))<|aq<|be (dh (vs:=[_,_]) rfl ⟨rfl,rfl,trivial⟩ (fun w hw=>?_))))
 exact⟨y,hy,rfl,dq [0] rfl rfl _ hw⟩
theorem sk:cP af 89 5 9:=⟨_,_,kY,rfl,rfl,0,by kernel_rfl⟩
theorem SF:jJ af 87:=⟨⟨_,wQ,rfl⟩,by kernel_rfl⟩
theorem J1:ee af 87 42:=wQ
theorem Ug:(af.info? 42).map (·.size)=some 1:=by kernel_rfl
theorem XH:jJ af 42:=⟨⟨_,wP,rfl⟩,by kernel_rfl⟩
theorem Va:fU af 104 [(0,1),(1,1),(2,1)] [.int .i64 0,.slice none 0 0,.slice none 0 0]:=fU.mk fun _=>by kernel_rfl
theorem sr:cP af 119 1 1:=⟨_,_,jq,rfl,rfl,0,by kernel_rfl⟩
theorem mN:cP af 119 2 2:=⟨_,_,jq,rfl,rfl,0,by kernel_rfl⟩
structure o8 where
 ti:List Int
 tp:Option Addr
 tc:Nat
 ds:List uE
 ap:Option Addr
 ac:Nat
 es:List qv
 ep:Option Addr
 ec:Nat
abbrev dsC (y:uE):List Value:=[.slice y.p y.l.length y.c]
abbrev esC (y:qv):List Value:=[.slice y.p y.l.length y.c]
abbrev YJ (h:jk) (d:o8):List Value:=[.int .i64 h.g.x,.int .i64 h.g.y,.int .i64 h.g.size,.int .i64 h.g.wide,.int .i64 h.g.high,.int .i64 h.lv,.int .i64 h.rc,.slice d.tp d.ti.length d.tc,.slice d.ap d.ds.length d.ac,.slice d.ep d.es.length d.ec]
def qv.m (y:qv):List gF:=y.l.map dD
structure u0 (w:World) (b:Nat) (h:jk) (d:o8):Prop where
 c:fG w ⟨b,0,none⟩ (YJ h d)
 ti:RO 1 iC w d.tp d.ti
 ds:RO 1 dsC w d.ap d.ds
 es:RO 1 esC w d.ep d.es
 ar:∀y,y∈d.ds→AL w y.p y.l
 ev:∀y,y∈d.es→EP w y.p y.l
theorem u0.b0 {w0:World} {b:Nat} {h:jk} {d:o8} (k:u0 w0 b h d) {L:List dg}:∀w,St (bs w0) L w→u0 w b h d:=fun w hw=>⟨bj k.c w hw,k.ti.b0 w hw,k.ds.b0 w hw,k.es.b0 w hw,fun y hy=>(k.ar y hy).b0 w hw,fun y hy=>(k.ev y hy).b0 w hw⟩
structure KL (y:qv):Prop where
 n:y.l.length≤1000000
 f:∀e,e∈y.l→e.f.length≤1000000
 t:∀e,e∈y.l→e.t.length≤1000000
theorem Jm {α:Type} {P:α→Bool} {l:List α} {i:Nat} {x:α} (h:l[i]? =some x) (hp:P x=true) (hb:∀k e,k<i→l[k]? =some e→¬P e=true):l.find? P=some x:=by
 obtain⟨hi,e⟩:=an.1 h
 refine List.find?_eq_some_iff_getElem.2 ⟨hp,i,hi,e,fun j hj=>?_⟩
 have:=hb j _ hj (aw (by omega))
 simpa using this
theorem VT {l:List db} {i a:Nat} {x:db} (h:l[i]? =some x) (ha:a∈x.f) (hb:∀k e,k<i→l[k]? =some e→a∉e.f):oJ (l.map dD) a=x.m:=by
 unfold oJ
 rw[Jm (i:=i) (x:=x.m) (by rw[aI,h];rfl) (decide_eq_true ha) (fun k e hk he=>by
  rw[aI]at he
  obtain⟨e0,h0,rfl⟩:=mi.1 he
  exact fun z=>hb k e0 hk h0 (of_decide_eq_true z))]
 rfl
theorem Rp {l:List db} {a:Nat} (hb:∀k e,k<l.length→l[k]? =some e→a∉e.f):oJ (l.map dD) a=qb.m:=by
 unfold oJ
 rw[gJ.2 fun e he=>by
  obtain⟨e0,h0,rfl⟩:=bN.1 he
  obtain⟨k,hk,h1⟩:=fD h0
  have:=hb k e0 hk (by rw[←h1];exact aw hk)
  exact fun z=>this (of_decide_eq_true z)]
 rfl
def qt (l:List db) (a:Nat):db:=(l.find? fun e=>decide (a∈e.t)).getD qb
theorem Rh {l:List db} {i a:Nat} {x:db} (h:l[i]? =some x) (ha:a∈x.t) (hb:∀k e,k<i→l[k]? =some e→a∉e.t):qt l a=x:=by
 unfold qt
 rw[Jm h (decide_eq_true ha) (fun k e hk he z=>hb k e hk he (of_decide_eq_true z))];rfl
theorem Nr {l:List db} {a:Nat} (hb:∀k e,k<l.length→l[k]? =some e→a∉e.t):qt l a=qb:=by
 unfold qt
 rw[gJ.2 fun e he=>by
  obtain⟨k,hk,h1⟩:=fD he
  have:=hb k e hk (by rw[←h1];exact aw hk)
  exact fun z=>this (of_decide_eq_true z)]
 rfl
theorem BQ {l:List db} {a:Nat}:(qt l a).m=zE (l.map dD) a:=by
 unfold qt zE
 rw[List.find?_map]
 show _=(Option.map dD (l.find? fun e=>decide (a∈e.t))).getD TW
 cases l.find? fun e=>decide (a∈e.t) with
 |none=>rfl
 |some e=>rfl
theorem CW {l:List db} {a:Nat}:qt l a=qb∨qt l a∈l:=by
 unfold qt
 cases h:l.find? fun e=>decide (a∈e.t) with
 |none=>exact .inl rfl
 |some e=>exact .inr (List.mem_of_find?_eq_some h)
def Dp (d:o8) (n a:Nat):gF:=if d.es.length≤n+1 then qb.m else oJ ((d.es.map qv.m).getD (n+1) []) a
theorem II {P:db→Prop} {l:List db} {i:Nat} {x:db} (h:∀k e,k<i→l[k]? =some e→P e) (hx:l[i]? =some x) (hp:P x):∀k e,k<i+1→l[k]? =some e→P e:=fun k e hk he=>by
 rcases cZ.1 hk with z|z
 ·exact h k e z he
 ·subst z;rw[hx]at he;have:=eI he;subst this;exact hp
theorem zt {d:o8} {n:Nat} {y:qv} (h:d.es[n]? =some y):(d.es.map qv.m).getD n []=y.l.map dD:=by
 rw[aO,aI,h];rfl
theorem zC (b:Nat) (h:jk) (d:o8) (n xa:Nat) (w:World) (hd:u0 w b h d) (y:qv) (hny:d.es[n]? =some y) (hB:KL y):
 Calls af 75 #[.pointer (some ⟨b,0,none⟩),.int .i64 (n:Int),.int .i64 (xa:Int)] w fun e w'=>e= .returned (WA (qt y.l xa))∧St (bs w) [] w':=by
 have hym:y∈d.es:=al hny
 have hnl:=(an.1 hny).1
 have hyn:=hB.n
 refine enter (vs:=[_,_,_]) (env:=[(0,_),(1,_),(2,_)]) Tryz.func75 rfl rfl rfl rfl ?_
 refine au (aB rfl<|cJ (C:=#[_,_,_]) Ef rfl fun b1=>aq<|av<|au (ax rfl<|aq ?_))
 refine aD<|bS (α:=Nat) 0 (fun gx=>[(7,.int .i64 (gx:Nat))]) [(0,_),(1,_),(2,_),(6,_)] (fun gx=>[]) (fun gx=>gx≤y.l.length∧∀k e,k<gx→y.l[k]? =some e→xa∉e.t) (fun gx=>y.l.length-gx) 0 (by exact⟨aY _,fun k e hk=>absurd hk (cQ _)⟩) (.c4 rfl rfl rfl rfl (.cons rfl .nil)) (fun _ h=>h) ?_
 rintro i ⟨hi,hno⟩
 refine av<|au (ag rfl<|ag rfl<|ah (cV (.r rfl)) rfl<|bO (r:=9) sk rfl<|ah (aC SF (.r rfl) (bj (bI (off:=9) hd.c ⟨_,rfl⟩))) rfl<|ag rfl<|ah (bM J1 Ug hd.es.sm (.r rfl) (.r rfl) rfl (by omega)) rfl<|ah (aC XH (.r rfl) (fun w hw=>aA (off:=0) ((fun w3 h3=>cY (hd.b0 w3 h3).es hny) w hw) ⟨_,rfl⟩)) rfl<|ah (bE FD (.r rfl) rfl) rfl<|dK rfl<|aq<|ay rfl (fun h17=>?_) (fun h17=>?_))
 ·
  obtain⟨x,hvi⟩:=du (l:=y.l) (n:=i) (by omega)
  have hxm:x∈y.l:=al hvi
  refine aE (aj<|av<|aD<|au (ag rfl<|ah (cV (.r rfl)) rfl<|bO (r:=9) sk rfl<|ah (aC SF (.r rfl) (bj (bI (off:=9) hd.c ⟨_,rfl⟩))) rfl<|ag rfl<|ah (bM J1 Ug hd.es.sm (.r rfl) (.r rfl) rfl (by omega)) rfl<|ah (aC XH (.r rfl) (fun w hw=>aA (off:=0) ((fun w3 h3=>cY (hd.b0 w3 h3).es hny) w hw) ⟨_,rfl⟩)) rfl<|ag rfl<|ah (bM FD rZ (hd.ev y hym).ev.sm (.r rfl) (.r rfl) rfl (by omega)) rfl<|bO rf rfl<|ah (aC iL (.r rfl) (fun w hw=>aA (off:=2) ((fun w3 h3=>cY ((hd.b0 w3 h3).ev y hym).ev hvi) w hw) ⟨_,rfl⟩)) rfl<|ag rfl<|ah (bK (xs:=[_,_]) (vs:=[_,_]) C78 ⟨(.r rfl),(.r rfl),trivial⟩ (fun w2 hw=>E9 x.t x.tp x.tc xa w2 (((hd.b0 w2 hw).ev y hym).t x hxm) (hB.t x hxm))) rfl<|aq<|ay rfl (fun h32=>?_) (fun h32=>?_)))
  ·
   refine au (ag rfl<|ah (cV (.r rfl)) rfl<|bO (r:=9) sk rfl<|ah (aC SF (.r rfl) (bj (bI (off:=9) hd.c ⟨_,rfl⟩))) rfl<|ag rfl<|ah (bM J1 Ug hd.es.sm (.r rfl) (.r rfl) rfl (by omega)) rfl<|ah (aC XH (.r rfl) (fun w hw=>aA (off:=0) ((fun w3 h3=>cY (hd.b0 w3 h3).es hny) w hw) ⟨_,rfl⟩)) rfl<|ag rfl<|ah (bM FD rZ (hd.ev y hym).ev.sm (.r rfl) (.r rfl) rfl (by omega)) rfl<|ah (aX (vs:=[_,_,_]) As (.r rfl) (fun w hw=>aA (off:=0) ((fun w3 h3=>cY ((hd.b0 w3 h3).ev y hym).ev hvi) w hw) ⟨_,rfl⟩) rfl) rfl<|cu<|cq 0 (vs:=[_,_,_]) (C':=[_,_,_]) (L':=[_]) rZ rfl rfl rfl rfl rfl rfl rfl rfl<|aq<|be (dA (bA (bA (dA (bA (dh (vs:=[_]) rfl ⟨jH (vs:=[_,_,_]) As rfl (aF 0 rfl ⟨_,rfl⟩) rfl,trivial⟩ (fun w hw=>?_))))))))
   rw[Rh hvi (by simpa using h32) hno]
   exact⟨rfl,hw.nil⟩
  ·
   refine aE (bB (aj<|aM (ag rfl<|da rfl rfl (by omega) (by omega) rfl<|ax rfl<|aN<|aZ fun a w ha hw=>⟨i+1,⟨by omega,II (P:=fun e=>xa∉e.t) hno hvi (by simpa using h32)⟩,(by omega),ha.sub (.c4 rfl rfl rfl rfl (.cons rfl .nil)),hw⟩)))
 ·
  have hie:i=y.l.length:=by omega
  subst hie
  refine bU (aH (aH (cB (aj<|au (ah (fA (ps:=[]) (vs:=[]) (C:=[_,_,_]) Va trivial rfl rfl) rfl<|cu<|cq 0 (vs:=[_,_,_]) (C':=[_,_,_]) (L':=[_]) rZ rfl rfl rfl rfl rfl rfl rfl rfl<|aq<|be (dh (vs:=[_]) rfl ⟨jH (vs:=[_,_,_]) As rfl (aF 0 rfl ⟨_,rfl⟩) rfl,trivial⟩ (fun w hw=>?_)))))))
  rw[Nr hno]
  exact⟨rfl,hw.nil⟩
theorem D9 (b:Nat) (h:jk) (d:o8) (n xa:Nat) (w:World) (hd:u0 w b h d) (hB:∀y,y∈d.es→KL y) (hn:n≤1000000):
 Calls af 96 #[.pointer (some ⟨b,0,none⟩),.int .i64 (n:Int),.int .i64 (xa:Int)] w fun e w'=>∃x:db,(x.m=Dp d n xa∧(x=qb∨∃(n:Nat) (y:qv),d.es[n]? =some y∧x∈y.l))∧e= .returned (WA x)∧St (bs w) [] w':=by
 refine enter (vs:=[_,_,_]) (env:=[(0,_),(1,_),(2,_)]) Tryz.func96 rfl rfl rfl rfl ?_
 refine au (aB rfl<|cJ (C:=#[_,_,_]) Ef rfl fun b1=>aq<|av<|au (ag rfl<|da rfl rfl (by omega) (by omega) rfl<|ag rfl<|ah (cV (.r rfl)) rfl<|bO (r:=9) sk rfl<|ah (aC SF (.r rfl) (bj (bI (off:=9) hd.c ⟨_,rfl⟩))) rfl<|ah (bE J1 (.r rfl) rfl) rfl<|ah (LO.ge (.r rfl) (.r rfl)) rfl<|aq ?_))
 refine ay rfl (fun h16=>?_) (fun h16=>?_)
 ·
  refine au (ah (fA (ps:=[]) (vs:=[]) (C:=[_,_,_]) Va trivial rfl rfl) rfl<|cu<|cq 0 (vs:=[_,_,_]) (C':=[_,_,_]) (L':=[_]) rZ rfl rfl rfl rfl rfl rfl rfl rfl<|aq<|be (bA (dh (vs:=[_]) rfl ⟨jH (vs:=[_,_,_]) As rfl (aF 0 rfl ⟨_,rfl⟩) rfl,trivial⟩ (fun w hw=>?_))))
  exact⟨qb,⟨by unfold Dp;rw[if_pos (by omega)],.inl rfl⟩,rfl,hw.nil⟩
 ·
  obtain⟨y,hny⟩:=du (l:=d.es) (n:=n+1) (by omega)
  have hym:y∈d.es:=al hny
  have hyn:=(hB y hym).n
  refine aE (aj<|au (ag rfl<|ah (cV (.r rfl)) rfl<|bO (r:=9) sk rfl<|ah (aC SF (.r rfl) (bj (bI (off:=9) hd.c ⟨_,rfl⟩))) rfl<|ag rfl<|da rfl rfl (by omega) (by omega) rfl<|ah (bM J1 Ug hd.es.sm (.r rfl) (.r rfl) (j:=n+1) rfl (by omega)) rfl<|ah (aC XH (.r rfl) (fun w hw=>aA (off:=0) ((fun w3 h3=>cY (hd.b0 w3 h3).es hny) w hw) ⟨_,rfl⟩)) rfl<|ax rfl<|aq<|av<|au (ax rfl<|aN ?_)))
  refine aj<|aD<|bS (α:=Nat) 0 (fun gx=>[(8,.int .i64 (gx:Nat))]) [(2,_),(6,_),(7,_)] (fun gx=>[]) (fun gx=>gx≤y.l.length∧∀k e,k<gx→y.l[k]? =some e→xa∉e.f) (fun gx=>y.l.length-gx) 0 (by exact⟨aY _,fun k e hk=>absurd hk (cQ _)⟩) (.c4 rfl rfl rfl rfl .nil) (fun _ h=>h) ?_
  rintro i ⟨hi,hno⟩
  refine av<|au (ag rfl<|ag rfl<|ah (bE FD (.r rfl) rfl) rfl<|dK rfl<|aq<|ay rfl (fun h29=>?_) (fun h29=>?_))
  ·
   obtain⟨x,hvi⟩:=du (l:=y.l) (n:=i) (by omega)
   have hxm:x∈y.l:=al hvi
   refine aE (aj<|av<|aD<|au (ag rfl<|ag rfl<|ah (bM FD rZ (hd.ev y hym).ev.sm (.r rfl) (.r rfl) rfl (by omega)) rfl<|bO uh rfl<|ah (aC iL (.r rfl) (fun w hw=>aA (off:=1) ((fun w3 h3=>cY ((hd.b0 w3 h3).ev y hym).ev hvi) w hw) ⟨_,rfl⟩)) rfl<|ag rfl<|ah (bK (xs:=[_,_]) (vs:=[_,_]) C78 ⟨(.r rfl),(.r rfl),trivial⟩ (fun w2 hw=>E9 x.f x.fp x.fc xa w2 (((hd.b0 w2 hw).ev y hym).f x hxm) ((hB y hym).f x hxm))) rfl<|aq<|ay rfl (fun h38=>?_) (fun h38=>?_)))
   ·
    refine au (ag rfl<|ag rfl<|ah (bM FD rZ (hd.ev y hym).ev.sm (.r rfl) (.r rfl) rfl (by omega)) rfl<|ah (aX (vs:=[_,_,_]) As (.r rfl) (fun w hw=>aA (off:=0) ((fun w3 h3=>cY ((hd.b0 w3 h3).ev y hym).ev hvi) w hw) ⟨_,rfl⟩) rfl) rfl<|cu<|cq 0 (vs:=[_,_,_]) (C':=[_,_,_]) (L':=[_]) rZ rfl rfl rfl rfl rfl rfl rfl rfl<|aq<|be (dA (bA (bA (dA (bA (dh (vs:=[_]) rfl ⟨jH (vs:=[_,_,_]) As rfl (aF 0 rfl ⟨_,rfl⟩) rfl,trivial⟩ (fun w hw=>?_))))))))
    exact⟨x,⟨by unfold Dp;rw[if_neg (by omega),zt hny];exact(VT hvi (by simpa using h38) hno).symm,.inr ⟨n+1,y,hny,hxm⟩⟩,rfl,hw.nil⟩
   ·
    refine aE (bB (aj<|aM (ag rfl<|da rfl rfl (by omega) (by omega) rfl<|ax rfl<|aN<|aZ fun a w ha hw=>⟨i+1,⟨by omega,II (P:=fun e=>xa∉e.f) hno hvi (by simpa using h38)⟩,(by omega),ha.sub (.c4 rfl rfl rfl rfl .nil),hw⟩)))
  ·
   have hie:i=y.l.length:=by omega
   subst hie
   refine bU (aH (aH (cB (aj<|au (ah (fA (ps:=[]) (vs:=[]) (C:=[_,_,_]) Va trivial rfl rfl) rfl<|cu<|cq 0 (vs:=[_,_,_]) (C':=[_,_,_]) (L':=[_]) rZ rfl rfl rfl rfl rfl rfl rfl rfl<|aq<|be (dh (vs:=[_]) rfl ⟨jH (vs:=[_,_,_]) As rfl (aF 0 rfl ⟨_,rfl⟩) rfl,trivial⟩ (fun w hw=>?_)))))))
   exact⟨qb,⟨by unfold Dp;rw[if_neg (by omega),zt hny];exact(Rp hno).symm,.inl rfl⟩,rfl,hw.nil⟩
theorem Ws (t:cH) (w:World) (h:0<t.ar.length) (hn:t.ar.length≤1000000) (hf:t.fr≤1000000):
 Calls af 77 #[QZ t] w fun e w'=>e= .returned (.int .i64 ((t.fr+t.ar.length-1:Nat):Int))∧St (bs w) [] w':=by
 refine enter (vs:=[_]) (env:=[(0,_)]) Tryz.func77 rfl rfl rfl rfl ?_
 refine au (aB rfl<|c8 (C:=#[_,_,_,_,_,_]) rfl rfl fun b1=>ax rfl<|aq<|au (bO (r:=1) sr rfl<|cL 0 O3 rfl rfl ⟨_,rfl⟩ rfl<|bO (r:=2) mN rfl<|cL 0 iL rfl rfl ⟨_,rfl⟩ rfl<|ah (bE fk (.r rfl) rfl) rfl<|da rfl rfl (by omega) (by omega) rfl<|ah (eN (LO.sub (.r rfl) (.r rfl) (wi (by omega) (by omega))) (congrArg (cX .i64) (show((t.fr:Nat):Int)+((t.ar.length:Nat):Int)-1=((t.fr+t.ar.length-1:Nat):Int) by omega))) rfl<|ax rfl<|aq<|be (dP rfl rfl (fun w hw=>?_))))
 exact⟨rfl,hw.nil⟩
theorem Kt:dr af 119 (.agg #[.int .i64 0,.int .i64 0,.slice none 0 0,.int .i64 0,.slice none 0 0,.slice none 0 0]):=by unfold dr;kernel_rfl
theorem C75:fh af 75:=⟨_,Tryz.func75,by decide,rfl⟩
theorem aa6:fU af 119 [(0,1),(1,1),(2,1),(3,1),(4,1),(5,1)] [.int .i64 0,.int .i64 0,.slice none 0 0,.int .i64 0,.slice none 0 0,.slice none 0 0]:=fU.mk fun _=>by kernel_rfl
theorem ov:(af.info? 119).map (·.size)=some 6:=by kernel_rfl
theorem MN:cP af 119 0 0:=⟨_,_,jq,rfl,rfl,0,by kernel_rfl⟩
theorem C96:fh af 96:=⟨_,Tryz.func96,by decide,rfl⟩
theorem E4:cP af 119 3 3:=⟨_,_,jq,rfl,rfl,0,by kernel_rfl⟩
theorem Ej:lh af 119 6:=⟨⟨_,jq,rfl⟩,by kernel_rfl⟩
theorem goD {d:o8} {E:List (List gF)} {Ms:List Nat} {tk:List fo} {of:Nat×Nat→Option Nat} {t:fo} {j xa:Nat} (hI:iF E Ms tk of) (hE:d.es.map qv.m=E) (ht:t∈tk) (ha:t.ar[j]? =some xa):
  (j+1<t.ar.length→(Dp d (t.fr+j) xa).kd=4∧∃b,t.ar[j+1]? =some b∧(Dp d (t.fr+j) xa).t=[b])∧(j+1=t.ar.length→(Dp d (t.fr+j) xa).kd=t.en∧t.en≠4):=by
 have hl:d.es.length=E.length:=by rw[←hE,ak]
 obtain⟨h1,h2⟩:=Zz hI ht ha
 unfold Dp
 rw[hE,hl]
 refine⟨fun hj=>?_,fun hj=>?_⟩
 ·obtain⟨z1,z2,b,z3,z4⟩:=h1 hj
  rw[if_neg (by omega)]
  exact⟨z2,b,z3,z4⟩
 ·have z:=h2 hj
  refine⟨?_,z.2⟩
  rw[←z.1]
  by_cases q:E.length≤t.fr+j+1
  ·rw[if_pos q,if_pos q];rfl
  ·rw[if_neg q,if_neg q]
theorem C0 {w:World} {b:Nat} {h:jk} {d:o8} (hd:u0 w b h d) {x:db} (hx:x=qb∨∃(n:Nat) (y:qv),d.es[n]? =some y∧x∈y.l):RO 1 nC w x.fp x.f∧RO 1 nC w x.tp x.t:=by
 rcases hx with rfl|⟨n,y,h1,h2⟩
 ·exact⟨⟨by simp [qb],fun _=>rfl,fun h=>absurd rfl h⟩,⟨by simp [qb],fun _=>rfl,fun h=>absurd rfl h⟩⟩
 ·have:=hd.ev y (al h1)
  exact⟨this.f x h2,this.t x h2⟩
theorem Ig {α:Type} {l:List α} {j:Nat} {b:α} (h:l[j+1]? =some b):l.take (j+1)++[b]=l.take (j+2):=by
 obtain⟨hk,e⟩:=an.1 h
 rw[bX hk,e]
def K1 (t:fo) (p:Option Addr) (c:Nat):cH:=⟨t.bg,t.fr,p,c,t.ar,t.en,none,0,[],none,0,[]⟩
theorem YV {x:db} {e:gF} (h:x.m=e):x.kd=e.kd∧x.f=e.f∧x.t=e.t:=by subst h;exact⟨rfl,rfl,rfl⟩
theorem DT {l:List Nat} {a:Nat} (h:l[0]? =some a):l.take 1=[a]:=by cases l with|nil=>cases h|cons b l=>rw[List.getElem?_cons_zero]at h;have:=eI h;subst this;rfl
theorem Q3 (b:Nat) (h:jk) (d:o8) (E:List (List gF)) (Ms:List Nat) (tkm:List fo) (of:Nat×Nat→Option Nat) (hI:iF E Ms tkm of) (hE:d.es.map qv.m=E) (hB:∀y,y∈d.es→KL y) (hMs:Ms.length≤1000) (t:fo) (ht:t∈tkm) (w:World) (hd:u0 w b h d):
 Calls af 76 #[.pointer (some ⟨b,0,none⟩),.int .i64 (t.fr:Int),.int .i64 (t.ar.headD 0:Int)] w fun e w'=>∃y:B9,True∧e= .returned (QZ (K1 t y.p y.c))∧St (bs w) [own 3 1 y.p y.c (t.ar.map nC)] w':=by
 have hEl:d.es.length=Ms.length:=by have:=hI.q.len;rw[←hE,ak]at this;exact this
 obtain⟨hp1,hp2,hp3⟩:=hI.pos ht
 obtain⟨y,hny⟩:=du (l:=d.es) (n:=t.fr) (by omega)
 have hbg:=hI.q.bg t ht
 have hEy:E.getD t.fr []=y.l.map dD:=by rw[←hE];exact zt hny
 have hhd:=(hI.head ht).1
 refine enter (vs:=[_,_,_]) (env:=[(0,_),(1,_),(2,_)]) Tryz.func76 rfl rfl rfl rfl ?_
 refine au (aB rfl<|cJ (C:=#[_,_,_,_,_,_]) Kt rfl fun b1=>aq<|au (ag rfl<|ag rfl<|ag rfl<|ah (bK (xs:=[_,_,_]) (vs:=[_,_,_]) C75 ⟨(.r rfl),(.r rfl),(.r rfl),trivial⟩ (fun w2 hw=>zC b h d t.fr (t.ar.headD 0) w2 (hd.b0 w2 hw) y hny (hB y (al hny)))) rfl<|ah (LO.fd1 (F:=_) jo rfl rfl O3 (.r rfl) rfl) rfl<|ag rfl<|ag rfl<|aB rfl<|eW (ps:=[(_,_)]) (vs:=[(_,_)]) (Z:=[_]) (C:=[_]) fk Z3 N3 ⟨(.r rfl),trivial⟩ rfl rfl rfl rfl ⟨_,[_],[_],rfl,rfl,rfl,rfl,rfl⟩ fun b2=>aB rfl<|aW (fA (ps:=[(_,_),(_,_),(_,_)]) (vs:=[(_,_),(_,_),(_,_)]) (C:=[_,_,_,_,_,_]) aa6 ⟨(.r rfl),(.r rfl),(.r rfl),trivial⟩ rfl ⟨_,[_],[_,_,_,_,_,_],rfl,rfl,rfl,rfl,⟨_,[_],[_,_,_,_,_,_],rfl,rfl,rfl,rfl,⟨_,[_],[_,_,_,_,_,_],rfl,rfl,rfl,rfl,rfl⟩⟩⟩)<|aB rfl<|cJ (C:=#[_,_,_,_,_,_]) Kt rfl fun b3=>cu<|cq 0 (vs:=[_,_,_,_,_,_]) (C':=[_,_,_,_,_,_]) (L':=[_,_,_]) ov rfl rfl rfl rfl rfl rfl rfl rfl<|aq<|av ?_))
 refine au (ag rfl<|ah (ia (.r rfl) (.r rfl)) rfl<|aq<|ay rfl (fun h19=>?_) (fun h19=>?_))
 ·
  refine aM (bO (r:=0) MN rfl<|cu<|cq 0 (vs:=[_]) (C':=[_,_,_,_,_,_]) (L':=[_,_,_]) N3 rfl rfl rfl rfl rfl rfl rfl rfl<|aq<|aD<|iv (fun w hw=>St.yu (v:=nC (t.ar.headD 0)) (z:=1) 0 rfl rfl (dq (L1:=[_,_,_]) [1,0,2] rfl rfl _ hw)) ?_)
  show VC _ _ _ _ _ _ [own 3 1 (some ⟨b2,0,none⟩) 1 ([t.ar.headD 0].map nC),_,_] _ _
  refine gw [1,0,2] rfl<|bS (α:=Nat×Nat×(List Nat)×(Option Addr)×Nat) 2 (fun gx=>[(1,.int .i64 ((t.fr+gx.1:Nat):Int)),(2,.int .i64 (gx.2.1:Int))]) [(0,_),(6,_),(7,_)] (fun gx=>[gq b3 (.cells #[.int .i64 1,.int .i64 (t.fr:Int),.slice gx.2.2.2.1 gx.2.2.1.length gx.2.2.2.2,.int .i64 0,.slice none 0 0,.slice none 0 0] 119),own 3 1 gx.2.2.2.1 gx.2.2.2.2 (gx.2.2.1.map nC)]) (fun gx=>t.ar[gx.1]? =some gx.2.1∧gx.2.2.1=t.ar.take (gx.1+1)) (fun gx=>t.ar.length-gx.1) (0,(t.ar.headD 0),[t.ar.headD 0],(some ⟨b2,0,none⟩),1) (by exact⟨hhd,by rw[←DT hhd]⟩) (.c4 rfl rfl rfl rfl (.cons rfl .nil)) (fun _ h=>h) ?_
  rintro ⟨j,xa,l,ap,ac⟩ ⟨hja,hl⟩
  show VC _ _ _ _ _ ([(1,.int .i64 ((t.fr+j:Nat):Int)),(2,.int .i64 (xa:Int))]++_) ([gq b3 (.cells #[.int .i64 1,.int .i64 (t.fr:Int),.slice ap l.length ac,.int .i64 0,.slice none 0 0,.slice none 0 0] 119),own 3 1 ap ac (l.map nC)]++_) _ _
  dsimp only at hja hl
  have hjl:=(an.1 hja).1
  have hll:l.length=j+1:=by rw[hl,eU];omega
  obtain⟨hgo1,hgo2⟩:=goD hI hE ht hja
  refine aD<|au (ag rfl<|ag rfl<|ag rfl<|aB rfl<|cd (xs:=[_,_,_]) (vs:=[_,_,_]) C96 ⟨(.r rfl),(.r rfl),(.r rfl),trivial⟩ (fun w2 hw=>D9 b h d (t.fr+j) xa w2 (hd.b0 w2 hw) hB (by omega)) fun x hx=>aB rfl<|cJ (C:=#[_,_,_]) Ef rfl fun b10=>cu<|cq 0 (vs:=[_,_,_]) (C':=[_,_,_]) (L':=[_,_,_,_]) rZ rfl rfl rfl rfl rfl rfl rfl rfl<|aq<|av<|au (bO (r:=0) uj rfl<|cL 0 O3 rfl rfl ⟨_,rfl⟩ rfl<|VO.u rfl<|aN ?_))
  refine aj<|ay rfl (fun h27=>?_) (fun h27=>?_)
  ·
   obtain⟨hxk,hxf,hxt0⟩:=YV hx.1
   have z27:¬j+1<t.ar.length:=fun z=>by have y1:=(hgo1 z).1;rw[←hxk]at y1;exact h27 y1
   have hjn:j+1=t.ar.length:=by omega
   refine au (bO (r:=0) uj rfl<|cL 0 O3 rfl rfl ⟨_,rfl⟩ rfl<|bO (r:=3) E4 rfl<|cu<|cq 1 (vs:=[_]) (C':=[_,_,_,_,_,_]) (L':=[_,_,_,_]) N3 rfl rfl rfl rfl rfl rfl rfl rfl<|aq<|au (ah (aX (vs:=[_,_,_,_,_,_]) Ej (.r rfl) (aF 1 rfl ⟨_,rfl⟩) rfl) rfl<|cu<|cq 3 (vs:=[_,_,_,_,_,_]) (C':=[_,_,_,_,_,_]) (L':=[_,_,_,_]) ov rfl rfl rfl rfl rfl rfl rfl rfl<|aq<|be (bA (dA (bA (dA (dh (vs:=[_]) rfl ⟨jH (vs:=[_,_,_,_,_,_]) Ej rfl (aF 3 rfl ⟨_,rfl⟩) rfl,trivial⟩ (fun w hw=>?_))))))))
   have e1:l=t.ar:=by rw[hl,hjn,eG]
   have e2:x.kd=t.en:=by rw[hxk];exact(hgo2 hjn).1
   have e3:(1:Int)=t.bg:=by omega
   refine⟨⟨ap,ac⟩,trivial,?_,by rw[←e1];exact dq [2] rfl rfl _ hw⟩
   show _=bT (.agg #[.int .i64 t.bg,.int .i64 (t.fr:Int),.slice ap t.ar.length ac,.int .i64 t.en,.slice none 0 0,.slice none 0 0])
   rw[show t.ar.length=l.length from by rw[e1], ←e2, ←e3]
   try rfl
  ·
   obtain⟨hxk,hxf,hxt0⟩:=YV hx.1
   have h27b:x.kd=4:=eK.1 h27
   have z27:¬j+1=t.ar.length:=fun z=>by have y1:=hgo2 z;rw[←hxk]at y1;exact y1.2 (y1.1.symm.trans h27b)
   have hjn:j+1<t.ar.length:=by omega
   obtain⟨_,xb,hxb,hxt1⟩:=hgo1 hjn
   have hxt:x.t=[xb]:=hxt0.trans hxt1
   have hx0:x.t[0]? =some xb:=by rw[hxt];rfl
   refine aE (aj<|au (ag rfl<|da rfl rfl (by omega) (by omega) rfl<|ax rfl<|aq<|au (bO (r:=2) rf rfl<|cL 0 iL rfl rfl ⟨_,rfl⟩ rfl<|ah (bM fk N3 (C0 hd hx.2).2.sm (.r rfl) (.r rfl) (j:=0) rfl (by rw[hxt];simp)) rfl<|ah (aC O3 (.r rfl) (fun w hw=>aA (off:=0) ((fun w3 h3=>cY ((C0 hd hx.2).2.b0 w3 h3) hx0) w hw) ⟨_,rfl⟩)) rfl<|ax rfl<|aq ?_)))
   refine aM (bO (r:=2) mN rfl<|cL 1 iL rfl rfl ⟨_,rfl⟩ rfl<|ag rfl<|aB rfl<|eW (ps:=[(_,_)]) (vs:=[(_,_)]) (Z:=[_]) (C:=[_]) fk Z3 N3 ⟨(.r rfl),trivial⟩ rfl rfl rfl rfl ⟨_,[_],[_],rfl,rfl,rfl,rfl,rfl⟩ fun b14=>aB rfl<|eP (xb) 3 0 (fun R=>[_,_,_,R,_]) fk fk I3 (.r rfl) (.r rfl) rfl rfl rfl rfl rfl rfl rfl (fun _=>rfl) rfl (by omega) fun p4 c4=>bO (r:=2) mN rfl<|cu<|cq 2 (vs:=[_]) (C':=[_,_,_,_,_,_]) (L':=[_,_,_,_,_]) qL rfl rfl rfl rfl rfl rfl rfl rfl<|aN<|bB<|aZ fun a w ha hw=>⟨((j+1),xb,(l++[xb]),p4,c4),⟨hxb,by rw[hl];exact Ig hxb⟩,(by dsimp only;omega),ha.sub (.c4 rfl rfl rfl rfl (.cons rfl .nil)),hw.gY [2,3,4] rfl⟩)
 ·
  refine aE (aj<|aD<|iv (fun w hw=>St.yu (v:=nC (t.ar.headD 0)) (z:=1) 0 rfl rfl (dq (L1:=[_,_,_]) [1,0,2] rfl rfl _ hw)) ?_)
  show VC _ _ _ _ _ _ [own 3 1 (some ⟨b2,0,none⟩) 1 ([t.ar.headD 0].map nC),_,_] _ _
  refine gw [1,0,2] rfl<|bS (α:=Nat×Nat×(List Nat)×(Option Addr)×Nat) 2 (fun gx=>[(1,.int .i64 ((t.fr+gx.1:Nat):Int)),(2,.int .i64 (gx.2.1:Int))]) [(0,_),(6,_),(7,_)] (fun gx=>[gq b3 (.cells #[.int .i64 (qt y.l (t.ar.headD 0)).kd,.int .i64 (t.fr:Int),.slice gx.2.2.2.1 gx.2.2.1.length gx.2.2.2.2,.int .i64 0,.slice none 0 0,.slice none 0 0] 119),own 3 1 gx.2.2.2.1 gx.2.2.2.2 (gx.2.2.1.map nC)]) (fun gx=>t.ar[gx.1]? =some gx.2.1∧gx.2.2.1=t.ar.take (gx.1+1)) (fun gx=>t.ar.length-gx.1) (0,(t.ar.headD 0),[t.ar.headD 0],(some ⟨b2,0,none⟩),1) (by exact⟨hhd,by rw[←DT hhd]⟩) (.c4 rfl rfl rfl rfl (.cons rfl .nil)) (fun _ h=>h) ?_
  rintro ⟨j,xa,l,ap,ac⟩ ⟨hja,hl⟩
  show VC _ _ _ _ _ ([(1,.int .i64 ((t.fr+j:Nat):Int)),(2,.int .i64 (xa:Int))]++_) ([gq b3 (.cells #[.int .i64 (qt y.l (t.ar.headD 0)).kd,.int .i64 (t.fr:Int),.slice ap l.length ac,.int .i64 0,.slice none 0 0,.slice none 0 0] 119),own 3 1 ap ac (l.map nC)]++_) _ _
  dsimp only at hja hl
  have hjl:=(an.1 hja).1
  have hll:l.length=j+1:=by rw[hl,eU];omega
  obtain⟨hgo1,hgo2⟩:=goD hI hE ht hja
  refine aD<|au (ag rfl<|ag rfl<|ag rfl<|aB rfl<|cd (xs:=[_,_,_]) (vs:=[_,_,_]) C96 ⟨(.r rfl),(.r rfl),(.r rfl),trivial⟩ (fun w2 hw=>D9 b h d (t.fr+j) xa w2 (hd.b0 w2 hw) hB (by omega)) fun x hx=>aB rfl<|cJ (C:=#[_,_,_]) Ef rfl fun b20=>cu<|cq 0 (vs:=[_,_,_]) (C':=[_,_,_]) (L':=[_,_,_,_]) rZ rfl rfl rfl rfl rfl rfl rfl rfl<|aq<|av<|au (bO (r:=0) uj rfl<|cL 0 O3 rfl rfl ⟨_,rfl⟩ rfl<|VO.u rfl<|aN ?_))
  refine aj<|ay rfl (fun h27=>?_) (fun h27=>?_)
  ·
   obtain⟨hxk,hxf,hxt0⟩:=YV hx.1
   have z27:¬j+1<t.ar.length:=fun z=>by have y1:=(hgo1 z).1;rw[←hxk]at y1;exact h27 y1
   have hjn:j+1=t.ar.length:=by omega
   refine au (bO (r:=0) uj rfl<|cL 0 O3 rfl rfl ⟨_,rfl⟩ rfl<|bO (r:=3) E4 rfl<|cu<|cq 1 (vs:=[_]) (C':=[_,_,_,_,_,_]) (L':=[_,_,_,_]) N3 rfl rfl rfl rfl rfl rfl rfl rfl<|aq<|au (ah (aX (vs:=[_,_,_,_,_,_]) Ej (.r rfl) (aF 1 rfl ⟨_,rfl⟩) rfl) rfl<|cu<|cq 3 (vs:=[_,_,_,_,_,_]) (C':=[_,_,_,_,_,_]) (L':=[_,_,_,_]) ov rfl rfl rfl rfl rfl rfl rfl rfl<|aq<|be (bA (dA (bA (dA (dh (vs:=[_]) rfl ⟨jH (vs:=[_,_,_,_,_,_]) Ej rfl (aF 3 rfl ⟨_,rfl⟩) rfl,trivial⟩ (fun w hw=>?_))))))))
   have e1:l=t.ar:=by rw[hl,hjn,eG]
   have e2:x.kd=t.en:=by rw[hxk];exact(hgo2 hjn).1
   have e3:(qt y.l (t.ar.headD 0)).kd=t.bg:=by have y1:=(YV (BQ (l:=y.l) (a:=t.ar.headD 0))).1;rw[hEy]at hbg;rw[y1];omega
   refine⟨⟨ap,ac⟩,trivial,?_,by rw[←e1];exact dq [2] rfl rfl _ hw⟩
   show _=bT (.agg #[.int .i64 t.bg,.int .i64 (t.fr:Int),.slice ap t.ar.length ac,.int .i64 t.en,.slice none 0 0,.slice none 0 0])
   rw[show t.ar.length=l.length from by rw[e1], ←e2, ←e3]
   try rfl
  ·
   obtain⟨hxk,hxf,hxt0⟩:=YV hx.1
   have h27b:x.kd=4:=eK.1 h27
   have z27:¬j+1=t.ar.length:=fun z=>by have y1:=hgo2 z;rw[←hxk]at y1;exact y1.2 (y1.1.symm.trans h27b)
   have hjn:j+1<t.ar.length:=by omega
   obtain⟨_,xb,hxb,hxt1⟩:=hgo1 hjn
   have hxt:x.t=[xb]:=hxt0.trans hxt1
   have hx0:x.t[0]? =some xb:=by rw[hxt];rfl
   refine aE (aj<|au (ag rfl<|da rfl rfl (by omega) (by omega) rfl<|ax rfl<|aq<|au (bO (r:=2) rf rfl<|cL 0 iL rfl rfl ⟨_,rfl⟩ rfl<|ah (bM fk N3 (C0 hd hx.2).2.sm (.r rfl) (.r rfl) (j:=0) rfl (by rw[hxt];simp)) rfl<|ah (aC O3 (.r rfl) (fun w hw=>aA (off:=0) ((fun w3 h3=>cY ((C0 hd hx.2).2.b0 w3 h3) hx0) w hw) ⟨_,rfl⟩)) rfl<|ax rfl<|aq ?_)))
   refine aM (bO (r:=2) mN rfl<|cL 1 iL rfl rfl ⟨_,rfl⟩ rfl<|ag rfl<|aB rfl<|eW (ps:=[(_,_)]) (vs:=[(_,_)]) (Z:=[_]) (C:=[_]) fk Z3 N3 ⟨(.r rfl),trivial⟩ rfl rfl rfl rfl ⟨_,[_],[_],rfl,rfl,rfl,rfl,rfl⟩ fun b24=>aB rfl<|eP (xb) 3 0 (fun R=>[_,_,_,R,_]) fk fk I3 (.r rfl) (.r rfl) rfl rfl rfl rfl rfl rfl rfl (fun _=>rfl) rfl (by omega) fun p4 c4=>bO (r:=2) mN rfl<|cu<|cq 2 (vs:=[_]) (C':=[_,_,_,_,_,_]) (L':=[_,_,_,_,_]) qL rfl rfl rfl rfl rfl rfl rfl rfl<|aN<|bB<|aZ fun a w ha hw=>⟨((j+1),xb,(l++[xb]),p4,c4),⟨hxb,by rw[hl];exact Ig hxb⟩,(by dsimp only;omega),ha.sub (.c4 rfl rfl rfl rfl (.cons rfl .nil)),hw.gY [2,3,4] rfl⟩)
theorem sn:cP af 89 4 8:=⟨_,_,kY,rfl,rfl,0,by kernel_rfl⟩
theorem R7:jJ af 86:=⟨⟨_,wR,rfl⟩,by kernel_rfl⟩
theorem K3:ee af 86 101:=wR
theorem F8:(af.info? 101).map (·.size)=some 1:=by kernel_rfl
theorem OB:jJ af 101:=⟨⟨_,Tryz.underlying101,rfl⟩,by kernel_rfl⟩
theorem C76:fh af 76:=⟨_,Tryz.func76,by decide,rfl⟩
theorem lR:ee af 105 119:=Tryz.underlying105
theorem abN:j6 af 119 6 96 (.agg #[.int .i64 0,.int .i64 0,.slice none 0 0,.int .i64 0,.slice none 0 0,.slice none 0 0]):=⟨by kernel_rfl,by kernel_rfl,by unfold dr;kernel_rfl,rfl,by decide⟩
theorem C77:fh af 77:=⟨_,Tryz.func77,by decide,rfl⟩
theorem zB:cP af 119 5 5:=⟨_,_,jq,rfl,rfl,0,by kernel_rfl⟩
theorem Ct:cP af 119 4 4:=⟨_,_,jq,rfl,rfl,0,by kernel_rfl⟩
theorem QY {b:Nat} {h:jk} {d:o8} {E:List (List gF)} {Ms:List Nat} {tkm:List fo} {of:Nat×Nat→Option Nat} (hI:iF E Ms tkm of) (hE:d.es.map qv.m=E) (hB:∀y,y∈d.es→KL y) (hMs:Ms.length≤1000) (t:fo) (ht:t∈tkm) (n i:Nat) (hn:t.fr=n) (hi:t.ar.headD 0=i) (w:World) (hd:u0 w b h d):
  Calls af 76 #[.pointer (some ⟨b,0,none⟩),.int .i64 (n:Int),.int .i64 (i:Int)] w fun e w'=>∃y:B9,True∧e= .returned (QZ (K1 t y.p y.c))∧St (bs w) [own 3 1 y.p y.c (t.ar.map nC)] w':=by
 subst hn;subst hi
 exact Q3 b h d E Ms tkm of hI hE hB hMs t ht w hd
theorem Q8 {tk:List fo} {k:Nat} {t:fo} (h:tk[k]? =some t):(tk.take (k+1)).map zw=(tk.take k).map zw++[zw t]:=by
 obtain⟨hk,e⟩:=an.1 h
 rw[bX hk,e,bG];rfl
structure ArN (d:o8) (Ms:List Nat):Prop where
 n:d.ds.length=Ms.length
 m:∀(n:Nat) (y:uE),d.ds[n]? =some y→y.l.length=Ms.getD n 0
 b:∀(n:Nat) (y:uE),d.ds[n]? =some y→y.l.length≤4096
theorem Od {E:List (List gF)} {tk:List fo} {tr:List cH} {i k p:Nat} {x:cH} (hm:tr.map dG=EN E tk i k) (hx:tr[p]? =some x):∃t,tk[p]? =some t∧x.m=CZ E tk i k p t∧x.fr=t.fr∧x.ar=t.ar:=by
 have h1:(tr.map dG)[p]? =some x.m:=by rw[aI,hx];rfl
 rw[hm,o9]at h1
 obtain⟨t,ht,e⟩:=mi.1 h1
 refine⟨t,ht,e.symm,?_,?_⟩
 ·have:=congrArg fo.fr e;exact this.symm
 ·have:=congrArg fo.ar e;exact this.symm
theorem OE {E:List (List gF)} {tk:List fo} {i k p:Nat} {x:cH} {t:fo} (h:x.m=CZ E tk i k p t) (hk:k≤tk.length) (hi:i<tk.length):x.ch.length≤tk.length∧x.pa.length≤tk.length:=by
 have h1:x.ch=I0 E tk i k p t:=congrArg fo.ch h
 have h2:x.pa=IV E tk i k p t:=congrArg fo.pa h
 rw[h1,h2]
 unfold I0 IV
 refine⟨?_,?_⟩
 ·split
  ·exact dE (cE _ _) (by simp)
  ·split
   ·exact dE (cE _ _) (by simpa using hk)
   ·exact aY _
 ·refine dE (cE _ _) ?_
  rw[jO];split<;>omega
theorem Si {E:List (List gF)} {s t:fo} {xf yf:Nat} {xa ya:List Nat} {y0 xl:Nat} {l:List db} (h1:xf=s.fr) (h2:xa=s.ar) (h3:yf=t.fr) (h4:ya=t.ar) (h5:ya[0]? =some y0) (h6:xa[xa.length-1]? =some xl) (h7:E.getD yf []=l.map dD) (h8:0<xa.length):me E s t=decide (xf+xa.length-1+1=yf∧0<yf∧xl∈(qt l y0).f):=by
 subst h1;subst h2;subst h3;subst h4
 unfold me
 have e1:t.ar.headD 0=y0:=by cases hq:t.ar with|nil=>rw[hq]at h5;cases h5|cons a m=>rw[hq]at h5;exact eI h5
 have e2:s.last=xl:=by unfold fo.last;rw[aO,h6];rfl
 have e3:(qt l y0).f=(zE (l.map dD) y0).f:=by rw[←BQ];rfl
 rw[h7,e1,e2,e3]
 unfold fo.up
 rw[show s.fr+s.ar.length-1+1=s.fr+s.ar.length by omega]
theorem Zk {β:Bs} {L:List dg} {w:World} (hw:St β L w) (i:Nat) {tr tu:List cH} (hi:L[i]? =some (bV (tr.map gl))) {x:cH} (hx:x∈tu) (haR:tu.map gl=tr.map gl):RO 1 nC w x.ap x.ar:=
 gh ((hw.inv i _ hi).1 (gl x) (by rw[←haR];exact bw hx))
theorem Sp {d:o8} {n a:Nat} {y:qv} (h:d.es[n]? =some y):qt y.l a=qb∨∃(n:Nat) (y2:qv),d.es[n]? =some y2∧qt y.l a∈y2.l:=by
 rcases CW (l:=y.l) (a:=a) with z|z
 ·exact .inl z
 ·exact .inr ⟨n,y,h,z⟩
theorem Om {y:qv} {a:Nat} (h:KL y):(qt y.l a).f.length≤1000000:=by
 rcases CW (l:=y.l) (a:=a) with z|z
 ·rw[z];exact aY _
 ·exact h.f _ z
theorem Rm {l:List cH} {k c b:Nat} {p:Option Addr} {t:cH}:(l.map e9).set k ((e9 t).take 4++[.slice p (t.pa++[b]).length c]++(e9 t).drop (4+[il p (t.pa++[b]).length c].length))=(l.set k { t with pp:=p,pc:=c,pa:=t.pa++[b] }).map e9:=by rw[iS];rfl
def F4.DR (y:F4):List dg:=[own 119 6 y.p y.c (y.tk.map e9),bV (y.tk.map gl),bV (y.tk.map ff),bV (y.tk.map ef)]
theorem Kl (b:Nat) (h:jk) (d:o8) (E:List (List gF)) (Ms:List Nat) (tkm:List fo) (of:Nat×Nat→Option Nat) (hI:iF E Ms tkm of) (hE:d.es.map qv.m=E) (hB:∀y,y∈d.es→KL y) (hMs:Ms.length≤1000) (hA:ArN d Ms) (hlen:tkm.length≤30000) (hG:re E Ms) (w:World) (hd:u0 w b h d):
 Calls af 38 #[.pointer (some ⟨b,0,none⟩)] w fun e w'=>∃y:F4,y.tk.map dG=tkm∧e= .returned (.slice y.p y.tk.length y.c)∧St (bs w) (y.DR) w':=by
 have hEl:d.es.length=Ms.length:=by have:=hI.q.len;rw[←hE,ak]at this;exact this
 have hdl:=hA.n
 refine enter (vs:=[_]) (env:=[(0,_)]) Tryz.func38 rfl rfl rfl rfl ?_
 refine au (ax rfl<|aq<|au (ax rfl<|aq<|av ?_))
 refine au (ax rfl<|aq<|aD<|bS (α:=Nat×Nat×(List cH)×(Option Addr)×Nat) 0 (fun gx=>[(3,.slice gx.2.2.2.1 gx.2.2.1.length gx.2.2.2.2),(4,.int .i64 (gx.1:Nat))]) [(0,_)] (fun gx=>[own 119 6 gx.2.2.2.1 gx.2.2.2.2 (gx.2.2.1.map e9),bV (gx.2.2.1.map gl),bV (gx.2.2.1.map ff),bV (gx.2.2.1.map ef)]) (fun gx=>gx.1≤Ms.length∧ET tkm gx.1 0 gx.2.1∧gx.2.2.1.map dG=(tkm.take gx.2.1).map zw) (fun gx=>Ms.length-gx.1) (0,0,[],none,0) (by exact⟨aY _,ET.zero,rfl⟩) (.cons rfl (.cons rfl (.cons rfl .nil))) (fun _ h=>((St.bV (Rs:=[]) (St.bV (Rs:=[]) (St.bV (Rs:=[]) h))).fX 119 6)) ?_)
 rintro ⟨n,k,tr,po,co⟩ ⟨hn,hD,hm⟩
 show VC _ _ _ _ _ ([(3,.slice po tr.length co),(4,.int .i64 (n:Nat))]++_) ([own 119 6 po co (tr.map e9),bV (tr.map gl),bV (tr.map ff),bV (tr.map ef)]++_) _ _
 dsimp only at hn hD hm
 have htrl:tr.length=k:=by have z:=congrArg dv hm;rw[ak,ak,eU]at z;have:=hD.le;omega
 refine av<|au (ag rfl<|ag rfl<|ah (cV (.r rfl)) rfl<|bO (r:=8) sn rfl<|ah (aC R7 (.r rfl) (bj (bI (off:=8) hd.c ⟨_,rfl⟩))) rfl<|ah (bE K3 (.r rfl) rfl) rfl<|dK rfl<|aq<|ay rfl (fun h16=>?_) (fun h16=>?_))
 ·
  obtain⟨ya_,hny⟩:=du (l:=d.ds) (n:=n) (by omega)
  obtain⟨ey,hey⟩:=du (l:=d.es) (n:=n) (by omega)
  have hyl:=hA.m n ya_ hny
  have hyb:=hA.b n ya_ hny
  have hEn:E.getD n []=ey.l.map dD:=by rw[←hE];exact zt hey
  refine aE (aj<|av<|aD<|au (ax rfl<|aq<|aD ?_))
  refine bS (α:=Nat×Nat×(List cH)×(Option Addr)×Nat) 4 (fun gx=>[(3,.slice gx.2.2.2.1 gx.2.2.1.length gx.2.2.2.2),(5,.int .i64 (gx.1:Nat))]) [(0,_),(4,_)] (fun gx=>[own 119 6 gx.2.2.2.1 gx.2.2.2.2 (gx.2.2.1.map e9),bV (gx.2.2.1.map gl),bV (gx.2.2.1.map ff),bV (gx.2.2.1.map ef)]) (fun gx=>gx.1≤Ms.getD n 0∧ET tkm n gx.1 gx.2.1∧gx.2.2.1.map dG=(tkm.take gx.2.1).map zw) (fun gx=>Ms.getD n 0-gx.1) (0,k,tr,po,co) (by exact⟨aY _,hD,hm⟩) (.c4 rfl rfl rfl rfl .nil) (fun _ h=>h) ?_
  rintro ⟨i,k,tr,po,co⟩ ⟨hi,hD,hm⟩
  show VC _ _ _ _ _ ([(3,.slice po tr.length co),(5,.int .i64 (i:Nat))]++_) ([own 119 6 po co (tr.map e9),bV (tr.map gl),bV (tr.map ff),bV (tr.map ef)]++_) _ _
  dsimp only at hi hD hm
  have htrl:tr.length=k:=by have z:=congrArg dv hm;rw[ak,ak,eU]at z;have:=hD.le;omega
  refine av<|au (ag rfl<|ag rfl<|ah (cV (.r rfl)) rfl<|bO (r:=8) sn rfl<|ah (aC R7 (.r rfl) (bj (bI (off:=8) hd.c ⟨_,rfl⟩))) rfl<|ag rfl<|ah (bM K3 F8 hd.ds.sm (.r rfl) (.r rfl) rfl (by omega)) rfl<|ah (aC OB (.r rfl) (fun w hw=>aA (off:=0) ((fun w3 h3=>cY (hd.b0 w3 h3).ds hny) w hw) ⟨_,rfl⟩)) rfl<|ah (bE yE (.r rfl) rfl) rfl<|dK rfl<|aq<|ay rfl (fun h28=>?_) (fun h28=>?_))
  ·
   refine aE (aj<|av<|aD<|au (ag rfl<|ah (ia (.r rfl) (.r rfl)) rfl<|ag rfl<|aK rfl (fun hg=>aS (.r rfl))<|aK rfl (fun hg=>aS (.r rfl))<|aK rfl (fun hg=>aS (.r rfl))<|aK rfl (fun hg=>bK (xs:=[_,_,_]) (vs:=[_,_,_]) C75 ⟨(.g hg rfl),(.g hg rfl),(.g hg rfl),trivial⟩ (fun w2 hw=>zC b h d n i w2 (hd.b0 w2 hw) ey hey (hB ey (al hey))))<|aK rfl (fun hg=>LO.fd1 (F:=_) jo rfl rfl O3 (.g hg rfl) rfl)<|aK rfl (fun hg=>LO.ne (.g hg rfl) (.r rfl))<|ah (LO.jZ (.r rfl) (.r rfl) rfl rfl) rfl<|aq<|ay rfl (fun h40=>?_) (fun h40=>?_)))
   ·
    have hnew:pM n (E.getD n []) i=true:=by unfold pM;rw[hEn, ←BQ];exact decide_eq_true (h40.imp (fun z=>by omega) (fun z=>z))
    obtain⟨t,htk,htf,hth,hD2⟩:=hD.take hI hG (by omega) (by omega) hnew
    have hkl:=rl htk
    refine aM (ag rfl<|ag rfl<|ag rfl<|ag rfl<|aB rfl<|cd (xs:=[_,_,_]) (vs:=[_,_,_]) C76 ⟨(.r rfl),(.r rfl),(.r rfl),trivial⟩ (fun w2 hw=>QY hI hE hB hMs t (al htk) n i htf hth w2 (hd.b0 w2 hw)) fun yx _=>aB rfl<|eW (ps:=[(_,_)]) (vs:=[(_,_)]) (Z:=[_,_,_,_,_,_]) (C:=[_,_,_,_,_,_]) lR Kt ov ⟨(.r rfl),trivial⟩ rfl rfl rfl rfl ⟨_,[_,_,_,_,_,_],[_,_,_,_,_,_],rfl,rfl,rfl,rfl,rfl⟩ fun b6=>aB rfl<|eP ((K1 t yx.p yx.c)) 2 0 (fun R=>[_,_,R,_,_,_]) lR lR abN (.r rfl) (.r rfl) rfl rfl rfl rfl rfl rfl rfl (fun _=>rfl) rfl (by omega) fun p6 c6=>aB rfl<|aW (LO.as (.r rfl))<|aN<|bB (aj<|aM (ag rfl<|da rfl rfl (by omega) (by omega) rfl<|ax rfl<|aN<|aZ fun a w ha hw=>⟨(i+1,k+1,tr++[K1 t yx.p yx.c],p6,c6),⟨by dsimp only;omega,hD2,by dsimp only;rw[bG,hm,Q8 htk];rfl⟩,(by dsimp only;omega),ha.sub (.c4 rfl rfl rfl rfl .nil),(by dsimp only;rw[bG (f:=gl),bG (f:=ff),bG (f:=ef)];exact dq (L1:=[_,_,_,_]) [4,2,1,0] rfl rfl _ (St.pO (r:=ef (K1 t yx.p yx.c)) (Rs:=tr.map ef) (dq (L1:=ef (K1 t yx.p yx.c)::bV (tr.map ef)::[_,_,_,_]) [0,5,1,2,3,4] rfl rfl _ ((St.fX (St.pO (r:=ff (K1 t yx.p yx.c)) (Rs:=tr.map ff) (dq (L1:=ff (K1 t yx.p yx.c)::bV (tr.map ff)::[_,_,_,_]) [0,4,1,2,3,5] rfl rfl _ ((St.fX (St.pO (r:=gl (K1 t yx.p yx.c)) (Rs:=tr.map gl) (dq (L1:=gl (K1 t yx.p yx.c)::bV (tr.map gl)::[_,_,_,_]) [1,3,0,2,4,5] rfl rfl _ (hw))) 3 1)))) 3 1)))))⟩)))
   ·
    have hold:¬pM n (E.getD n []) i=true:=by unfold pM;rw[hEn, ←BQ];exact fun z=>h40 ((of_decide_eq_true z).imp (fun z=>by omega) (fun z=>z))
    have hD2:=hD.skip hI hold
    refine aE (bB (aj<|aM (ag rfl<|da rfl rfl (by omega) (by omega) rfl<|ax rfl<|aN<|aZ fun a w ha hw=>⟨(i+1,k,tr,po,co),⟨by dsimp only;omega,hD2,hm⟩,(by dsimp only;omega),ha.sub (.c4 rfl rfl rfl rfl .nil),(by exact dq (L1:=[_,_,_,_]) [0,1,2,3] rfl rfl _ hw)⟩)))
  ·
   have hie:i=Ms.getD n 0:=by omega
   subst hie
   refine bU (aH (aH (cB (bB (aj<|aM (ag rfl<|da rfl rfl (by omega) (by omega) rfl<|ax rfl<|aN<|aZ fun a w ha hw=>⟨(n+1,k,tr,po,co),⟨by dsimp only;omega,hD.next hI,hm⟩,(by dsimp only;omega),ha.sub (.cons rfl (.cons rfl (.cons rfl .nil))),hw⟩))))))
 ·
  have hne:n=Ms.length:=by omega
  subst hne
  have hkn:=hD.done hI
  subst hkn
  rw[eG]at hm
  rw[←N5 (E:=E)]at hm
  refine bU (aH (aH (cB (aj<|av<|au (ax rfl<|aq<|aD<|gw [0,2,3,1] rfl ?_)))))
  refine bS (α:=Nat×(List cH)) 3 (fun gx=>[(6,.int .i64 (gx.1:Nat))]) [(0,_),(3,_)] (fun gx=>[own 119 6 po co (gx.2.map e9),bV (gx.2.map ff),bV (gx.2.map ef)]) (fun gx=>gx.1≤tkm.length∧gx.2.map dG=EN E tkm gx.1 0∧gx.2.map gl=tr.map gl) (fun gx=>tkm.length-gx.1) (0,tr) (by exact⟨aY _,hm,rfl⟩) (.cons rfl (.cons rfl (.cons rfl .nil))) (fun _ h=>h) ?_
  rintro ⟨i,tu⟩ ⟨hi,hm,haR⟩
  show VC _ _ _ _ _ ([(6,.int .i64 (i:Nat))]++_) ([own 119 6 po co (tu.map e9),bV (tu.map ff),bV (tu.map ef)]++_) _ _
  dsimp only at hi hm haR
  have hul:tu.length=tkm.length:=by have z:=congrArg dv hm;rw[ak,BT]at z;exact z
  refine av<|au (ag rfl<|ag rfl<|ah (bE lR (.r rfl) rfl) rfl<|dK rfl<|aq<|ay rfl (fun h51=>?_) (fun h51=>?_))
  ·
   refine aE (aj<|av<|aD<|au (ax rfl<|aq<|aD ?_))
   refine bS (α:=Nat×(List cH)) 3 (fun gx=>[(7,.int .i64 (gx.1:Nat))]) [(0,_),(3,_),(6,_)] (fun gx=>[own 119 6 po co (gx.2.map e9),bV (gx.2.map ff),bV (gx.2.map ef)]) (fun gx=>gx.1≤tkm.length∧gx.2.map dG=EN E tkm i gx.1∧gx.2.map gl=tr.map gl) (fun gx=>tkm.length-gx.1) (0,tu) (by exact⟨aY _,hm,haR⟩) (.c4 rfl rfl rfl rfl .nil) (fun _ h=>h) ?_
   rintro ⟨k,tu⟩ ⟨hk,hm,haR⟩
   show VC _ _ _ _ _ ([(7,.int .i64 (k:Nat))]++_) ([own 119 6 po co (tu.map e9),bV (tu.map ff),bV (tu.map ef)]++_) _ _
   dsimp only at hk hm haR
   have hul:tu.length=tkm.length:=by have z:=congrArg dv hm;rw[ak,BT]at z;exact z
   refine av<|au (ag rfl<|ag rfl<|ah (bE lR (.r rfl) rfl) rfl<|dK rfl<|aq<|ay rfl (fun h57=>?_) (fun h57=>?_))
   ·
    have hiu:i<tu.length:=by omega
    have hku:k<tu.length:=by omega
    obtain⟨xi,hxi⟩:=du (l:=tu) (n:=i) hiu
    obtain⟨xk,hxk⟩:=du (l:=tu) (n:=k) hku
    obtain⟨s,hs,hxie,hxif,hxia⟩:=Od hm hxi
    obtain⟨t,ht,hxke,hxkf,hxka⟩:=Od hm hxk
    have hxim:=al hxi
    have hxkm:=al hxk
    obtain⟨s1,s2,s3⟩:=hI.pos (al hs)
    obtain⟨t1,t2,t3⟩:=hI.pos (al ht)
    have hpi:0<xi.ar.length∧xi.fr+xi.ar.length≤Ms.length:=by rw[hxia,hxif];exact⟨s1,s2⟩
    have hpk:0<xk.ar.length∧xk.fr<Ms.length:=by rw[hxka,hxkf];exact⟨t1,t3⟩
    obtain⟨ek,hek⟩:=du (l:=d.es) (n:=xk.fr) (by omega)
    obtain⟨y0,hy0⟩:=du (l:=xk.ar) (n:=0) (by omega)
    obtain⟨xl,hxl⟩:=du (l:=xi.ar) (n:=xi.ar.length-1) (by omega)
    have hEk:E.getD xk.fr []=ek.l.map dD:=by rw[←hE];exact zt hek
    have hlk:=Si hxif hxia hxkf hxka hy0 hxl hEk hpi.1
    obtain⟨hl1,hl2⟩:=OE hxie (by omega) (by omega)
    obtain⟨hl3,hl4⟩:=OE hxke (by omega) (by omega)
    refine aE (aj<|av<|aD<|av<|VC.O0 [⟨8,8,fun b=>.pointer (some ⟨b,0,none⟩),119,#[.int .i64 0,.int .i64 0,.slice none 0 0,.int .i64 0,.slice none 0 0,.slice none 0 0]⟩,⟨9,9,fun b=>.pointer (some ⟨b,0,none⟩),119,#[.int .i64 0,.int .i64 0,.slice none 0 0,.int .i64 0,.slice none 0 0,.slice none 0 0]⟩] [[0,1,2,3],[0,1,2,3],[0,1,2,3],[0,1,2,3],[0,1,2,3]] [some 2,some 2,some 2,some 2,some 3,some 3,some 3,some 3,none,none,none,none] mixed (by kernel_rfl) rfl (cT rfl<|cT rfl<|aG (fun _ hJ=>cy lR ov (fun _ hw=>(bL (hJ _ hw) 0 rfl).some (by rw[ak];omega)) (.r rfl) (.r rfl) rfl (by omega)) rfl<|aG (fun _ hJ=>aX (vs:=[_,_,_,_,_,_]) Ej (.r rfl) (fun w hw=>aA (off:=0) (cO (hJ _ hw) 0 rfl hxi) ⟨_,rfl⟩) rfl) rfl<|cT rfl<|cT rfl<|aG (fun _ hJ=>cy lR ov (fun _ hw=>(bL (hJ _ hw) 0 rfl).some (by rw[ak];omega)) (.r rfl) (.r rfl) rfl (by omega)) rfl<|aG (fun _ hJ=>aX (vs:=[_,_,_,_,_,_]) Ej (.r rfl) (fun w hw=>aA (off:=0) (cO (hJ _ hw) 0 rfl hxk) ⟨_,rfl⟩) rfl) rfl<|dC<|dC<|dC<|dC<|LX.nil) (⟨⟨rfl,_,rfl,FO.alloc Kt rfl⟩,⟨⟨rfl,_,rfl,FO.alloc Kt rfl⟩,trivial⟩⟩) (oI<|oI<|oI<|oI<|oI<|oI<|oI<|oI<|HY.f rfl fun b11=>⟨kJ (L1:=[_,_,_,_]) [1,2,3,4] rfl rfl rfl,HY.f rfl fun b12=>⟨kJ (L1:=[_,_,_,_]) [2,3,4,5] rfl rfl rfl,HY.h0 rfl fun X=>cq 1 (vs:=[_,_,_,_,_,_]) (C':=[_,_,_,_,_,_]) (L':=[_,_,_,_,_,_]++X) ov rfl rfl rfl rfl rfl rfl rfl rfl<|⟨[_,_,_,_,_,_],rfl,kJ (L1:=[_,_,_,_]) [2,3,4,5] rfl rfl rfl,HY.h0 rfl fun X=>cq 0 (vs:=[_,_,_,_,_,_]) (C':=[_,_,_,_,_,_]) (L':=[_,_,_,_,_,_]++X) ov rfl rfl rfl rfl rfl rfl rfl rfl<|⟨[_,_,_,_,_,_],rfl,kJ (L1:=[_,_,_,_]) [2,3,4,5] rfl rfl rfl,HY.nil ?_⟩⟩⟩⟩))
    refine aj<|av<|VC.T3 (φ:=jR xi.ap xi.ar.length∧jR xk.ap xk.ar.length) (fun w hw=>⟨(Zk hw 5 rfl hxim haR).sm,(Zk hw 5 rfl hxkm haR).sm⟩) fun hsm=>gj mixed (bl (aX (vs:=[_,_,_,_,_,_]) Ej (.r rfl) (aF 1 rfl ⟨_,rfl⟩) rfl) rfl<|bl (bK (xs:=[_]) (vs:=[_]) C77 ⟨(.r rfl),trivial⟩ (fun w2 hw=>Ws xi w2 (by omega) (by omega) (by omega))) rfl<|bl (LO.add (.r rfl) (.r rfl) (wi (by omega) (by omega))) rfl<|bl (aP (r:=1) sr (.r rfl) rfl) rfl<|bl (aC O3 (.r rfl) (aF 0 rfl ⟨_,rfl⟩)) rfl<|bl (ia (.r rfl) (.r rfl)) rfl<|eT rfl<|gm rfl (fun hg=>aP (r:=1) sr (.r rfl) rfl)<|gm rfl (fun hg=>aC O3 (.g hg rfl) (aF 0 rfl ⟨_,rfl⟩))<|gm rfl (fun hg=>LO.gt (.g hg rfl) (.r rfl))<|bl (e7 (.r rfl) rfl rfl (.r rfl)) rfl<|eT rfl<|gm rfl (fun hg=>aS (.r rfl))<|gm rfl (fun hg=>aP (r:=1) sr (.r rfl) rfl)<|gm rfl (fun hg=>aC O3 (.g hg rfl) (aF 0 rfl ⟨_,rfl⟩))<|gm rfl (fun hg=>aP (r:=2) mN (.r rfl) rfl)<|gm rfl (fun hg=>aC iL (.g hg rfl) (aF 0 rfl ⟨_,rfl⟩))<|gm rfl (fun hg=>bM fk N3 hsm.2 (.g hg rfl) (.r rfl) (j:=0) rfl (by omega))<|gm rfl (fun hg=>aC O3 (.g hg rfl) (fun w hw=>aA (off:=0) ((fun w3 h3=>cY (Zk h3 5 rfl hxkm haR) hy0) w hw) ⟨_,rfl⟩))<|gm rfl (fun hg=>bK (xs:=[_,_,_]) (vs:=[_,_,_]) C75 ⟨(.g hg rfl),(.g hg rfl),(.g hg rfl),trivial⟩ (fun w2 hw=>zC b h d xk.fr y0 w2 (hd.b0 w2 hw) ek hek (hB ek (al hek))))<|gm rfl (fun hg=>LO.fd1 (F:=_) jo rfl rfl iL (.g hg rfl) rfl)<|gm rfl (fun hg=>aP (r:=2) mN (.r rfl) rfl)<|gm rfl (fun hg=>aC iL (.g hg rfl) (aF 1 rfl ⟨_,rfl⟩))<|gm rfl (fun hg=>aP (r:=2) mN (.r rfl) rfl)<|gm rfl (fun hg=>aC iL (.g hg rfl) (aF 1 rfl ⟨_,rfl⟩))<|gm rfl (fun hg=>bE fk (.g hg rfl) rfl)<|gm rfl (fun hg=>LO.sub (.g hg rfl) (.r rfl) (wi (by omega) (by omega)))<|gm rfl (fun hg=>bM fk N3 hsm.1 (.g hg rfl) (.g hg rfl) (j:=xi.ar.length-1) (by omega) (by omega))<|gm rfl (fun hg=>aC O3 (.g hg rfl) (fun w hw=>aA (off:=0) ((fun w3 h3=>cY (Zk h3 5 rfl hxim haR) hxl) w hw) ⟨_,rfl⟩))<|gm rfl (fun hg=>bK (xs:=[_,_]) (vs:=[_,_]) C78 ⟨(.g hg rfl),(.g hg rfl),trivial⟩ (fun w2 hw=>E9 (qt ek.l y0).f (qt ek.l y0).fp (qt ek.l y0).fc xl w2 (C0 (hd.b0 w2 hw) (Sp hek)).1 (Om (hB ek (al hek)))))<|bl (e7 (.r rfl) rfl rfl (.r rfl)) rfl<|LL.nil) (by kernel_rfl)<|aj<|ay rfl (fun h98=>?_) (fun h98=>?_)
    ·
     have hlt:me E s t=true:=by rw[hlk];exact decide_eq_true ⟨by omega,by omega,h98.2⟩
     have hik:i≠k:=fun z=>by have:=FV hI hs ht hlt;omega
     refine av<|iv (L':=ef xi::bV ((tu.eraseIdx i).map ef)::[_,_,_,_,_]) (fun w hw=>St.rh (f:=ef) (dq [4,0,1,2,3,5] rfl rfl w hw) hxi) ?_
     show VC _ _ _ _ _ _ (own 3 1 xi.cp xi.cc (xi.ch.map nC)::_) _ _
     refine aM (ag rfl<|ag rfl<|ag rfl<|ag rfl<|ah (cy lR ov (fun _ hw=>(bL hw 4 rfl).some (by rw[ak];omega)) (.r rfl) (.r rfl) rfl (by omega)) rfl<|bO zB rfl<|ah (aC iL (.r rfl) (fun w hw=>aA (off:=5) (cO hw 4 rfl hxi) ⟨_,rfl⟩)) rfl<|ag rfl<|aB rfl<|eW (ps:=[(_,_)]) (vs:=[(_,_)]) (Z:=[_]) (C:=[_]) fk Z3 N3 ⟨(.r rfl),trivial⟩ rfl rfl rfl rfl ⟨_,[_],[_],rfl,rfl,rfl,rfl,rfl⟩ fun b16=>aB rfl<|eP (k) 1 0 (fun R=>[_,R,_,_,_,_,_,_]) fk fk I3 (.r rfl) (.r rfl) rfl rfl rfl rfl rfl rfl rfl (fun _=>rfl) rfl (by omega) fun p9 c9=>ah (cy lR ov (fun _ hw=>(bL hw 5 rfl).some (by rw[ak];omega)) (.r rfl) (.r rfl) rfl (by omega)) rfl<|bO zB rfl<|cu<|HO.Qv 5 (fun R=>[_,_,_,_,_,R,_,_]) (o:=5) (vs:=[_]) qL (.r rfl) (.r rfl) rfl (oZ hxi) rfl rfl (bz rfl) rfl (fun _=>rfl)<|aN ?_)
     rw[Ir]
     refine aj<|iv (L':=bV ((tu.set i { xi with cp:=p9,cc:=c9,ch:=xi.ch++[k] }).map ef)::[_,_,_,_,_,_]) (fun w hw=>St.nK (f:=ef) (a:={ xi with cp:=p9,cc:=c9,ch:=xi.ch++[k] }) (i:=i) (dq (L1:=ef { xi with cp:=p9,cc:=c9,ch:=xi.ch++[k] }::[_,_,_,_,_,_,_]) [1,2,0,3,4,5,6,7] rfl rfl w hw) hiu) ?_
     obtain⟨tv,htv⟩:∃x,x=tu.set i { xi with cp:=p9,cc:=c9,ch:=xi.ch++[k] }:=⟨_,rfl⟩
     rw[←htv]
     have hpv:tv.map ff=tu.map ff:=by rw[htv];exact iK (g:=ff) (t':={ xi with cp:=p9,cc:=c9,ch:=xi.ch++[k] }) hxi rfl
     have hav:tv.map gl=tr.map gl:=by rw[htv];exact(iK (t':={ xi with cp:=p9,cc:=c9,ch:=xi.ch++[k] }) hxi rfl).trans haR
     have hvl:tv.length=tu.length:=by rw[htv,List.length_set]
     have hxk2:tv[k]? =some xk:=by rw[htv,eQ,if_neg hik];exact hxk
     have hvm:tv.map dG=(EN E tkm i k).set i { CZ E tkm i k i s with ch:=(CZ E tkm i k i s).ch++[k] }:=by rw[htv,iS,hm, ←hxie];rfl
     rw[←hpv]
     refine iv (L':=ff xk::bV ((tv.eraseIdx k).map ff)::[_,_,_,_,_,_]) (fun w hw=>St.rh (f:=ff) (dq [5,0,1,2,3,4,6] rfl rfl w hw) hxk2) ?_
     show VC _ _ _ _ _ _ (own 3 1 xk.pp xk.pc (xk.pa.map nC)::_) _ _
     refine aM (ag rfl<|ag rfl<|ag rfl<|ag rfl<|ah (cy lR ov (fun _ hw=>(bL hw 6 rfl).some (by rw[ak];omega)) (.r rfl) (.r rfl) rfl (by omega)) rfl<|bO Ct rfl<|ah (aC iL (.r rfl) (fun w hw=>aA (off:=4) (cO hw 6 rfl hxk2) ⟨_,rfl⟩)) rfl<|ag rfl<|aB rfl<|eW (ps:=[(_,_)]) (vs:=[(_,_)]) (Z:=[_]) (C:=[_]) fk Z3 N3 ⟨(.r rfl),trivial⟩ rfl rfl rfl rfl ⟨_,[_],[_],rfl,rfl,rfl,rfl,rfl⟩ fun b18=>aB rfl<|eP (i) 1 0 (fun R=>[_,R,_,_,_,_,_,_,_]) fk fk I3 (.r rfl) (.r rfl) rfl rfl rfl rfl rfl rfl rfl (fun _=>rfl) rfl (by omega) fun p9 c9=>ah (cy lR ov (fun _ hw=>(bL hw 7 rfl).some (by rw[ak];omega)) (.r rfl) (.r rfl) rfl (by omega)) rfl<|bO Ct rfl<|cu<|HO.Qv 7 (fun R=>[_,_,_,_,_,_,_,R,_]) (o:=4) (vs:=[_]) qL (.r rfl) (.r rfl) rfl (oZ hxk2) rfl rfl (bz rfl) rfl (fun _=>rfl)<|aN ?_)
     rw[Rm]
     refine bB (aj<|aM (ag rfl<|da rfl rfl (by omega) (by omega) rfl<|ax rfl<|aN<|aZ fun a w ha hw=>⟨(k+1,tv.set k { xk with pp:=p9,pc:=c9,pa:=xk.pa++[i] }),⟨by dsimp only;omega,by dsimp only;rw[iS,hvm, ←Sk hs ht hik hlt, ←hxke];rfl,(iK (t':={ xk with pp:=p9,pc:=c9,pa:=xk.pa++[i] }) hxk2 rfl).trans hav⟩,(by dsimp only;omega),ha.sub (.c4 rfl rfl rfl rfl .nil),(by dsimp only;rw[show(tv.set k { xk with pp:=p9,pc:=c9,pa:=xk.pa++[i] }).map ef=tv.map ef from iK hxk2 rfl];exact dq (L1:=[_,_,_,_]) [1,0,2,3] rfl rfl _ (St.nK (f:=ff) (a:={ xk with pp:=p9,pc:=c9,pa:=xk.pa++[i] }) (i:=k) (dq (L1:=ff ({ xk with pp:=p9,pc:=c9,pa:=xk.pa++[i] })::[_,_,_,_]) [1,2,7,3,8] rfl rfl _ hw) (by rw[hvl];exact hku)))⟩))
    ·
     have hlt:¬me E s t=true:=by rw[hlk];exact fun z=>h98 (by have y:=of_decide_eq_true z;exact⟨⟨by omega,by omega⟩,y.2.2⟩)
     refine aE (bB (aj<|aM (ag rfl<|da rfl rfl (by omega) (by omega) rfl<|ax rfl<|aN<|aZ fun a w ha hw=>⟨(k+1,tu),⟨by dsimp only;omega,by dsimp only;rw[Wy hs ht hlt];exact hm,haR⟩,(by dsimp only;omega),ha.sub (.c4 rfl rfl rfl rfl .nil),(by exact dq (L1:=[_,_,_,_]) [2,3,4,5] rfl rfl _ hw)⟩)))
   ·
    have hke:k=tkm.length:=by omega
    subst hke
    rw[Rr]at hm
    refine bU (aH (aH (cB (bB (aj<|aM (ag rfl<|da rfl rfl (by omega) (by omega) rfl<|ax rfl<|aN<|aZ fun a w ha hw=>⟨(i+1,tu),⟨by dsimp only;omega,hm,haR⟩,(by dsimp only;omega),ha.sub (.cons rfl (.cons rfl (.cons rfl .nil))),hw⟩))))))
  ·
   have hie:i=tkm.length:=by omega
   subst hie
   rw[Ps hI]at hm
   refine bU (aH (aH (cB (aj<|au (ag rfl<|ax rfl<|aq<|be (dP rfl rfl (fun w hw=>?_)))))))
   have hul2:tu.length=tr.length:=by have z:=congrArg dv haR;simpa using z
   rw[←haR]at hw
   refine⟨⟨tu,po,co⟩,hm,by rw[←hul2];rfl,dq [0,3,1,2] rfl rfl _ hw⟩
theorem TA:fh af 38:=⟨_,Tryz.func38,by decide,rfl⟩
structure FB (E:List (List gF)) (Ms:List Nat) (tkm:List fo) (of:Nat×Nat→Option Nat) (d:o8):Prop where
 I:iF E Ms tkm of
 ev:d.es.map qv.m=E
 B:∀y,y∈d.es→KL y
 ms:Ms.length≤1000
 A:ArN d Ms
 len:tkm.length≤30000
 G:re E Ms
 ti:d.ti.length=Ms.length
 mb:∀n,n∈Ms→n≤4096
theorem mI {E:List (List gF)} {Ms:List Nat} {tkm:List fo} {of:Nat×Nat→Option Nat} {d:o8} (hP:FB E Ms tkm of d) (b:Nat) (h:jk) (w:World) (hd:u0 w b h d):
  Calls af 38 #[.pointer (some ⟨b,0,none⟩)] w fun e w'=>∃y:F4,y.tk.map dG=tkm∧e= .returned (.slice y.p y.tk.length y.c)∧St (bs w) (y.DR) w':=
 Kl b h d E Ms tkm of hP.I hP.ev hP.B hP.ms hP.A hP.len hP.G w hd
def Yf (t:fo) (n m:Int):Prop:=(t.fr:Int)≤n∧n-t.fr<t.ar.length∧((t.ar.getD (n-t.fr).toNat 0:Nat):Int)=m
theorem YW {l:List Nat} {n:Nat} (h:n<l.length):l[n]? =some (l.getD n 0):=by rw[aO,aw h];rfl
theorem YP {E:List (List gF)} {Ms:List Nat} {tkm:List fo} {of:Nat×Nat→Option Nat} (hI:iF E Ms tkm of) {k:Nat} {t:fo} (ht:tkm[k]? =some t) {n m:Int} (h:Yf t n m):qK of (n,m)=some k:=by
 obtain⟨h1,h2,h3⟩:=h
 obtain⟨j,hj⟩:∃j:Nat,n=((t.fr+j:Nat):Int):=⟨(n-t.fr).toNat,by omega⟩
 have e:(n-t.fr).toNat=j:=by omega
 rw[e]at h3
 have:=(hI.at_ ht (YW (n:=j) (by omega))).1
 subst h3;subst hj
 rw[va];exact this
theorem U1 {E:List (List gF)} {Ms:List Nat} {tkm:List fo} {of:Nat×Nat→Option Nat} (hI:iF E Ms tkm of) {n m:Int} (h:∀(k:Nat) (t:fo),tkm[k]? =some t→¬Yf t n m):qK of (n,m)=none:=by
 cases e:qK of (n,m) with
 |none=>rfl
 |some k=>
  exfalso
  obtain⟨x,y,e1,e2⟩:=DU e
  cases e1
  obtain⟨t,ht,h1,h2⟩:=(hI.q.base.ES x y k).1 e2
  have h3:=(an.1 h2).1
  refine h k t ht ⟨by omega,by omega,?_⟩
  rw[show((x:Int)-t.fr).toNat=x-t.fr by omega,aO,h2];rfl
theorem acw (n:Int) (f:Nat) (hf:f≤1000000) (h1: -9223372036854775808≤n) (h2:n≤9223372036854775807):∃r,qR .i64 (n-(f:Int))=r∧(-9223372036854775808≤n-f→r=n-f)∧(n-f< -9223372036854775808→9000000000000000000≤r):=by
 by_cases q: -9223372036854775808≤n-(f:Int)
 ·exact⟨_,wi q (by omega),fun _=>rfl,fun z=>by omega⟩
 ·refine⟨n-f+18446744073709551616,?_,fun z=>by omega,fun _=>by omega⟩
  have e:qR .i64 (n-(f:Int))=qR .i64 (n-f+18446744073709551616):=by
   simp only[qR,show IntKind.i64.bits=64 from rfl]
   rw[show(n-(f:Int)+18446744073709551616)%2 ^ 64=(n-f)%2 ^ 64 by omega]
  rw[e];exact wi (by omega) (by omega)
theorem RP {t:fo} {n m r:Int} (hf:t.fr≤1000000) (hl:t.ar.length≤1000000) (h1: -9223372036854775808≤n-t.fr→r=n-t.fr) (h2:n-t.fr< -9223372036854775808→9000000000000000000≤r):Yf t n m↔(0≤r∧r<t.ar.length)∧((t.ar.getD r.toNat 0:Nat):Int)=m:=by
 unfold Yf
 by_cases q: -9223372036854775808≤n-(t.fr:Int)
 ·have e:=h1 q
  subst e
  constructor
  ·rintro ⟨a,b,c⟩;exact⟨⟨by omega,b⟩,c⟩
  ·rintro ⟨⟨a,b⟩,c⟩;exact⟨by omega,b,c⟩
 ·have e:=h2 (by omega)
  constructor
  ·rintro ⟨a,b,c⟩;omega
  ·rintro ⟨⟨a,b⟩,c⟩;omega
theorem VP {β:Bs} {L:List dg} {w:World} (hw:St β L w) (i:Nat) {tr:List cH} (hi:L[i]? =some (bV (tr.map gl))) {x:cH} (hx:x∈tr):RO 1 nC w x.ap x.ar:=Zk hw i hi hx rfl
theorem Zi (b:Nat) (h:jk) (d:o8) (E:List (List gF)) (Ms:List Nat) (tkm:List fo) (of:Nat×Nat→Option Nat) (hP:FB E Ms tkm of d) (nn mm:Int) (hr: -9223372036854775808≤nn∧nn≤9223372036854775807) (w:World) (hd:u0 w b h d):
 Calls af 13 #[.pointer (some ⟨b,0,none⟩),.int .i64 nn,.int .i64 mm] w fun e w'=>e= .returned (.tuple #[.int .i64 (((qK of (nn,mm)).getD 0:Nat):Int),.int .i64 (if(qK of (nn,mm)).isSome=true then 0 else 4)])∧St (bs w) [] w':=by
 refine enter (vs:=[_,_,_]) (env:=[(0,_),(1,_),(2,_)]) Tryz.func13 rfl rfl rfl rfl ?_
 refine au (ax rfl<|ax rfl<|aq<|au (ag rfl<|aB rfl<|cd (xs:=[_]) (vs:=[_]) TA ⟨(.r rfl),trivial⟩ (fun w2 hw=>mI hP b h w2 (hd.b0 w2 hw)) fun y hy=>aB rfl<|aW (LO.as (.r rfl))<|aN ?_))
 have hyl:y.tk.length=tkm.length:=by have z:=congrArg dv hy;rw[ak]at z;exact z
 have hylen:=hP.len
 refine aj<|av<|au (ax rfl<|aq<|aD<|bS (α:=Nat) 0 (fun gx=>[(9,.int .i64 (gx:Nat))]) [(1,_),(2,_),(8,_)] (fun gx=>[]) (fun gx=>gx≤y.tk.length∧∀(p:Nat) (t:fo),p<gx→tkm[p]? =some t→¬Yf t nn mm) (fun gx=>y.tk.length-gx) 0 (by exact⟨aY _,fun p t hp=>absurd hp (cQ _)⟩) (.c4 rfl rfl rfl rfl .nil) (fun _ h=>h) ?_)
 rintro i ⟨hi,hno⟩
 refine av<|au (ag rfl<|ag rfl<|ah (bE lR (.r rfl) rfl) rfl<|dK rfl<|aq<|ay rfl (fun h16=>?_) (fun h16=>?_))
 ·
  obtain⟨xi,hxi⟩:=du (l:=y.tk) (n:=i) (by omega)
  have hxm:=al hxi
  have hti:tkm[i]? =some xi.m:=by rw[←hy,aI,hxi];rfl
  obtain⟨p1,p2,p3⟩:=hP.I.pos (al hti)
  have hpm:=hP.ms
  have p4:xi.fr+xi.ar.length≤Ms.length:=p2
  obtain⟨kw,hkw,hk1,hk2⟩:=acw nn xi.fr (by omega) hr.1 hr.2
  have hin:=RP (t:=xi.m) (m:=mm) (r:=kw) (by show xi.fr≤_;omega) (by show xi.ar.length≤_;omega) hk1 hk2
  refine aE (aj<|av<|aD<|au (ag rfl<|ag rfl<|ag rfl<|ah (cy lR ov (fun _ hw=>(bL hw 0 rfl).some (by rw[ak])) (.r rfl) (.r rfl) rfl (by omega)) rfl<|bO sr rfl<|ah (aC O3 (.r rfl) (fun w hw=>aA (off:=1) (cO hw 0 rfl hxi) ⟨_,rfl⟩)) rfl<|ah (LO.sub (.r rfl) (.r rfl) hkw) rfl<|ax rfl<|aq<|av ?_))
  refine VC.T3 (φ:=jR xi.ap xi.ar.length) (fun w hw=>(VP hw 1 rfl hxm).sm) fun hsm=>aM (ag rfl<|ah (LO.ge (.r rfl) (.r rfl)) rfl<|ag rfl<|bh rfl (fun hg=>aS (.r rfl))<|bh rfl (fun hg=>aS (.r rfl))<|bh rfl (fun hg=>aS (.r rfl))<|bh rfl (fun hg=>cy lR ov (fun _ hw=>(bL hw 0 rfl).some (by rw[ak])) (.g hg rfl) (.g hg rfl) rfl (by omega))<|bh rfl (fun hg=>aP mN (.g hg rfl) rfl)<|bh rfl (fun hg=>aC iL (.g hg rfl) (fun w hw=>aA (off:=2) (cO hw 0 rfl hxi) ⟨_,rfl⟩))<|bh rfl (fun hg=>bE fk (.g hg rfl) rfl)<|bh rfl (fun hg=>LO.lt (.g hg rfl) (.g hg rfl))<|ah (e7 (.r rfl) rfl rfl (.r rfl)) rfl<|ag rfl<|bh rfl (fun hg=>aS (.r rfl))<|bh rfl (fun hg=>aS (.r rfl))<|bh rfl (fun hg=>cy lR ov (fun _ hw=>(bL hw 0 rfl).some (by rw[ak])) (.g hg rfl) (.g hg rfl) rfl (by omega))<|bh rfl (fun hg=>aP mN (.g hg rfl) rfl)<|bh rfl (fun hg=>aC iL (.g hg rfl) (fun w hw=>aA (off:=2) (cO hw 0 rfl hxi) ⟨_,rfl⟩))<|bh rfl (fun hg=>aS (.r rfl))<|bh rfl (fun hg=>bM fk N3 hsm (.g hg rfl) (.g hg rfl) (j:=kw.toNat) (by simp at hg;omega) (by simp at hg;omega))<|bh rfl (fun hg=>aC O3 (.g hg rfl) (fun w hw=>aA (off:=0) ((fun w3 h3=>cY (VP h3 1 rfl hxm) (YW (n:=kw.toNat) (by simp at hg;omega))) w hw) ⟨_,rfl⟩))<|bh rfl (fun hg=>aS (.r rfl))<|bh rfl (fun hg=>ia (.g hg rfl) (.g hg rfl))<|ah (e7 (.r rfl) rfl rfl (.r rfl)) rfl<|aq<|ay rfl (fun h49=>?_) (fun h49=>?_))
  ·
   refine au (ag rfl<|ax rfl<|ax rfl<|aq<|be (dA (bA (bA (dA (bA (dh (vs:=[_,_]) rfl ⟨rfl,rfl,trivial⟩ (fun w hw=>?_))))))))
   rw[YP hP.I hti (hin.2 h49)]
   exact⟨rfl,hw.nil⟩
  ·
   refine aE (bB (aj<|aM (ag rfl<|da rfl rfl (by omega) (by omega) rfl<|ax rfl<|aN<|aZ fun a w ha hw=>⟨i+1,⟨by omega,fun p t hp ht=>by rcases cZ.1 hp with z|z;exact hno p t z ht;subst z;rw[hti]at ht;have:=eI ht;subst this;exact fun z=>h49 (hin.1 z)⟩,(by omega),ha.sub (.c4 rfl rfl rfl rfl .nil),hw⟩)))
 ·
  refine bU (aH (aH (cB (aj<|au (ax rfl<|ax rfl<|aq<|be (dh (vs:=[_,_]) rfl ⟨rfl,rfl,trivial⟩ (fun w hw=>?_)))))))
  rw[U1 hP.I (fun k t ht=>hno k t (by have:=(an.1 ht).1;omega) ht)]
  exact⟨rfl,hw.nil⟩
theorem Wm:dr af 107 (.agg #[.int .i64 0,.int .i64 0,.int .i64 0,.int .i64 0,.int .i64 0,.int .i64 0,.int .i64 0,.int .i64 0,.int .i64 0]):=by unfold dr;kernel_rfl
theorem uM:cP af 89 3 7:=⟨_,_,kY,rfl,rfl,0,by kernel_rfl⟩
theorem abf:fU af 107 [(0,1),(1,1),(2,1),(3,1),(4,1),(5,1),(6,1),(7,1),(8,1)] [.int .i64 0,.int .i64 0,.int .i64 0,.int .i64 0,.int .i64 0,.int .i64 0,.int .i64 0,.int .i64 0,.int .i64 0]:=fU.mk fun _=>by kernel_rfl
theorem WQ:(af.info? 107).map (·.size)=some 9:=by kernel_rfl
theorem F3:cP af 107 1 1:=⟨_,_,gL,rfl,rfl,0,by kernel_rfl⟩
theorem F6:cP af 107 3 3:=⟨_,_,gL,rfl,rfl,0,by kernel_rfl⟩
theorem Ft:cP af 107 4 4:=⟨_,_,gL,rfl,rfl,0,by kernel_rfl⟩
theorem E5:cP af 107 5 5:=⟨_,_,gL,rfl,rfl,0,by kernel_rfl⟩
theorem FQ:cP af 107 6 6:=⟨_,_,gL,rfl,rfl,0,by kernel_rfl⟩
theorem Fq:cP af 107 7 7:=⟨_,_,gL,rfl,rfl,0,by kernel_rfl⟩
theorem Fh:cP af 107 8 8:=⟨_,_,gL,rfl,rfl,0,by kernel_rfl⟩
theorem Yt:lh af 107 9:=⟨⟨_,gL,rfl⟩,by kernel_rfl⟩
def cK (l:List gF) (j:Int):Int:=((l.filter fun e=>decide (e.kd=j)).length:Int)
theorem Kh {l:List gF} {e:gF} {j:Int} (h:e.kd=j):cK (l++[e]) j=cK l j+1:=by
 unfold cK;rw[dI,aJ];simp [h]
theorem lS {l:List gF} {e:gF} {j:Int} (h:¬e.kd=j):cK (l++[e]) j=cK l j:=by
 unfold cK;rw[dI,aJ];simp [h]
theorem rV {l:List gF} {j:Int}:0≤cK l j∧cK l j≤l.length:=⟨fW _,by unfold cK;exact Int.ofNat_le.2 (cE _ _)⟩
theorem YT {E:List (List gF)} (h:∀l,l∈E→l.length≤1000000) (n:Nat):(E.take n).flatten.length≤n*1000000:=by
 induction n generalizing E with
 |zero=>simp
 |succ n ih=>
  cases E with
  |nil=>simp
  |cons a E=>
   rw[mC,List.flatten_cons,aJ]
   have h1:=ih (E:=E) (fun l hl=>h l (iP _ hl))
   have h2:=h a jl
   omega
theorem Rt {Ms:List Nat} (h:∀m,m∈Ms→m≤4096) (n:Nat):(Ms.take n).sum≤n*4096:=by
 induction n generalizing Ms with
 |zero=>simp
 |succ n ih=>
  cases Ms with
  |nil=>simp
  |cons a Ms=>
   rw[mC,List.sum_cons]
   have h1:=ih (Ms:=Ms) (fun l hl=>h l (iP _ hl))
   have h2:=h a jl
   omega
theorem RU {E:List (List gF)} {n:Nat} {l:List gF} (h:E[n]? =some l):(E.take (n+1)).flatten=(E.take n).flatten++l:=by
 obtain⟨hk,e⟩:=an.1 h
 rw[bX hk,e,List.flatten_append];simp
theorem NZ {Ms:List Nat} {n:Nat} (h:n<Ms.length):(Ms.take (n+1)).sum=(Ms.take n).sum+Ms.getD n 0:=by
 rw[bX h,List.sum_append,aO,aw h];simp
theorem uf {y:qv} {i:Nat} {e:db} (h:y.l[i]? =some e):(y.l.map dD).take (i+1)=(y.l.map dD).take i++[e.m]:=by
 have h2:(y.l.map dD)[i]? =some e.m:=by rw[aI,h];rfl
 obtain⟨hk,e2⟩:=an.1 h2
 rw[bX hk,e2]
abbrev J6 (a b c:Nat) (l:List gF):Array Value:=#[.int .i64 (a:Int),.int .i64 (b:Int),.int .i64 (c:Int),.int .i64 (cK l 2),.int .i64 (cK l 3),.int .i64 (cK l 4),.int .i64 (cK l 5),.int .i64 (cK l 6),.int .i64 (cK l 7)]
theorem NU (b:Nat) (h:jk) (d:o8) (E:List (List gF)) (Ms:List Nat) (tkm:List fo) (of:Nat×Nat→Option Nat) (hP:FB E Ms tkm of d) (w:World) (hd:u0 w b h d):
 Calls af 39 #[.pointer (some ⟨b,0,none⟩)] w fun e w'=>e= .returned (.agg (J6 Ms.length Ms.sum tkm.length E.flatten))∧St (bs w) [] w':=by
 have hEl:d.es.length=Ms.length:=by have:=hP.I.q.len;rw[←hP.ev,ak]at this;exact this
 have hdl:=hP.A.n
 have hpm:=hP.ms
 have hti:=hP.ti
 have hlenm:=hP.len
 have hEb:∀l,l∈E→l.length≤1000000:=fun l hl=>by rw[←hP.ev]at hl;obtain⟨y,hy,rfl⟩:=bN.1 hl;show(y.l.map dD).length≤_;rw[ak];exact(hP.B y hy).n
 refine enter (vs:=[_]) (env:=[(0,_)]) Tryz.func39 rfl rfl rfl rfl ?_
 refine au (aB rfl<|cJ (C:=#[_,_,_,_,_,_,_,_,_]) Wm rfl fun b1=>aq<|av<|VC.O0 [⟨9,3,fun b=>.pointer (some ⟨b,0,none⟩),107,#[.int .i64 0,.int .i64 0,.int .i64 0,.int .i64 0,.int .i64 0,.int .i64 0,.int .i64 0,.int .i64 0,.int .i64 0]⟩] [[0],[0],[0],[0],[0],[0]] [some 4,some 4,some 4,some 4,some 4,some 4,none,none,none,none,none] mixed (by kernel_rfl) rfl (cT rfl<|aG (fun _ hJ=>cV (.r rfl)) rfl<|aG (fun _ hJ=>aP (r:=7) uM (.r rfl) rfl) rfl<|aG (fun _ hJ=>aC iL (.r rfl) (bj (bI (off:=7) hd.c ⟨_,rfl⟩))) rfl<|aG (fun _ hJ=>bE fk (.r rfl) rfl) rfl<|cT rfl<|dC<|dC<|dC<|dC<|dC<|LX.nil) (⟨⟨rfl,_,rfl,FO.alloc Wm rfl⟩,trivial⟩) (oI<|oI<|oI<|oI<|oI<|oI<|HY.h rfl rfl fun X=>cd (xs:=[_]) (vs:=[_]) TA ⟨(.r rfl),trivial⟩ (fun w2 hw=>mI hP b h w2 (hd.b0 w2 hw)) fun y hy=>⟨[_,_,_,_,_],rfl,kJ (L1:=[_]) [4] rfl rfl rfl,HY.h rfl rfl fun X=>aW (bE lR (.r rfl) rfl)<|⟨[_,_,_,_,_],rfl,kJ (L1:=[_]) [4] rfl rfl rfl,HY.h rfl rfl fun X=>aW (fA (ps:=[(_,_),(_,_)]) (vs:=[(_,_),(_,_)]) (C:=[_,_,_,_,_,_,_,_,_]) abf ⟨(.r rfl),(.r rfl),trivial⟩ rfl ⟨_,[_],[_,_,_,_,_,_,_,_,_],rfl,rfl,rfl,rfl,⟨_,[_],[_,_,_,_,_,_,_,_,_],rfl,rfl,rfl,rfl,rfl⟩⟩)<|⟨[_,_,_,_,_],rfl,kJ (L1:=[_]) [4] rfl rfl rfl,HY.f rfl fun b12=>⟨kJ (L1:=[_]) [5] rfl rfl rfl,HY.h0 rfl fun X=>cq 0 (vs:=[_,_,_,_,_,_,_,_,_]) (C':=[_,_,_,_,_,_,_,_,_]) (L':=[_,_,_,_,_,_]++X) WQ rfl rfl rfl rfl rfl rfl rfl rfl<|⟨[_,_,_,_,_,_],rfl,kJ (L1:=[_]) [5] rfl rfl rfl,HY.nil ?_⟩⟩⟩⟩⟩))
 have hyl:y.tk.length=tkm.length:=by have z:=congrArg dv hy;rw[ak]at z;exact z
 have hylen:=hP.len
 refine aj<|av<|au (ax rfl<|aq<|aD<|bS (α:=Nat×(List gF)) 1 (fun gx=>[(4,.int .i64 (gx.1:Nat))]) [(0,_),(2,_),(3,_)] (fun gx=>[gq b12 (.cells (J6 d.ti.length (Ms.take gx.1).sum y.tk.length gx.2) 107)]) (fun gx=>gx.1≤Ms.length∧gx.2=(E.take gx.1).flatten) (fun gx=>Ms.length-gx.1) (0,[]) (by exact⟨aY _,rfl⟩) (.c4 rfl rfl rfl rfl .nil) (fun _ h=>h) ?_)
 rintro ⟨n,L⟩ ⟨hn,hL⟩
 show VC _ _ _ _ _ ([(4,.int .i64 (n:Nat))]++_) ([gq b12 (.cells (J6 d.ti.length (Ms.take n).sum y.tk.length L) 107)]++_) _ _
 dsimp only at hn hL
 refine av<|au (ag rfl<|ag rfl<|ah (cV (.r rfl)) rfl<|bO (r:=8) sn rfl<|ah (aC R7 (.r rfl) (bj (bI (off:=8) hd.c ⟨_,rfl⟩))) rfl<|ah (bE K3 (.r rfl) rfl) rfl<|dK rfl<|aq<|ay rfl (fun h21=>?_) (fun h21=>?_))
 ·
  obtain⟨ya,hny⟩:=du (l:=d.ds) (n:=n) (by omega)
  obtain⟨ey,hey⟩:=du (l:=d.es) (n:=n) (by omega)
  have heym:=al hey
  have hyl2:=hP.A.m n ya hny
  have hyb:=hP.A.b n ya hny
  have hyn:=(hP.B ey heym).n
  have hEn:E[n]? =some (ey.l.map dD):=by rw[←hP.ev,aI,hey];rfl
  have hsm2:=Rt hP.mb n
  have hfl:=YT hEb n
  refine aE (aj<|av<|aD<|av<|VC.iI [[0,1,2,3,4,5],[1,2,3,4,5]] [some 0,some 0,some 0,some 0,some 0,some 0,some 0,some 0,some 0,some 0,some 0,some 0,none] mixed (by kernel_rfl) rfl (aG (fun _ hJ=>aP (r:=1) F3 (.r rfl) rfl) rfl<|aG (fun _ hJ=>aC O3 (.r rfl) (fun _ hw=>cN (hJ _ hw) 0 rfl ⟨_,rfl⟩)) rfl<|cT rfl<|aG (fun _ hJ=>cV (.r rfl)) rfl<|aG (fun _ hJ=>aP (r:=8) sn (.r rfl) rfl) rfl<|aG (fun _ hJ=>aC R7 (.r rfl) (bj (bI (off:=8) hd.c ⟨_,rfl⟩))) rfl<|cT rfl<|aG (fun _ hJ=>bM K3 F8 hd.ds.sm (.r rfl) (.r rfl) rfl (by omega)) rfl<|aG (fun _ hJ=>aC OB (.r rfl) (fun w hw=>aA (off:=0) ((fun w3 h3=>cY (hd.b0 w3 h3).ds hny) w (hJ _ hw)) ⟨_,rfl⟩)) rfl<|aG (fun _ hJ=>bE yE (.r rfl) rfl) rfl<|aG (fun _ hJ=>LO.add (.r rfl) (.r rfl) (wi (by omega) (by omega))) rfl<|aG (fun _ hJ=>aP (r:=1) F3 (.r rfl) rfl) rfl<|dC<|LX.nil) (az<|az<|az<|az<|az<|az<|az<|az<|az<|az<|az<|az<|HX.h0<|cq 0 (vs:=[_]) (C':=[_,_,_,_,_,_,_,_,_]) (L':=[_,_,_,_,_,_]) N3 rfl rfl rfl rfl rfl rfl rfl rfl<|⟨fun _ hw=>hw.gY [1,2,3,4,5] rfl,HX.nil ?_⟩))
  refine aj<|au (ax rfl<|aq<|aD ?_)
  rw[show((((Ms.take n).sum:Nat):Int)+((ya.l.length:Nat):Int))=(((Ms.take (n+1)).sum:Nat):Int) by rw[NZ (by omega),hyl2];push_cast;rfl]
  refine bS (α:=Nat×(List gF)) 1 (fun gx=>[(5,.int .i64 (gx.1:Nat))]) [(0,_),(2,_),(3,_),(4,_)] (fun gx=>[gq b12 (.cells (J6 d.ti.length (Ms.take (n+1)).sum y.tk.length gx.2) 107)]) (fun gx=>gx.1≤ey.l.length∧gx.2=L++(ey.l.map dD).take gx.1) (fun gx=>ey.l.length-gx.1) (0,L) (by exact⟨aY _,by simp⟩) (.c4 rfl rfl rfl rfl (.cons rfl .nil)) (fun _ h=>h) ?_
  rintro ⟨i,l⟩ ⟨hi,hl⟩
  show VC _ _ _ _ _ ([(5,.int .i64 (i:Nat))]++_) ([gq b12 (.cells (J6 d.ti.length (Ms.take (n+1)).sum y.tk.length l) 107)]++_) _ _
  dsimp only at hi hl
  refine av<|au (ag rfl<|ag rfl<|ah (cV (.r rfl)) rfl<|bO (r:=9) sk rfl<|ah (aC SF (.r rfl) (bj (bI (off:=9) hd.c ⟨_,rfl⟩))) rfl<|ag rfl<|ah (bM J1 Ug hd.es.sm (.r rfl) (.r rfl) rfl (by omega)) rfl<|ah (aC XH (.r rfl) (fun w hw=>aA (off:=0) ((fun w3 h3=>cY (hd.b0 w3 h3).es hey) w hw) ⟨_,rfl⟩)) rfl<|ah (bE FD (.r rfl) rfl) rfl<|dK rfl<|aq<|ay rfl (fun h45=>?_) (fun h45=>?_))
  ·
   obtain⟨e,hei⟩:=du (l:=ey.l) (n:=i) (by omega)
   have hll:l.length≤(E.take n).flatten.length+i:=by rw[hl,hL,aJ,eU];omega
   refine aE (aj<|av<|aD<|au (ag rfl<|ah (cV (.r rfl)) rfl<|bO (r:=9) sk rfl<|ah (aC SF (.r rfl) (bj (bI (off:=9) hd.c ⟨_,rfl⟩))) rfl<|ag rfl<|ah (bM J1 Ug hd.es.sm (.r rfl) (.r rfl) rfl (by omega)) rfl<|ah (aC XH (.r rfl) (fun w hw=>aA (off:=0) ((fun w3 h3=>cY (hd.b0 w3 h3).es hey) w hw) ⟨_,rfl⟩)) rfl<|ag rfl<|ah (bM FD rZ (hd.ev ey heym).ev.sm (.r rfl) (.r rfl) rfl (by omega)) rfl<|bO uj rfl<|ah (aC O3 (.r rfl) (fun w hw=>aA (off:=0) ((fun w3 h3=>cY ((hd.b0 w3 h3).ev ey heym).ev hei) w hw) ⟨_,rfl⟩)) rfl<|aq<|aD ?_))
   refine au (ah (ia (.r rfl) (.r rfl)) rfl<|ax rfl<|aq<|ay rfl (fun h59=>?_) (fun h59=>?_))
   ·
    refine aM (bO (r:=3) F6 rfl<|cL 0 O3 rfl rfl ⟨_,rfl⟩ rfl<|ah (LO.add (.r rfl) (.r rfl) (wi (by have:=@rV l 2;omega) (by have:=@rV l 2;omega))) rfl<|bO (r:=3) F6 rfl<|cu<|cq 0 (vs:=[_]) (C':=[_,_,_,_,_,_,_,_,_]) (L':=[_,_,_,_,_,_]) N3 rfl rfl rfl rfl rfl rfl rfl rfl<|aN<|bB (bB (aj<|aM (ag rfl<|da rfl rfl (by omega) (by omega) rfl<|ax rfl<|aN<|aZ fun a w ha hw=>⟨(i+1,l++[e.m]),⟨by dsimp only;omega,by dsimp only;rw[uf hei, ←dk, ←hl]⟩,(by dsimp only;omega),ha.sub (.c4 rfl rfl rfl rfl (.cons rfl .nil)),(by dsimp only[J6];rw[Kh (e:=e.m) (j:=2) (by show e.kd=_;omega),lS (e:=e.m) (j:=3) (by show ¬e.kd=_;omega),lS (e:=e.m) (j:=4) (by show ¬e.kd=_;omega),lS (e:=e.m) (j:=5) (by show ¬e.kd=_;omega),lS (e:=e.m) (j:=6) (by show ¬e.kd=_;omega),lS (e:=e.m) (j:=7) (by show ¬e.kd=_;omega)];exact dq (L1:=[_,_,_,_,_,_]) [0,1,2,3,4,5] rfl rfl _ hw)⟩))))
   ·
    refine au (ah (ia (.r rfl) (.r rfl)) rfl<|ax rfl<|aq<|ay rfl (fun h65=>?_) (fun h65=>?_))
    ·
     refine aM (bO (r:=4) Ft rfl<|cL 0 O3 rfl rfl ⟨_,rfl⟩ rfl<|ah (LO.add (.r rfl) (.r rfl) (wi (by have:=@rV l 3;omega) (by have:=@rV l 3;omega))) rfl<|bO (r:=4) Ft rfl<|cu<|cq 0 (vs:=[_]) (C':=[_,_,_,_,_,_,_,_,_]) (L':=[_,_,_,_,_,_]) N3 rfl rfl rfl rfl rfl rfl rfl rfl<|aN<|bB (bB (aj<|aM (ag rfl<|da rfl rfl (by omega) (by omega) rfl<|ax rfl<|aN<|aZ fun a w ha hw=>⟨(i+1,l++[e.m]),⟨by dsimp only;omega,by dsimp only;rw[uf hei, ←dk, ←hl]⟩,(by dsimp only;omega),ha.sub (.c4 rfl rfl rfl rfl (.cons rfl .nil)),(by dsimp only[J6];rw[lS (e:=e.m) (j:=2) (by show ¬e.kd=_;omega),Kh (e:=e.m) (j:=3) (by show e.kd=_;omega),lS (e:=e.m) (j:=4) (by show ¬e.kd=_;omega),lS (e:=e.m) (j:=5) (by show ¬e.kd=_;omega),lS (e:=e.m) (j:=6) (by show ¬e.kd=_;omega),lS (e:=e.m) (j:=7) (by show ¬e.kd=_;omega)];exact dq (L1:=[_,_,_,_,_,_]) [0,1,2,3,4,5] rfl rfl _ hw)⟩))))
    ·
     refine au (ah (ia (.r rfl) (.r rfl)) rfl<|ax rfl<|aq<|ay rfl (fun h71=>?_) (fun h71=>?_))
     ·
      refine aM (bO (r:=5) E5 rfl<|cL 0 O3 rfl rfl ⟨_,rfl⟩ rfl<|ah (LO.add (.r rfl) (.r rfl) (wi (by have:=@rV l 4;omega) (by have:=@rV l 4;omega))) rfl<|bO (r:=5) E5 rfl<|cu<|cq 0 (vs:=[_]) (C':=[_,_,_,_,_,_,_,_,_]) (L':=[_,_,_,_,_,_]) N3 rfl rfl rfl rfl rfl rfl rfl rfl<|aN<|bB (bB (aj<|aM (ag rfl<|da rfl rfl (by omega) (by omega) rfl<|ax rfl<|aN<|aZ fun a w ha hw=>⟨(i+1,l++[e.m]),⟨by dsimp only;omega,by dsimp only;rw[uf hei, ←dk, ←hl]⟩,(by dsimp only;omega),ha.sub (.c4 rfl rfl rfl rfl (.cons rfl .nil)),(by dsimp only[J6];rw[lS (e:=e.m) (j:=2) (by show ¬e.kd=_;omega),lS (e:=e.m) (j:=3) (by show ¬e.kd=_;omega),Kh (e:=e.m) (j:=4) (by show e.kd=_;omega),lS (e:=e.m) (j:=5) (by show ¬e.kd=_;omega),lS (e:=e.m) (j:=6) (by show ¬e.kd=_;omega),lS (e:=e.m) (j:=7) (by show ¬e.kd=_;omega)];exact dq (L1:=[_,_,_,_,_,_]) [0,1,2,3,4,5] rfl rfl _ hw)⟩))))
     ·
      refine au (ah (ia (.r rfl) (.r rfl)) rfl<|ax rfl<|aq<|ay rfl (fun h77=>?_) (fun h77=>?_))
      ·
       refine aM (bO (r:=6) FQ rfl<|cL 0 O3 rfl rfl ⟨_,rfl⟩ rfl<|ah (LO.add (.r rfl) (.r rfl) (wi (by have:=@rV l 5;omega) (by have:=@rV l 5;omega))) rfl<|bO (r:=6) FQ rfl<|cu<|cq 0 (vs:=[_]) (C':=[_,_,_,_,_,_,_,_,_]) (L':=[_,_,_,_,_,_]) N3 rfl rfl rfl rfl rfl rfl rfl rfl<|aN<|bB (bB (aj<|aM (ag rfl<|da rfl rfl (by omega) (by omega) rfl<|ax rfl<|aN<|aZ fun a w ha hw=>⟨(i+1,l++[e.m]),⟨by dsimp only;omega,by dsimp only;rw[uf hei, ←dk, ←hl]⟩,(by dsimp only;omega),ha.sub (.c4 rfl rfl rfl rfl (.cons rfl .nil)),(by dsimp only[J6];rw[lS (e:=e.m) (j:=2) (by show ¬e.kd=_;omega),lS (e:=e.m) (j:=3) (by show ¬e.kd=_;omega),lS (e:=e.m) (j:=4) (by show ¬e.kd=_;omega),Kh (e:=e.m) (j:=5) (by show e.kd=_;omega),lS (e:=e.m) (j:=6) (by show ¬e.kd=_;omega),lS (e:=e.m) (j:=7) (by show ¬e.kd=_;omega)];exact dq (L1:=[_,_,_,_,_,_]) [0,1,2,3,4,5] rfl rfl _ hw)⟩))))
      ·
       refine au (ah (ia (.r rfl) (.r rfl)) rfl<|ax rfl<|aq<|ay rfl (fun h83=>?_) (fun h83=>?_))
       ·
        refine aM (bO (r:=7) Fq rfl<|cL 0 O3 rfl rfl ⟨_,rfl⟩ rfl<|ah (LO.add (.r rfl) (.r rfl) (wi (by have:=@rV l 6;omega) (by have:=@rV l 6;omega))) rfl<|bO (r:=7) Fq rfl<|cu<|cq 0 (vs:=[_]) (C':=[_,_,_,_,_,_,_,_,_]) (L':=[_,_,_,_,_,_]) N3 rfl rfl rfl rfl rfl rfl rfl rfl<|aN<|bB (bB (aj<|aM (ag rfl<|da rfl rfl (by omega) (by omega) rfl<|ax rfl<|aN<|aZ fun a w ha hw=>⟨(i+1,l++[e.m]),⟨by dsimp only;omega,by dsimp only;rw[uf hei, ←dk, ←hl]⟩,(by dsimp only;omega),ha.sub (.c4 rfl rfl rfl rfl (.cons rfl .nil)),(by dsimp only[J6];rw[lS (e:=e.m) (j:=2) (by show ¬e.kd=_;omega),lS (e:=e.m) (j:=3) (by show ¬e.kd=_;omega),lS (e:=e.m) (j:=4) (by show ¬e.kd=_;omega),lS (e:=e.m) (j:=5) (by show ¬e.kd=_;omega),Kh (e:=e.m) (j:=6) (by show e.kd=_;omega),lS (e:=e.m) (j:=7) (by show ¬e.kd=_;omega)];exact dq (L1:=[_,_,_,_,_,_]) [0,1,2,3,4,5] rfl rfl _ hw)⟩))))
       ·
        refine au (ah (ia (.r rfl) (.r rfl)) rfl<|ax rfl<|aq<|ay rfl (fun h89=>?_) (fun h89=>?_))
        ·
         refine aM (bO (r:=8) Fh rfl<|cL 0 O3 rfl rfl ⟨_,rfl⟩ rfl<|ah (LO.add (.r rfl) (.r rfl) (wi (by have:=@rV l 7;omega) (by have:=@rV l 7;omega))) rfl<|bO (r:=8) Fh rfl<|cu<|cq 0 (vs:=[_]) (C':=[_,_,_,_,_,_,_,_,_]) (L':=[_,_,_,_,_,_]) N3 rfl rfl rfl rfl rfl rfl rfl rfl<|aN<|bB (bB (aj<|aM (ag rfl<|da rfl rfl (by omega) (by omega) rfl<|ax rfl<|aN<|aZ fun a w ha hw=>⟨(i+1,l++[e.m]),⟨by dsimp only;omega,by dsimp only;rw[uf hei, ←dk, ←hl]⟩,(by dsimp only;omega),ha.sub (.c4 rfl rfl rfl rfl (.cons rfl .nil)),(by dsimp only[J6];rw[lS (e:=e.m) (j:=2) (by show ¬e.kd=_;omega),lS (e:=e.m) (j:=3) (by show ¬e.kd=_;omega),lS (e:=e.m) (j:=4) (by show ¬e.kd=_;omega),lS (e:=e.m) (j:=5) (by show ¬e.kd=_;omega),lS (e:=e.m) (j:=6) (by show ¬e.kd=_;omega),Kh (e:=e.m) (j:=7) (by show e.kd=_;omega)];exact dq (L1:=[_,_,_,_,_,_]) [0,1,2,3,4,5] rfl rfl _ hw)⟩))))
        ·
         refine aE (bB (bB (aj<|aM (ag rfl<|da rfl rfl (by omega) (by omega) rfl<|ax rfl<|aN<|aZ fun a w ha hw=>⟨(i+1,l++[e.m]),⟨by dsimp only;omega,by dsimp only;rw[uf hei, ←dk, ←hl]⟩,(by dsimp only;omega),ha.sub (.c4 rfl rfl rfl rfl (.cons rfl .nil)),(by dsimp only[J6];rw[lS (e:=e.m) (j:=2) (by show ¬e.kd=_;omega),lS (e:=e.m) (j:=3) (by show ¬e.kd=_;omega),lS (e:=e.m) (j:=4) (by show ¬e.kd=_;omega),lS (e:=e.m) (j:=5) (by show ¬e.kd=_;omega),lS (e:=e.m) (j:=6) (by show ¬e.kd=_;omega),lS (e:=e.m) (j:=7) (by show ¬e.kd=_;omega)];exact dq (L1:=[_,_,_,_,_,_]) [0,1,2,3,4,5] rfl rfl _ hw)⟩))))
  ·
   have hie:i=ey.l.length:=by omega
   subst hie
   have hl2:l=L++ey.l.map dD:=by rw[hl];congr 1;exact List.take_of_length_le (by rw[ak];exact cg _)
   refine bU (aH (aH (cB (bB (aj<|aM (ag rfl<|da rfl rfl (by omega) (by omega) rfl<|ax rfl<|aN<|aZ fun a w ha hw=>⟨(n+1,l),⟨by dsimp only;omega,by dsimp only;rw[RU hEn, ←hL];exact hl2⟩,(by dsimp only;omega),ha.sub (.c4 rfl rfl rfl rfl .nil),hw⟩))))))
 ·
  have hne:n=Ms.length:=by omega
  subst hne
  have hL:L=E.flatten:=by rw[hL,show Ms.length=E.length from hP.I.q.len.symm,eG]
  subst hL
  refine bU (aH (aH (cB (aj<|au (ah (aX (vs:=[_,_,_,_,_,_,_,_,_]) Yt (.r rfl) (aF 0 rfl ⟨_,rfl⟩) rfl) rfl<|cu<|cq 5 (vs:=[_,_,_,_,_,_,_,_,_]) (C':=[_,_,_,_,_,_,_,_,_]) (L':=[_,_,_,_,_,_]) WQ rfl rfl rfl rfl rfl rfl rfl rfl<|aq<|be (dh (vs:=[_]) rfl ⟨jH (vs:=[_,_,_,_,_,_,_,_,_]) Yt rfl (aF 5 rfl ⟨_,rfl⟩) rfl,trivial⟩ (fun w hw=>?_)))))))
  refine⟨?_,hw.nil⟩
  show bT (.agg (J6 d.ti.length (Ms.take Ms.length).sum y.tk.length E.flatten))=_
  rw[hti,eG,hyl]
end Go.Proofs.YtgemekpofpoopaaGreat
