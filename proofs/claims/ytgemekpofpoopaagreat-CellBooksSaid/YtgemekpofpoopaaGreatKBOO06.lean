/-
  A book's births at the first map.
  (and more)
-/
import Derived.Test.YtgemekpofpoopaaGreatKBOO05
import Derived.Shelf.SlIterI.Nil
import Derived.Test.YtgemekpofpoopaaGreatProg
open Go.Proofs.Tryz renaming prog→af,underlying85→iE,underlying82→wM,underlying3→dJ,func34→Ab,underlying76→jP,func8→wN,underlying83→iZ,underlying0→rY,zeroValue0→s4,zeroValue3→s5,underlying134→vG,zeroValue134→wO
open Go.Proofs.YtgemekpofpoopaaGreat.cH renaming cells→e9,aR→gl,pR→ff,cR→ef,m→dG
open List renaming getElem?_eq_some_iff→an,take_succ_eq_append_getElem→bX,take_length→eG,find?_eq_none→gJ,mem_iff_getElem→gg,length_take→eU,pairwise_iff_getElem→cj,pairwise_map→gk,getElem_take→nU,find?_cons→Aa,ext_getElem?→cM,mem_append→bQ,mem_singleton→bW,length_map→ak,map_append→bG,length_append→aJ,length_singleton→bu,range→bF,mem_range→a8,length_cons→dX,map_cons→gI,pairwise_flatten→ta,mem_map→bN,mem_flatten→oP,length→dv,getElem?_map→aI,getElem?_append_left→aV,mem_map_of_mem→bw,mem_of_getElem?→al,getD_eq_getElem?_getD→aO,getElem?_eq_getElem→aw,getElem?_eq_none→aQ
open Go.Proofs.YtgemekpofpoopaaGreat.db renaming m→dD
open Go.SL.VC renaming q→au,seq→av,block→aD,eg→bS,cond→ay,exit→bU,perm→gw,skip→aE,eX→aM,iI→eC,ret→be,draw→gj
open Go.SL.VO renaming h→aB,n→aq,m→ag,l→ah,t→dK,f→bO,c→cL,a→ax,h0→cu,nil→aN,p→da,gf→aK
open Go.SL.HO renaming lo→aW,alloc→cJ,st→cq,bs→eW,k8→eP,eS→cd
open Go.SL.LO renaming len→bE,nc→cV,jA→cy,ld→aC,bd→fA,iy→bM,fT→aX,fa→aP,call→bK,Uc→rO
open Go.SL.VE renaming bZ→aH,jT→cB,aU→aj,gO→bB,df→aZ,dB→bA,res→dh,mq→dA,s→dP
open Nat renaming zero_le→aY,le_refl→cg,ne_of_lt→jc,lt_succ_iff_lt_or_eq→cZ
open Go.SL.St renaming pO→kC
open Option.some renaming inj→eI
open Go.Proofs.YtgemekpofpoopaaGreat.LO renaming eqv→eN
open Go.Value renaming int→cX
open Go.SL.LX renaming m→cT,l→aG,s→dC,nil→fj
open Go.SL.HX renaming s→az,h→ga,h0→hX,nil→fB
open Classical renaming not_not→eK
open Go.Ending renaming returned→bT
open Go.SL.LL renaming l→bl,m→eT,nil→gy
open Option renaming isSome_iff_ne_none→rP
open Go.Shelf renaming Ren→yC
open Go.Fence renaming wide→lD
open Go.Maps renaming size→vH
open Array renaming getElem?_eq_some_iff→fV
open Go.WideElems renaming rd→Xl,rg→Xm
open Go.SL.cG renaming l→dw
open Go.Proofs.YtgemekpofpoopaaGreat.Span renaming cells→pG
open List.cons renaming inj→vI

set_option linter.unusedSimpArgs false
set_option maxRecDepth 20000
set_option maxHeartbeats 8000000
namespace Go.Proofs.YtgemekpofpoopaaGreat
open Go.SL Go.Proofs Go.sM Go.Cell
set_option linter.unusedVariables false
theorem oW:cP af 85 4 8:=⟨_,_,iE,rfl,rfl,0,by kernel_rfl⟩
theorem KD:jJ af 82:=⟨⟨_,wM,rfl⟩,by kernel_rfl⟩
theorem A9:ee af 82 92:=wM
theorem C67:fh af 67:=⟨_,Tryz.func67,by decide,rfl⟩
abbrev Sg (g:eo) (y:oV):List Value:=[.int .i64 g.x,.int .i64 g.y,.int .i64 g.size,.int .i64 g.wide,.int .i64 g.high,.slice y.p y.l.length y.c,.slice y.po (gW g*gH g) y.co]
abbrev tI (b:Nat) (h:jk) (la:Int) (pm:Option Addr) (cm:Nat) (ys:List oV) (pt:Option Addr) (ct:Nat) (kd:Nat→Int) (tk:List cH) (of:Nat×Nat→Option Nat):List dg:=
 [gq b (.cells (uO h la ⟨pm,ys.length,cm⟩ pt tk.length ct kd).toArray 85),own 76 6 pt ct (tk.map e9),bV (tk.map gl),jr Ay vZ h.bm (qK of),own 92 7 pm cm (ys.map (Sg h.g)),bV (tk.map ff),bV (tk.map ef)]
abbrev WA (e:db):Value:=.agg #[.int .i64 e.kd,.slice e.fp e.f.length e.fc,.slice e.tp e.t.length e.tc]
theorem Ve:sq af 153 je WA db.z:=⟨3,70,Tryz.underlying153,R2 dJ,Wz⟩
def uN (l:List Nat) (x:Int):Bool:=l.any fun j=>decide ((j:Int)=x)
theorem uG {l:List Nat} {x:Int}:uN l x=true↔∃j:Nat,j∈l∧(j:Int)=x:=by
 unfold uN;rw[List.any_eq_true]
 exact⟨fun⟨j,h1,h2⟩=>⟨j,h1,of_decide_eq_true h2⟩,fun⟨j,h1,h2⟩=>⟨j,h1,decide_eq_true h2⟩⟩
theorem CY {l:List Nat} {j:Nat}:uN l (j:Int)=decide (j∈l):=by
 refine Bool.eq_iff_iff.2 ⟨fun h=>?_,fun h=>uG.2 ⟨j,of_decide_eq_true h,rfl⟩⟩
 obtain⟨i,h1,h2⟩:=uG.1 h
 have:i=j:=by omega
 subst this;exact decide_eq_true h1
theorem MI {l m:List Nat} {x:Int}:uN (l++m) x=(uN l x||uN m x):=by unfold uN;rw[List.any_append]
theorem MH {j:Nat} {x:Int}:uN [j] x=decide ((j:Int)=x):=by unfold uN;simp
def L7 (l:List db) (x:Int):Option db:=l.find? fun e=>uN e.t x
def TK (l:List db) (k:Nat) (e:db) (i:Nat) (x:Int):Option db:=if uN (e.t.take i) x=true then some e else L7 (l.take k) x
theorem PA {l:List db} {k:Nat} {e:db}:TK l k e 0=L7 (l.take k):=by funext x;unfold TK;rw[if_neg (by rw[List.take_zero];exact Bool.false_ne_true)]
theorem NO {l:List db} {k i j:Nat} {e:db} (h:e.t[i]? =some j):kB (TK l k e i) (j:Int) e=TK l k e (i+1):=by
 funext x
 obtain⟨hi,rfl⟩:=an.1 h
 unfold kB TK
 rw[bX hi,MI,MH]
 by_cases q:x=(e.t[i]:Int)
 ·subst q;rw[if_pos rfl,decide_eq_true rfl,Bool.or_true,if_pos rfl]
 ·rw[if_neg q,decide_eq_false (fun z=>q z.symm),Bool.or_false]
theorem NG {l:List db} {k:Nat} {e:db} (h:l[k]? =some e) (hap:(l.map dD).Pairwise fun a b=>(∀i,i∈a.f→i∉b.f)∧∀j,j∈a.t→j∉b.t):TK l k e e.t.length=L7 (l.take (k+1)):=by
 funext x
 obtain⟨hk,rfl⟩:=an.1 h
 unfold TK L7
 rw[eG,bX hk,List.find?_append]
 cases z:uN l[k].t x with
 |true=>
  rw[if_pos rfl]
  obtain⟨j,z1,z2⟩:=uG.1 z
  have e0:(l.take k).find? (fun e=>uN e.t x)=none:=gJ.2 fun a ha=>by
   obtain⟨i,hi,rfl⟩:=gg.1 ha
   rw[eU]at hi
   have hp:=cj.1 (gk.1 hap) i k (by omega) hk (by omega)
   rw[nU]
   intro y
   obtain⟨j',y1,y2⟩:=uG.1 y
   have:j'=j:=by omega
   subst this
   exact hp.2 j' y1 z1
  rw[e0]
  simp only[Aa,Option.none_or,z]
 |false=>
  rw[if_neg (by decide)]
  simp only[Aa,List.find?_nil,z,Option.or_none]
theorem VN {l:List db} {j:Nat}:((L7 l (j:Int)).getD db.z).m=zE (l.map dD) j:=by
 unfold L7 zE
 rw[List.find?_map]
 have e:(fun e:db=>uN e.t (j:Int))=((fun e:gF=>decide (j∈e.t))∘dD):=by
  funext e;exact CY
 rw[e]
 cases l.find? ((fun e:gF=>decide (j∈e.t))∘dD)<;>rfl
theorem WH {l:List db} {j:Nat} (h:∃e,e∈l∧j∈e.t):(L7 l (j:Int)).getD db.z∈l:=by
 obtain⟨e,h1,h2⟩:=h
 cases z:L7 l (j:Int) with
 |none=>
  unfold L7 at z
  exact absurd (CY.trans (decide_eq_true h2)) (by simpa using gJ.1 z e h1)
 |some a=>unfold L7 at z;exact List.mem_of_find?_eq_some z
theorem Bn {l:List fo} {n:Nat}:mE l [] n=l:=by
 refine cM fun k=>?_
 rw[nB]
 cases l[k]? with
 |none=>rfl
 |some t=>show some (u5 [] n k t)=_;unfold u5;rw[if_neg (by simp)]
theorem Fk {l:List fo} {ps:List Nat} {n r p:Nat} (h:ps[r]? =some p) (hn:ps.Nodup):(mE l (ps.take r) n).modify p (fun t=>{ t with ch:=t.ch++[n] })=mE l (ps.take (r+1)) n:=by
 refine cM fun k=>?_
 rw[List.getElem?_modify,nB,nB]
 obtain⟨hr,rfl⟩:=an.1 h
 cases l[k]? with
 |none=>rfl
 |some t=>
  show some _=some (u5 (ps.take (r+1)) n k t)
  unfold u5
  rw[bX hr]
  by_cases q:ps[r]=k
  ·subst q
   have h1:ps[r]∉ps.take r:=fun hm=>by
    obtain⟨i,hi,hi2⟩:=gg.1 hm
    rw[nU]at hi2
    rw[eU]at hi
    exact cj.1 hn i r (by omega) hr (by omega) hi2
   rw[if_neg h1,if_pos (bQ.2 (.inr (bW.2 rfl)))]
   simp
  ·have h1:k∈ps.take r++[ps[r]]↔k∈ps.take r:=by rw[bQ,bW];exact⟨fun z=>z.elim id (fun y=>absurd y.symm q),.inl⟩
   simp only[h1,q,if_false]
structure BiY where
 tk:List cH
 pt:Option Addr
 ct:Nat
 of:Nat×Nat→Option Nat
theorem By {N j:Nat} {evs:List gF} {tk tk':List fo} {of:Nat×Nat→Option Nat} {s0:List fo×(Nat×Nat→Option Nat)} (hB:(tk,of)=ib N evs s0 j) (hn:pM N evs j=true) {ps:List Nat} (hp:sw tk N evs j=ps) (hm:tk'=mE (tk++[Yg N evs ps j]) ps tk.length):(tk',kB of (N,j) tk.length)=ib N evs s0 (j+1):=by
 show _=sy N evs (ib N evs s0 j) j
 rw[←hB];unfold sy;rw[if_pos hn,hp,hm]
theorem KE {N j:Nat} {evs:List gF} {tk:List fo} {of:Nat×Nat→Option Nat} {s0:List fo×(Nat×Nat→Option Nat)} (hB:(tk,of)=ib N evs s0 j) (hn:¬pM N evs j=true):(tk,of)=ib N evs s0 (j+1):=by
 show _=sy N evs (ib N evs s0 j) j
 rw[←hB];unfold sy;rw[if_neg hn]
theorem yI {tk:List fo} {N:Nat} {f:List Nat}:(CV tk N f).Pairwise (· < ·):=oh
theorem Kp (b:Nat) (h:jk) (la:Int) (pm:Option Addr) (cm:Nat) (ys:List oV) (pt:Option Addr) (ct:Nat) (kd:Nat→Int) (tk:List cH) (of:Nat×Nat→Option Nat) (m_:Nat) (y0:oV) (hyN:ys[0]? =some y0) (hm_:y0.l.length=m_) (w:World) (hh:Has w (tI b h la pm cm ys pt ct kd tk of)) (hl:tk.length+m_≤900000):
 Calls af 34 #[.pointer (some ⟨b,0,none⟩),.int .i64 0,.slice none 0 0] w fun e w'=>∃y:BiY,((y.tk.map dG,y.of)=ib 0 [] (tk.map dG,of) m_∧y.tk.length≤tk.length+m_)∧e= .returned (.tuple #[])∧St ⟨w,mG (tI b h la pm cm ys pt ct kd tk of)⟩ (tI b h la pm cm ys y.pt y.ct kd y.tk y.of) w':=by
 have hyl:0<ys.length:=(an.1 hyN).1
 refine oL (vs:=[_,_,_]) (env:=[(0,_),(1,_),(2,_)]) hh.enter Ab rfl rfl rfl rfl ?_
 refine au (aB rfl<|HO.yG je WA fun b8=>aB rfl<|aW (LO.as (.r rfl))<|aq<|av<|au (ag rfl<|ah (bE Am (.r rfl) rfl) rfl<|ag rfl<|aq ?_))
 refine aD<|bS (α:=Nat) 0 (fun gx=>[(22,.int .i64 (gx:Nat))]) [(0,_),(1,_),(6,_),(20,_),(21,_)] (fun gx=>[]) (fun gx=>True) (fun gx=>1-gx) 0 (by exact trivial) (.c4 rfl rfl rfl rfl (.cons rfl (.cons rfl .nil))) (fun _ h=>h) ?_
 rintro k _
 refine au (dK rfl<|aq<|av<|ay rfl (fun h23=>?_) (fun h23=>?_))
 · (exfalso;simp at h23;try omega)
 ·
  refine bU (aH (aH (cB (aj<|au (ag rfl<|ah (cV (.r rfl)) rfl<|bO (r:=8) oW rfl<|cL 1 KD rfl rfl ⟨_,rfl⟩ rfl<|ag rfl<|ah (cy A9 L8 (fun _ hw=>(bL hw 5 rfl).some (by rw[ak])) (.r rfl) (.r rfl) (j:=0) rfl (by omega)) rfl<|bO za rfl<|ah (aC WW (.r rfl) (fun w hw=>aA (off:=5) (cO hw 5 rfl hyN) ⟨_,rfl⟩)) rfl<|ah (bE Ec (.r rfl) rfl) rfl<|ag rfl<|aq<|aD<|gw [1,2,3,4,6,7,0,5] rfl<|bS (α:=Nat×(List cH)×(Option Addr)×Nat×(Nat×Nat→Option Nat)) 6 (fun gx=>[(47,.int .i64 (gx.1:Nat))]) [(0,_),(1,_),(6,_),(46,_)] (fun gx=>[gq b (.cells (uO h la ⟨pm,ys.length,cm⟩ gx.2.2.1 gx.2.1.length gx.2.2.2.1 kd).toArray 85),own 76 6 gx.2.2.1 gx.2.2.2.1 (gx.2.1.map e9),bV (gx.2.1.map gl),jr Ay vZ h.bm (qK gx.2.2.2.2),bV (gx.2.1.map ff),bV (gx.2.1.map ef)]) (fun gx=>gx.1≤m_∧(gx.2.1.map dG,gx.2.2.2.2)=ib 0 [] (tk.map dG,of) gx.1∧gx.2.1.length≤tk.length+gx.1) (fun gx=>m_-gx.1) (0,tk,pt,ct,of) (by exact⟨aY _,rfl,cg _⟩) (.c4 rfl rfl rfl rfl (.cons rfl .nil)) (fun _ h=>h) ?_)))))
  rintro ⟨j,tkj,ptj,ctj,ofj⟩ ⟨hj,hB,hlj⟩
  show VC _ _ _ _ _ ([(47,.int .i64 (j:Nat))]++_) ([gq b (.cells (uO h la ⟨pm,ys.length,cm⟩ ptj tkj.length ctj kd).toArray 85),own 76 6 ptj ctj (tkj.map e9),bV (tkj.map gl),jr Ay vZ h.bm (qK ofj),bV (tkj.map ff),bV (tkj.map ef)]++_) _ _
  dsimp only at hj hB hlj
  refine au (dK rfl<|aq<|av<|ay rfl (fun h48=>?_) (fun h48=>?_))
  ·
   refine aE (aj<|av<|aD<|au (ag rfl<|ax rfl<|aq<|av ?_))
   refine aM (ag rfl<|ag rfl<|ah (LO.Mu (n:=(j:Int)) Ve (.r rfl) (.r rfl) (fun _ hw=>St.inv hw 6 _ rfl)) rfl<|aB rfl<|cJ (C:=#[_,_,_]) Wz rfl fun b9=>cu<|cq 0 (vs:=[_,_,_]) (C':=[_,_,_]) (L':=[_,_,_,_,_,_,_,_,_]) EO rfl rfl rfl rfl rfl rfl rfl rfl<|aq<|aD<|au (ag rfl<|ah (LO.eq (.r rfl) (.r rfl)) rfl<|ax rfl<|aq<|ay rfl (fun h53=>?_) (fun h53=>?_)))
   ·
    refine aM (ag rfl<|ag rfl<|ah (fA (ps:=[(_,_),(_,_)]) (vs:=[(_,_),(_,_)]) (C:=[_,_]) Vi ⟨(.r rfl),(.r rfl),trivial⟩ rfl ⟨_,[_],[_,_],rfl,rfl,rfl,rfl,⟨_,[_],[_,_],rfl,rfl,rfl,rfl,rfl⟩⟩) rfl<|aB rfl<|HO.oU (first:=[]) (cap:=[]) (xs:=[_,_,_,_]) (vs:=[_,_,_,_]) [_,_,_,_] [_,_,_,_,_] (dq (L1:=[_,_,_,_]++[_,_,_,_,_]) [1,2,3,4,0,5,6,7,8] rfl rfl) (.r rfl) C67 ⟨(.r rfl),(.r rfl),(.r rfl),(.r rfl),trivial⟩ (fun w hw hh=>I2 b h la ⟨pm,ys.length,cm⟩ ptj ctj kd tkj ofj 1 0 j none 0 [] w hh (by omega)) fun y _=>aN<|bB (bB (aj<|aM (da rfl rfl (by omega) (by omega) rfl<|ag rfl<|aN<|aZ fun a w ha hw=>⟨(j+1,tkj++[(o7 1 0 j y.ap y.ac none 0 [])],y.pt,y.ct,kB ofj (0,j) tkj.length),⟨by dsimp only;omega,by have z:=By (tk':=(tkj++[o7 1 0 j y.ap y.ac none 0 []]).map dG) hB (decide_eq_true (.inl rfl)) (ps:=[]) rfl (by rw[Bn,bG];rfl);rw[ak]at z;exact z,by dsimp only;rw[aJ,bu];omega⟩,(by dsimp only;omega),ha.sub (.c4 rfl rfl rfl rfl (.cons rfl .nil)),(by dsimp only;rw[bG (f:=ff),bG (f:=ef)];exact dq (L1:=[_,_,_,_,_,_,_,_]) [2,3,4,5,0,1,6,7] rfl rfl _ (kC (r:=ff (o7 1 0 j y.ap y.ac none 0 [])) (L:=bV (tkj.map ef++[ef (o7 1 0 j y.ap y.ac none 0 [])])::[_,_,_,_,_,_]) (dq (L1:=ff (o7 1 0 j y.ap y.ac none 0 [])::bV (tkj.map ff)::bV (tkj.map ef++[ef (o7 1 0 j y.ap y.ac none 0 [])])::[_,_,_,_,_,_]) [0,2,1,3,4,5,6,7,8] rfl rfl _ ((kC (r:=ef (o7 1 0 j y.ap y.ac none 0 [])) (L:=bV (tkj.map ff)::[_,_,_,_,_,_]) (dq (L1:=ef (o7 1 0 j y.ap y.ac none 0 [])::bV (tkj.map ef)::bV (tkj.map ff)::[_,_,_,_,_,_]) [0,7,6,1,2,3,4,8,9] rfl rfl _ (hw.fX 3 1))).fX 3 1))))⟩))))
   · (exfalso;exact h53 rfl)
  ·
   refine bU (aH (aH (cB (VE.D5 (vs:=[]) rfl trivial (fun w hw=>?_)))))
   have hje:j=m_:=by omega
   subst hje
   exact⟨⟨tkj,ptj,ctj,ofj⟩,⟨hB,hlj⟩,rfl,dq [0,1,2,3,7,4,5] rfl rfl _ hw⟩
theorem AQ:cP af 76 5 5:=⟨_,_,jP,rfl,rfl,0,by kernel_rfl⟩
structure BiE (E:List (List gF)) (Ms:List Nat) (n m_:Nat) (l:List db) (tk:List cH) (of:Nat×Nat→Option Nat):Prop where
 len:Ms.length=n+2
 at_:Ms.getD (n+1) 0=m_
 ev:E.getD (n+1) []=l.map dD
 Kf:iq (Ms.getD n 0) m_ (l.map dD)
 inv:iW E Ms 0 (tk.map dG) of
 m:m_≤4096
 n:n≤1000
theorem BiE.at {E:List (List gF)} {Ms:List Nat} {n m_ j:Nat} {l:List db} {tk tkj:List cH} {of ofj:Nat×Nat→Option Nat} (h:BiE E Ms n m_ l tk of) (hj:j≤m_) (hB:(tkj.map dG,ofj)=ib (n+1) (l.map dD) (tk.map dG,of) j):iW E Ms j (tkj.map dG) ofj:=by
 have z:=iW.zp h.inv h.len (fun _=>by rw[h.ev,h.at_];exact h.Kf) j (by rw[h.at_];exact hj)
 rw[h.ev, ←hB]at z
 exact z
theorem iq.Ot {n m:Nat} {es:List gF} (h:iq n m es) {e:gF} (he:e∈es):e.f.length≤n∧e.t.length≤m:=by
 have h1:=length_le_of_subset (m:=bF n) ((h.fs e he).1.imp fun z=>jc z) (fun x hx=>a8.2 ((h.fs e he).2 x hx))
 have h2:=length_le_of_subset (m:=bF m) ((h.ts e he).1.imp fun z=>jc z) (fun x hx=>a8.2 ((h.ts e he).2 x hx))
 simpa using And.intro h1 h2
theorem iq.Q9 {n m:Nat} {es:List gF} (h:iq n m es):es.length≤n+m:=by
 have key:∀(es:List gF) (n m:Nat),(∀e,e∈es→0<e.f.length+e.t.length)→(es.map fun e=>e.f.length+e.t.length).sum≤n+m→es.length≤n+m:=fun es n m h1 h2=>by
  have:es.length≤(es.map fun e=>e.f.length+e.t.length).sum:=by
   clear h2
   induction es with
   |nil=>simp
   |cons e es ih=>have:=ih fun a ha=>h1 a (by simp [ha]);have:=h1 e (by simp);simp only[dX,gI,List.sum_cons];omega
  omega
 refine key es n m (fun e he=>(h.kd e he).2) ?_
 have hF:(es.map gF.f).flatten.length≤n:=by
  have hn:(es.map gF.f).flatten.Nodup:=by
   refine ta.2 ⟨fun l hl=>?_,gk.2 (h.apart.imp fun {a b} hab=>?_)⟩
   ·obtain⟨e,he,rfl⟩:=bN.1 hl;exact(h.fs e he).1.imp fun z=>jc z
   ·exact fun i hi i2 hi2 e=>hab.1 i hi (e ▸ hi2)
  have:=length_le_of_subset (m:=bF n) hn (fun x hx=>by
   obtain⟨l,hl,hx⟩:=oP.1 hx
   obtain⟨e,he,rfl⟩:=bN.1 hl
   exact a8.2 ((h.fs e he).2 x hx))
  simpa using this
 have hT:(es.map gF.t).flatten.length≤m:=by
  have hn:(es.map gF.t).flatten.Nodup:=by
   refine ta.2 ⟨fun l hl=>?_,gk.2 (h.apart.imp fun {a b} hab=>?_)⟩
   ·obtain⟨e,he,rfl⟩:=bN.1 hl;exact(h.ts e he).1.imp fun z=>jc z
   ·exact fun i hi i2 hi2 e=>hab.2 i hi (e ▸ hi2)
  have:=length_le_of_subset (m:=bF m) hn (fun x hx=>by
   obtain⟨l,hl,hx⟩:=oP.1 hx
   obtain⟨e,he,rfl⟩:=bN.1 hl
   exact a8.2 ((h.ts e he).2 x hx))
  simpa using this
 rw[List.length_flatten]at hF hT
 have e:∀es:List gF,(es.map fun e=>e.f.length+e.t.length).sum=((es.map gF.f).map dv).sum+((es.map gF.t).map dv).sum:=fun es=>by
  induction es with
  |nil=>rfl
  |cons a es ih=>simp only[gI,List.sum_cons,ih];omega
 rw[e];omega
theorem Zy {E:List (List gF)} {Ms:List Nat} {j p n:Nat} {tkj tkr:List cH} {of:Nat×Nat→Option Nat} {x:fo} {ps:List Nat} {tr:cH} (h:iW E Ms j (tkj.map dG) of) (hm:tkr.map dG=mE (tkj.map dG++[x]) ps n) (ht:tkr[p]? =some tr) (hp:p<tkj.length):tr.ch.length≤tkj.length+1:=by
 have h1:(tkr.map dG)[p]? =some tr.m:=by rw[aI,ht];rfl
 rw[hm,nB,aV (by rw[ak];exact hp)]at h1
 obtain⟨y,e⟩:=du (l:=tkj.map dG) (n:=p) (by rw[ak];exact hp)
 rw[e]at h1
 have h2:=h.ch p _ e
 have h3:y.ch.length≤tkj.length:=by
  rw[h2];refine Nat.le_trans (List.length_filter_le _ _) ?_;simp
 have h4:tr.ch=(u5 ps n p y).ch:=(congrArg fo.ch (eI h1)).symm
 rw[h4];unfold u5;split
 ·show(_++[n]).length≤_;rw[aJ,bu];omega
 ·omega
theorem Ke (b:Nat) (h:jk) (la:Int) (pm:Option Addr) (cm:Nat) (ys:List oV) (pt:Option Addr) (ct:Nat) (kd:Nat→Int) (tk:List cH) (of:Nat×Nat→Option Nat) (E:List (List gF)) (Ms:List Nat) (n m_:Nat) (l:List db) (pe:Option Addr) (ce:Nat) (yN:oV) (hyN:ys[n+1]? =some yN) (hm_:yN.l.length=m_) (w:World) (hh:Has w (tI b h la pm cm ys pt ct kd tk of)) (hl:tk.length+m_≤900000) (hna:Ms.getD n 0≤1000000) (hE:BiE E Ms n m_ l tk of) (hcap:∀{L:List dg} {v:World},St ⟨w,mG (tI b h la pm cm ys pt ct kd tk of)⟩ L v→RO 3 db.cells v pe l∧∀e,e∈l→RO 1 nC v e.fp e.f∧RO 1 nC v e.tp e.t):
 Calls af 34 #[.pointer (some ⟨b,0,none⟩),.int .i64 ((n+1:Nat):Int),.slice pe l.length ce] w fun e w'=>∃y:BiY,((y.tk.map dG,y.of)=ib (n+1) (l.map dD) (tk.map dG,of) m_∧y.tk.length≤tk.length+m_)∧e= .returned (.tuple #[])∧St ⟨w,mG (tI b h la pm cm ys pt ct kd tk of)⟩ (tI b h la pm cm ys y.pt y.ct kd y.tk y.of) w':=by
 have hyl:n+1<ys.length:=(an.1 hyN).1
 have hgd:=hE.Kf
 have hsl:jR pe l.length:=(hcap hh.enter).1.sm
 have hmm:=hE.m
 have hnn:=hE.n
 have hll:=hgd.Q9
 rw[ak]at hll
 have hnl:Ms.getD n 0≤1000000:=hna
 refine oL (vs:=[_,_,_]) (env:=[(0,_),(1,_),(2,_)]) hh.enter Ab rfl rfl rfl rfl ?_
 refine au (aB rfl<|HO.yG je WA fun b8=>aB rfl<|aW (LO.as (.r rfl))<|aq<|av<|au (ag rfl<|ah (bE Am (.r rfl) rfl) rfl<|ag rfl<|aq ?_))
 refine aD<|bS (α:=Nat) 1 (fun gx=>[(22,.int .i64 (gx:Nat))]) [(0,_),(1,_),(6,_),(20,_),(21,_)] (fun gx=>[jr je WA b8 (L7 (l.take gx))]) (fun gx=>gx≤l.length) (fun gx=>l.length-gx) 0 (by exact aY _) (.c4 rfl rfl rfl rfl (.cons rfl (.cons rfl .nil))) (fun _ h=>h) ?_
 rintro k hk
 refine au (dK rfl<|aq<|av<|ay rfl (fun h23=>?_) (fun h23=>?_))
 ·
  obtain⟨e,hek⟩:=du (l:=l) (n:=k) (by omega)
  have hlft:=hgd.Ot (bw (al hek))
  have hett:e.t.length≤m_:=hlft.2
  rw[←PA (e:=e)]
  refine aE (aj<|av<|aD<|au (ah (bM Am EO hsl (.r rfl) (.r rfl) rfl (by omega)) rfl<|ah (aX (vs:=[_,_,_]) YY (.r rfl) (fun w hw=>aA (off:=0) ((fun w3 h3=>RO.jX (hcap h3).1 hek) w hw) ⟨_,rfl⟩) rfl) rfl<|aB rfl<|cJ (C:=#[_,_,_]) Wz rfl fun b9=>cu<|cq 0 (vs:=[_,_,_]) (C':=[_,_,_]) (L':=[_,_,_,_,_,_,_,_,_]) EO rfl rfl rfl rfl rfl rfl rfl rfl<|aq<|av ?_))
  refine aM (bO (r:=2) yV rfl<|cL 0 iL rfl rfl ⟨_,rfl⟩ rfl<|ah (bE fk (.r rfl) rfl) rfl<|ag rfl<|aq<|aD<|gw [1,0,2,3,4,5,6,7,8] rfl<|bS (α:=Nat) 1 (fun gx=>[(29,.int .i64 (gx:Nat))]) [(0,_),(1,_),(6,_),(8,_),(20,_),(21,_),(22,_),(27,_),(28,_)] (fun gx=>[jr je WA b8 (TK l k e gx)]) (fun gx=>gx≤e.t.length) (fun gx=>e.t.length-gx) 0 (by exact aY _) (.c4 rfl rfl rfl rfl (.c4 rfl rfl rfl rfl (.cons rfl (.cons rfl .nil)))) (fun _ h=>h) ?_)
  rintro i hi
  refine au (dK rfl<|aq<|av<|ay rfl (fun h30=>?_) (fun h30=>?_))
  ·
   obtain⟨jt,hti⟩:=du (l:=e.t) (n:=i) (by omega)
   refine aE (aj<|av<|aD<|au (ah (bM fk N3 ((hcap hh.enter).2 e (al hek)).2.sm (.r rfl) (.r rfl) rfl (by omega)) rfl<|ah (aC O3 (.r rfl) (fun w hw=>aA (off:=0) ((fun w3 h3=>RO.jX ((hcap h3).2 e (al hek)).2 hti) w hw) ⟨_,rfl⟩)) rfl<|ax rfl<|aq<|aM (ag rfl<|ag rfl<|ah (aX (vs:=[_,_,_]) YY (.r rfl) (aF 1 rfl ⟨_,rfl⟩) rfl) rfl<|cu<|HO.MD 0 (fun R=>[R,_,_,_,_,_,_,_,_]) (jt:Int) e Ve (.r rfl) (.r rfl) (.r rfl) rfl (fun _=>rfl)<|aN ?_)))
   rw[NO hti]
   refine bB (aj<|aM (da rfl rfl (by omega) (by omega) rfl<|ag rfl<|aN<|aZ fun a w ha hw=>⟨i+1,(by omega),(by omega),ha.sub (.c4 rfl rfl rfl rfl (.c4 rfl rfl rfl rfl (.cons rfl (.cons rfl .nil)))),hw⟩))
  ·
   refine bU (aH (aH (cB (bB (aj<|aM (da rfl rfl (by omega) (by omega) rfl<|ag rfl<|aN ?_))))))
   have hie:i=e.t.length:=by omega
   subst hie
   rw[NG hek hgd.apart]
   refine aZ fun a w ha hw=>⟨k+1,(by omega),(by omega),ha.sub (.c4 rfl rfl rfl rfl (.cons rfl (.cons rfl .nil))),hw.gY [0,2,3,4,5,6,7,8] rfl⟩
 ·
  have hke:k=l.length:=by omega
  subst hke
  rw[eG]
  refine bU (aH (aH (cB (aj<|au (ag rfl<|ah (cV (.r rfl)) rfl<|bO (r:=8) oW rfl<|cL 1 KD rfl rfl ⟨_,rfl⟩ rfl<|ag rfl<|ah (cy A9 L8 (fun _ hw=>(bL hw 5 rfl).some (by rw[ak])) (.r rfl) (.r rfl) rfl (by omega)) rfl<|bO za rfl<|ah (aC WW (.r rfl) (fun w hw=>aA (off:=5) (cO hw 5 rfl hyN) ⟨_,rfl⟩)) rfl<|ah (bE Ec (.r rfl) rfl) rfl<|ag rfl<|aq<|aD<|gw [1,2,3,4,6,7,0,5] rfl<|bS (α:=Nat×(List cH)×(Option Addr)×Nat×(Nat×Nat→Option Nat)) 6 (fun gx=>[(47,.int .i64 (gx.1:Nat))]) [(0,_),(1,_),(6,_),(46,_)] (fun gx=>[gq b (.cells (uO h la ⟨pm,ys.length,cm⟩ gx.2.2.1 gx.2.1.length gx.2.2.2.1 kd).toArray 85),own 76 6 gx.2.2.1 gx.2.2.2.1 (gx.2.1.map e9),bV (gx.2.1.map gl),jr Ay vZ h.bm (qK gx.2.2.2.2),bV (gx.2.1.map ff),bV (gx.2.1.map ef)]) (fun gx=>gx.1≤m_∧(gx.2.1.map dG,gx.2.2.2.2)=ib (n+1) (l.map dD) (tk.map dG,of) gx.1∧gx.2.1.length≤tk.length+gx.1) (fun gx=>m_-gx.1) (0,tk,pt,ct,of) (by exact⟨aY _,rfl,cg _⟩) (.c4 rfl rfl rfl rfl (.cons rfl .nil)) (fun _ h=>h) ?_)))))
  rintro ⟨j,tkj,ptj,ctj,ofj⟩ ⟨hj,hB,hlj⟩
  show VC _ _ _ _ _ ([(47,.int .i64 (j:Nat))]++_) ([gq b (.cells (uO h la ⟨pm,ys.length,cm⟩ ptj tkj.length ctj kd).toArray 85),own 76 6 ptj ctj (tkj.map e9),bV (tkj.map gl),jr Ay vZ h.bm (qK ofj),bV (tkj.map ff),bV (tkj.map ef)]++_) _ _
  dsimp only at hj hB hlj
  refine au (dK rfl<|aq<|av<|ay rfl (fun h48=>?_) (fun h48=>?_))
  ·
   refine aE (aj<|av<|aD<|au (ag rfl<|ax rfl<|aq<|av ?_))
   refine aM (ag rfl<|ag rfl<|ah (LO.Mu (n:=(j:Int)) Ve (.r rfl) (.r rfl) (fun _ hw=>St.inv hw 6 _ rfl)) rfl<|aB rfl<|cJ (C:=#[_,_,_]) Wz rfl fun b11=>cu<|cq 0 (vs:=[_,_,_]) (C':=[_,_,_]) (L':=[_,_,_,_,_,_,_,_,_]) EO rfl rfl rfl rfl rfl rfl rfl rfl<|aN ?_)
   obtain⟨eJ,heJ_⟩:∃x,x=(L7 l (j:Int)).getD db.z:=⟨_,rfl⟩
   rw[←heJ_]
   have heJ:eJ∈l:=by rw[heJ_];obtain⟨e,h1,h2⟩:=hgd.Zm j (by omega);obtain⟨e2,h3,rfl⟩:=bN.1 h1;exact WH ⟨e2,h3,h2⟩
   have hbJ:zE (l.map dD) j=eJ.m:=by rw[heJ_];exact VN.symm
   have hQ:=hE.at (by omega) hB
   have hlf:=hgd.Ot (bw heJ)
   have hef2:eJ.f.length≤Ms.getD n 0:=hlf.1
   refine aj<|aD<|au (ag rfl<|ah (LO.eq (.r rfl) (.r rfl)) rfl<|ax rfl<|aq<|ay rfl (fun h53=>?_) (fun h53=>?_))
   · (exfalso;omega)
   ·
    refine au (bO (r:=0) wY rfl<|cL 0 O3 rfl rfl ⟨_,rfl⟩ rfl<|VO.u rfl<|ax rfl<|aq<|ay rfl (fun h60=>?_) (fun h60=>?_))
    ·
     have hnew:pM (n+1) (l.map dD) j=true:=decide_eq_true (.inr (by rw[hbJ];exact h60))
     obtain⟨htot,hpn,hpm⟩:=hQ.parents (e:=eJ.m) hE.len (by rw[hE.ev,hE.at_];exact hgd) (by rw[hE.ev];exact bw heJ) h60
     refine au (ax rfl<|aq<|av<|au (bO (r:=1) yW rfl<|cL 0 iL rfl rfl ⟨_,rfl⟩ rfl<|ah (bE fk (.r rfl) rfl) rfl<|ag rfl<|aq ?_))
     refine aD<|bS (α:=Nat×(List Nat)×(Option Addr)×Nat) 0 (fun gx=>[(13,.slice gx.2.2.1 gx.2.1.length gx.2.2.2),(67,.int .i64 (gx.1:Nat))]) [(0,_),(1,_),(6,_),(11,_),(12,_),(46,_),(47,_),(65,_),(66,_)] (fun gx=>[own 3 1 gx.2.2.1 gx.2.2.2 (gx.2.1.map nC)]) (fun gx=>gx.1≤eJ.f.length∧gx.2.1=(eJ.f.take gx.1).map fun x_=>(ofj (n,x_)).getD 0) (fun gx=>eJ.f.length-gx.1) (0,[],none,0) (by exact⟨aY _,rfl⟩) (.c4 rfl rfl rfl rfl (.c4 rfl rfl rfl rfl (.cons rfl (.cons rfl (.cons rfl .nil))))) (fun _ h=>(h.fX 3 1)) ?_
     rintro ⟨i,pl,pp,pc⟩ ⟨hi,hpl⟩
     show VC _ _ _ _ _ ([(13,.slice pp pl.length pc),(67,.int .i64 (i:Nat))]++_) ([own 3 1 pp pc (pl.map nC)]++_) _ _
     dsimp only at hi hpl
     have hpll:pl.length≤i:=by rw[hpl,ak,eU];omega
     refine au (dK rfl<|aq<|av<|ay rfl (fun h68=>?_) (fun h68=>?_))
     ·
      obtain⟨ai,hai⟩:=du (l:=eJ.f) (n:=i) (by omega)
      obtain⟨k0,hk0,hk0l⟩:=htot ai (al hai)
      refine aE (aj<|av<|aD<|au (ah (bM fk N3 ((hcap hh.enter).2 eJ heJ).1.sm (.r rfl) (.r rfl) rfl (by omega)) rfl<|ah (aC O3 (.r rfl) (fun w hw=>aA (off:=0) ((fun w3 h3=>RO.jX ((hcap h3).2 eJ heJ).1 hai) w hw) ⟨_,rfl⟩)) rfl<|ax rfl<|aq<|aM (ag rfl<|ag rfl<|ah (cV (.r rfl)) rfl<|bO (r:=10) tO rfl<|cL 2 SA rfl rfl ⟨_,rfl⟩ rfl<|ag rfl<|ah (eN (LO.sub (.r rfl) (.r rfl) (wi (by omega) (by omega))) (congrArg (cX .i64) (show((n+1:Nat):Int)-1=(n:Int) by omega))) rfl<|ag rfl<|ah (fA (ps:=[(_,_),(_,_)]) (vs:=[(_,_),(_,_)]) (C:=[_,_]) Vi ⟨(.r rfl),(.r rfl),trivial⟩ rfl ⟨_,[_],[_,_],rfl,rfl,rfl,rfl,⟨_,[_],[_,_],rfl,rfl,rfl,rfl,rfl⟩⟩) rfl<|ah (eN (v':=.int .i64 (k0:Int)) (LO.Mu (n:=((n:Int),(ai:Int))) XF (.r rfl) (.r rfl) (fun _ hw=>St.inv hw 5 _ rfl)) (by rw[va,hk0];rfl)) rfl<|aB rfl<|eW (ps:=[(_,_)]) (vs:=[(_,_)]) (Z:=[_]) (C:=[_]) fk Z3 N3 ⟨(.r rfl),trivial⟩ rfl rfl rfl rfl ⟨_,[_],[_],rfl,rfl,rfl,rfl,rfl⟩ fun b14=>aB rfl<|eP (k0) 1 0 (fun R=>[_,R,_,_,_,_,_,_,_,_,_]) fk fk I3 (.r rfl) (.r rfl) rfl rfl rfl rfl rfl rfl rfl (fun _=>rfl) rfl (by omega) fun p11 c11=>aB rfl<|aW (LO.as (.r rfl))<|aN ?_)))
      refine bB (aj<|aM (da rfl rfl (by omega) (by omega) rfl<|ag rfl<|aN<|aZ fun a w ha hw=>⟨(i+1,pl++[k0],p11,c11),⟨by dsimp only;omega,by dsimp only;rw[List.take_add_one,hai,bG, ←hpl];show _=pl++[(ofj (n,ai)).getD 0];rw[hk0];rfl⟩,(by dsimp only;omega),ha.sub (.c4 rfl rfl rfl rfl (.c4 rfl rfl rfl rfl (.cons rfl (.cons rfl (.cons rfl .nil))))),hw.gY [1,2,3,4,5,6,7,8,9,10] rfl⟩))
     ·
      have hie:i=eJ.f.length:=by omega
      subst hie
      rw[eG]at hpl
      obtain⟨ps,hps⟩:∃x,x=CV (tkj.map dG) (n+1) eJ.f:=⟨_,rfl⟩
      have hsort:sz pl=ps:=by rw[hps,hpl];exact DW yI hpn hpm
      have hlen:pl.length=ps.length:=by rw[←hsort,A1]
      have hpsn:ps.Nodup:=by rw[hps];exact yI.imp fun z=>jc z
      refine bU (aH (aH (cB (aj<|au (ag rfl<|aB rfl<|HO.TE (first:=[]) (cap:=[]) (xs:=[_]) (vs:=[_]) 0 (fun R=>[R,_,_,_,_,_,_,_,_,_]) rfl (.r rfl) C68 ⟨(.r rfl),trivial⟩ (fun _=>rfl) (fun w hw=>I8 0 hw rfl (by omega)) fun _u _=>aN ?_)))))
      rw[hsort,hlen]
      refine aj<|au (ag rfl<|bO (r:=0) wY rfl<|cL 1 O3 rfl rfl ⟨_,rfl⟩ rfl<|ag rfl<|ag rfl<|ah (fA (ps:=[(_,_),(_,_)]) (vs:=[(_,_),(_,_)]) (C:=[_,_]) Vi ⟨(.r rfl),(.r rfl),trivial⟩ rfl ⟨_,[_],[_,_],rfl,rfl,rfl,rfl,⟨_,[_],[_,_],rfl,rfl,rfl,rfl,rfl⟩⟩) rfl<|ag rfl<|aB rfl<|HO.oU (first:=[]) (cap:=[]) (xs:=[_,_,_,_]) (vs:=[_,_,_,_]) [_,_,_,_] [_,_,_,_,_,_] (dq (L1:=[_,_,_,_]++[_,_,_,_,_,_]) [2,3,4,5,0,1,6,7,8,9] rfl rfl) (.r rfl) C67 ⟨(.r rfl),(.r rfl),(.r rfl),(.r rfl),trivial⟩ (fun w hw hh=>I2 b h la ⟨pm,ys.length,cm⟩ ptj ctj kd tkj ofj eJ.kd (n+1) j pp pc ps w hh (by omega)) fun yb _=>aB rfl<|aW (LO.as (.r rfl))<|aq<|av<|VC.res (L':=bV (tkj.map ef++[ef (o7 eJ.kd (n+1) j yb.ap yb.ac pp pc ps)])::[_,_,_,_,_,_,_,_,_]) (fun w hw=>kC (r:=ef (o7 eJ.kd (n+1) j yb.ap yb.ac pp pc ps)) (dq (L1:=ef (o7 eJ.kd (n+1) j yb.ap yb.ac pp pc ps)::bV (tkj.map ef)::[_,_,_,_,_,_,_,_,_]) [0,8,1,2,3,4,5,6,7,9,10] rfl rfl _ (hw.fX 3 1))) ?_)
      rw[show tkj.map ef++[ef (o7 eJ.kd (n+1) j yb.ap yb.ac pp pc ps)]=(tkj++[(o7 eJ.kd (n+1) j yb.ap yb.ac pp pc ps)]).map ef by rw[bG];rfl]
      refine aM (ag rfl<|ah (bE fk (.r rfl) rfl) rfl<|ag rfl<|aq<|aD<|gw [2,0,1,3,4,5,6,7,8,9] rfl<|bS (α:=Nat×(List cH)) 2 (fun gx=>[(96,.int .i64 (gx.1:Nat))]) [(0,_),(1,_),(6,_),(16,_),(46,_),(47,_),(94,_),(95,_)] (fun gx=>[own 76 6 yb.pt yb.ct (gx.2.map e9),bV (gx.2.map ef)]) (fun gx=>gx.1≤ps.length∧gx.2.length=(tkj++[(o7 eJ.kd (n+1) j yb.ap yb.ac pp pc ps)]).length∧gx.2.map gl=(tkj++[(o7 eJ.kd (n+1) j yb.ap yb.ac pp pc ps)]).map gl∧gx.2.map ff=(tkj++[(o7 eJ.kd (n+1) j yb.ap yb.ac pp pc ps)]).map ff∧gx.2.map dG=mE (tkj.map dG++[dG (o7 eJ.kd (n+1) j yb.ap yb.ac pp pc ps)]) (ps.take gx.1) tkj.length) (fun gx=>ps.length-gx.1) (0,(tkj++[(o7 eJ.kd (n+1) j yb.ap yb.ac pp pc ps)])) (by exact⟨aY _,rfl,rfl,rfl,by rw[List.take_zero,Bn,bG];rfl⟩) (.c4 rfl rfl rfl rfl (.c4 rfl rfl rfl rfl (.cons rfl .nil))) (fun _ h=>h) ?_)
      rintro ⟨r,tkr⟩ ⟨hr,hlr,haR,hpR,hmr⟩
      show VC _ _ _ _ _ ([(96,.int .i64 (r:Nat))]++_) ([own 76 6 yb.pt yb.ct (tkr.map e9),bV (tkr.map ef)]++_) _ _
      dsimp only at hr hlr haR hpR hmr
      have hlr2:=hlr
      rw[aJ,bu]at hlr2
      refine au (dK rfl<|aq<|av<|ay rfl (fun h97=>?_) (fun h97=>?_))
      ·
       obtain⟨p,hpr⟩:=du (l:=ps) (n:=r) (by omega)
       have hptj:p<tkj.length:=by have z:=al hpr;rw[hps]at z;have y:=a8.1 (List.mem_filter.1 z).1;rwa [ak]at y
       have hptr:p<tkr.length:=by omega
       obtain⟨tr,htr⟩:=du (l:=tkr) (n:=p) hptr
       have hchl:tr.ch.length≤tkj.length+1:=Zy hQ hmr htr hptj
       refine aE (aj<|av<|aD<|au (ah (cy fk N3 (fun _ hw=>(bL hw 5 rfl).some (by rw[ak])) (.r rfl) (.r rfl) rfl (by omega)) rfl<|ah (aC O3 (.r rfl) (fun w hw=>aA (off:=0) (cO hw 5 rfl hpr) ⟨_,rfl⟩)) rfl<|ax rfl<|aq<|VC.res (L':=ef tr::bV ((tkr.eraseIdx p).map ef)::[_,_,_,_,_,_,_,_,_]) (fun w hw=>St.rh (f:=ef) (dq [1,0,2,3,4,5,6,7,8,9] rfl rfl w hw) htr) ?_))
       show VC _ _ _ _ _ _ (own 3 1 tr.cp tr.cc (tr.ch.map nC)::_) _ _
       refine eC [[0,1,2,3,4,5,6,7,8,9,10],[0,1,2,3,4,5,6,7,8,9,10],[1,2,3,4,5,6,7,8,9,10],[1,3,4,5,6,7,8,9,10]] [some 2,some 2,some 2,some 2,some 2,some 1,some 1,some 1,some 1,some 1,some 1,some 1,some 1,some 0,none,none,some 2,some 2,none] mixed (by kernel_rfl) rfl (cT rfl<|aG (fun _ hJ=>cV (.r rfl)) rfl<|aG (fun _ hJ=>aP (r:=9) pK (.r rfl) rfl) rfl<|aG (fun _ hJ=>aC K5 (.r rfl) (fun _ hw=>cN (hJ _ hw) 2 rfl ⟨_,rfl⟩)) rfl<|cT rfl<|cT rfl<|aG (fun _ hJ=>cV (.r rfl)) rfl<|aG (fun _ hJ=>aP (r:=9) pK (.r rfl) rfl) rfl<|aG (fun _ hJ=>aC K5 (.r rfl) (fun _ hw=>cN (hJ _ hw) 3 rfl ⟨_,rfl⟩)) rfl<|cT rfl<|aG (fun _ hJ=>cy tY vU (fun _ hw=>(bL (hJ _ hw) 2 rfl).some (by rw[ak];omega)) (.r rfl) (.r rfl) rfl (by omega)) rfl<|aG (fun _ hJ=>aP AQ (.r rfl) rfl) rfl<|aG (fun _ hJ=>aC iL (.r rfl) (fun w hw=>aA (off:=5) (cO (hJ _ hw) 2 rfl htr) ⟨_,rfl⟩)) rfl<|cT rfl<|dC<|dC<|aG (fun _ hJ=>cy tY vU (fun _ hw=>(bL (hJ _ hw) 1 rfl).some (by rw[ak];omega)) (.r rfl) (.r rfl) rfl (by omega)) rfl<|aG (fun _ hJ=>aP AQ (.r rfl) rfl) rfl<|dC<|fj) (az<|az<|az<|az<|az<|az<|az<|az<|az<|az<|az<|az<|az<|az<|ga rfl<|eW (ps:=[(_,_)]) (vs:=[(_,_)]) (Z:=[_]) (C:=[_]) fk Z3 N3 ⟨(.r rfl),trivial⟩ rfl rfl rfl rfl ⟨_,[_],[_],rfl,rfl,rfl,rfl,rfl⟩ fun b22=>⟨kJ (L1:=[_,_,_,_,_,_,_,_,_,_,_]) [1,2,3,4,5,6,7,8,9,10,11] rfl rfl rfl,ga rfl<|eP (tkj.length) 1 0 (fun R=>[_,R,_,_,_,_,_,_,_,_,_,_]) fk fk I3 (.r rfl) (.r rfl) rfl rfl rfl rfl rfl rfl rfl (fun _=>rfl) rfl (by omega) fun p15 c15=>⟨kJ (L1:=[_,_,_,_,_,_,_,_,_,_]) [2,3,4,5,6,7,8,9,10,11] rfl rfl rfl,az<|az<|hX<|HO.Qv 3 (fun R=>[_,_,_,R,_,_,_,_,_,_,_,_]) (o:=5) (vs:=[_]) qL (.r rfl) (.r rfl) rfl (oZ htr) rfl rfl (Nat.le_of_ble_eq_true rfl) rfl (fun _=>rfl)<|⟨kJ (L1:=[_,_,_,_,_,_,_,_,_]) [2,4,5,6,7,8,9,10,11] rfl rfl rfl,fB ?_⟩⟩⟩)
       rw[Ir]
       refine bB (aj<|aM (da rfl rfl (by omega) (by omega) rfl<|ag rfl<|aN<|aZ fun a w ha hw=>⟨(r+1,tkr.set p { tr with cp:=p15,cc:=c15,ch:=tr.ch++[tkj.length] }),⟨by dsimp only;omega,by dsimp only;rw[List.length_set];exact hlr,(iK (t':={ tr with cp:=p15,cc:=c15,ch:=tr.ch++[tkj.length] }) htr rfl).trans haR,(iK (t':={ tr with cp:=p15,cc:=c15,ch:=tr.ch++[tkj.length] }) htr rfl).trans hpR,(sN (g:=dG) (t':={ tr with cp:=p15,cc:=c15,ch:=tr.ch++[tkj.length] }) (f:=fun t=>{ t with ch:=t.ch++[tkj.length] }) htr rfl).trans (by rw[hmr];exact Fk hpr hpsn)⟩,(by dsimp only;omega),ha.sub (.c4 rfl rfl rfl rfl (.c4 rfl rfl rfl rfl (.cons rfl .nil))),(by exact dq (L1:=[_,_,_,_,_,_,_,_,_,_]) [1,0,2,3,4,5,6,7,8,9] rfl rfl _ (St.nK (f:=ef) (a:={ tr with cp:=p15,cc:=c15,ch:=tr.ch++[tkj.length] }) (i:=p) (dq (L1:=ef ({ tr with cp:=p15,cc:=c15,ch:=tr.ch++[tkj.length] })::[_,_,_,_,_,_,_,_,_,_]) [1,2,3,4,5,6,7,8,9,10,11] rfl rfl _ hw) hptr))⟩))
      ·
       have hre:r=ps.length:=by omega
       subst hre
       rw[eG]at hmr
       have hB2:=By (tk':=tkr.map dG) hB hnew (ps:=ps) (by unfold sw;rw[if_neg (by omega),hbJ,hps];rfl) (by rw[hmr,ak];congr 2;unfold Yg;rw[if_neg (by omega),hbJ];rfl)
       rw[ak]at hB2
       refine bU (aH (aH (cB (bB (bB (aj<|aM (da rfl rfl (by omega) (by omega) rfl<|ag rfl<|aN<|aZ fun a w ha hw=>⟨(j+1,tkr,yb.pt,yb.ct,kB ofj (n+1,j) tkj.length),⟨by dsimp only;omega,hB2,by dsimp only;omega⟩,(by dsimp only;omega),ha.sub (.c4 rfl rfl rfl rfl (.cons rfl .nil)),(by dsimp only;rw[hlr,haR,hpR,bG (f:=ff)];exact dq (L1:=[_,_,_,_,_,_,_,_]) [1,2,3,4,0,5,6,7] rfl rfl _ (kC (r:=ff (o7 eJ.kd (n+1) j yb.ap yb.ac pp pc ps)) (dq (L1:=ff (o7 eJ.kd (n+1) j yb.ap yb.ac pp pc ps)::bV (tkj.map ff)::[_,_,_,_,_,_,_]) [5,7,2,0,3,4,1,8,9] rfl rfl _ hw)))⟩)))))))
    ·
     have hold:¬pM (n+1) (l.map dD) j=true:=by have z:eJ.m.kd=4:=eK.1 h60;unfold pM;rw[hbJ];simp [z]
     refine aE (bB (bB (aj<|aM (da rfl rfl (by omega) (by omega) rfl<|ag rfl<|aN<|aZ fun a w ha hw=>⟨(j+1,tkj,ptj,ctj,ofj),⟨by dsimp only;omega,KE hB hold,by dsimp only;omega⟩,(by dsimp only;omega),ha.sub (.c4 rfl rfl rfl rfl (.cons rfl .nil)),(by exact dq (L1:=[_,_,_,_,_,_,_,_]) [1,2,3,4,5,6,7,8] rfl rfl _ hw)⟩))))
  ·
   refine bU (aH (aH (cB (VE.D5 (vs:=[]) rfl trivial (fun w hw=>?_)))))
   have hje:j=m_:=by omega
   subst hje
   exact⟨⟨tkj,ptj,ctj,ofj⟩,⟨hB,hlj⟩,rfl,dq [0,1,2,3,7,4,5] rfl rfl _ hw⟩
theorem R0:fh af 27:=⟨_,Tryz.func27,by decide,rfl⟩
theorem Nl:cP af 85 0 0:=⟨_,_,iE,rfl,rfl,4,by kernel_rfl⟩
theorem DB:cP af 85 3 7:=⟨_,_,iE,rfl,rfl,0,by kernel_rfl⟩
def kH (h:jk) (la:Int) (nm:Nat) (time:Int) (g:eo) (vs:List Span):Int:=
 if eY 1073741824 ⟨g,vs⟩≠0 then eY 1073741824 ⟨g,vs⟩ else if ¬qj g=qj h.g then 11 else if time<0∨4294967296<time then 3 else if time≤la then 17 else if nm=48 then 13 else 0
section
variable {h:jk} {la time:Int} {nm:Nat} {g:eo} {vs:List Span}
theorem Qo (k:eY 1073741824 ⟨g,vs⟩≠0):eY 1073741824 ⟨g,vs⟩=kH h la nm time g vs:=(if_pos k).symm
theorem Qq (k:¬eY 1073741824 ⟨g,vs⟩≠0) (j:¬[g.x,g.y,g.size,g.wide,g.high]=[h.g.x,h.g.y,h.g.size,h.g.wide,h.g.high]):11=kH h la nm time g vs:=by unfold kH qj;rw[if_neg k,if_pos j]
theorem Qs (k:¬eY 1073741824 ⟨g,vs⟩≠0) (j:¬¬[g.x,g.y,g.size,g.wide,g.high]=[h.g.x,h.g.y,h.g.size,h.g.wide,h.g.high]) (i:time<0∨4294967296<time):3=kH h la nm time g vs:=by unfold kH qj;rw[if_neg k,if_neg j,if_pos i]
theorem Qm (k:¬eY 1073741824 ⟨g,vs⟩≠0) (j:¬¬[g.x,g.y,g.size,g.wide,g.high]=[h.g.x,h.g.y,h.g.size,h.g.wide,h.g.high]) (i:¬(time<0∨4294967296<time)) (l:time≤la):17=kH h la nm time g vs:=by unfold kH qj;rw[if_neg k,if_neg j,if_neg i,if_pos l]
theorem Zv (k:¬eY 1073741824 ⟨g,vs⟩≠0) (j:¬¬[g.x,g.y,g.size,g.wide,g.high]=[h.g.x,h.g.y,h.g.size,h.g.wide,h.g.high]) (i:¬(time<0∨4294967296<time)) (l:¬time≤la) (m:nm=48):13=kH h la nm time g vs:=by unfold kH qj;rw[if_neg k,if_neg j,if_neg i,if_neg l,if_pos m]
theorem ad6 (k:¬eY 1073741824 ⟨g,vs⟩≠0) (j:¬¬[g.x,g.y,g.size,g.wide,g.high]=[h.g.x,h.g.y,h.g.size,h.g.wide,h.g.high]) (i:¬(time<0∨4294967296<time)) (l:¬time≤la) (m:¬nm=48):kH h la nm time g vs=0:=by unfold kH qj;rw[if_neg k,if_neg j,if_neg i,if_neg l,if_neg m]
theorem El (k:kH h la nm time g vs=0):eY 1073741824 ⟨g,vs⟩=0∧g=h.g∧0≤time∧time≤4294967296∧la<time∧nm≠48:=by
 unfold kH at k
 split at k
 ·rename_i q;exact absurd k q
 ·rename_i q
  split at k
  ·omega
  ·rename_i s
   split at k
   ·omega
   ·split at k
    ·omega
    ·split at k
     ·omega
     ·refine⟨eK.1 q,?_,by omega,by omega,by omega,by omega⟩
      have e:=eK.1 s
      obtain⟨hg,_,_,_⟩:=h
      cases g;cases hg
      simp only[qj,List.cons.injEq]at e
      obtain⟨rfl,rfl,rfl,rfl,rfl,_⟩:=e
      rfl
end
theorem TR (b:Nat) (h:jk) (la:Int) (q:B1) (pt:Option Addr) (nt ct:Nat) (kd:Nat→Int) (time:Int) (g:eo) (vs:List Span) (pv:Option Addr) (cv:Nat) (w:World) (hb:fG w ⟨b,0,none⟩ (uO h la q pt nt ct kd)) (hv:fL w pv vs) (hne:kH h la q.nm time g vs≠0):
 Calls af 8 #[.pointer (some ⟨b,0,none⟩),.int .i64 time,im g pv vs.length cv] w fun e w'=>e= .returned (.tuple #[.slice none 0 0,.int .i64 (kH h la q.nm time g vs)])∧St (bs w) [] w':=by
 refine enter (vs:=[_,_,_]) (env:=[(0,_),(1,_),(2,_)]) wN rfl rfl rfl rfl ?_
 refine au (aB rfl<|HO.box (C:=#[_,_,_,_,_,_]) rfl rfl fun b1=>ax rfl<|ax rfl<|aq<|av<|au (ag rfl<|ah (bK (xs:=[_]) (vs:=[_]) R0 ⟨(.r rfl),trivial⟩ (fun w2 hw=>o6 b h la q pt nt ct kd w2 (bj hb w2 hw))) rfl<|ah (LO.not (.r rfl)) rfl<|aq ?_))
 refine ay rfl (fun h15=>?_) (fun h15=>?_)
 · (exfalso;exact h15 rfl)
 ·
  refine aE (aj<|av<|au (ah (aX (vs:=[_,_,_,_,_,_]) oy (.r rfl) (aF 0 rfl ⟨_,rfl⟩) rfl) rfl<|ah (bK (xs:=[_]) (vs:=[_]) V6 ⟨(.r rfl),trivial⟩ (fun w hw=>kA ⟨g,vs⟩ pv cv w (hv.b0 w hw))) rfl<|ax rfl<|aq<|au (ag rfl<|VO.u rfl<|aN ?_)))
  refine aj<|ay rfl (fun h19=>?_) (fun h19=>?_)
  ·
   refine au (ag rfl<|ax rfl<|ax rfl<|aq<|be (bA (dh (vs:=[_,_]) rfl ⟨rfl,rfl,trivial⟩ (fun w hw=>?_))))
   refine⟨?_,hw.nil⟩
   refine congrArg (fun z=>bT (.tuple #[.slice none 0 0,.int .i64 z])) ?_
   first |exact Qo h19|exact Qq h19 h26|exact Qs h19 h26 h34|exact Qm h19 h26 h34 h41|exact Zv h19 h26 h34 h41 (by omega)
  ·
   refine aE (aj<|au (ag rfl<|ah (cV (.r rfl)) rfl<|bO (r:=8) oW rfl<|ah (aC KD (.r rfl) (bj (bI (off:=8) hb ⟨_,rfl⟩))) rfl<|ah (bE A9 (.r rfl) rfl) rfl<|ax rfl<|aq<|av<|aD<|av ?_))
   refine gj mixed (bl (aP (r:=0) lO (.r rfl) rfl) rfl<|bl (aX (vs:=[_,_,_,_,_]) qw (.r rfl) (aF 0 rfl ⟨_,rfl⟩) rfl) rfl<|eT rfl<|bl (cV (.r rfl)) rfl<|bl (aP (r:=0) Nl (.r rfl) rfl) rfl<|bl (aX (vs:=[_,_,_,_,_]) qw (.r rfl) (bj (bI (off:=0) hb ⟨_,rfl⟩)) rfl) rfl<|bl (LO.Qr («as» :=[_,_,_,_,_]) (bs:=[_,_,_,_,_]) J5 (.r rfl) (.r rfl) rfl rfl) rfl<|bl (LO.as (.r rfl)) rfl<|gy) (by kernel_rfl)<|aj<|ay rfl (fun h26=>?_) (fun h26=>?_)
   ·
    refine au (ax rfl<|ax rfl<|aq<|be (dA (bA (dh (vs:=[_,_]) rfl ⟨rfl,rfl,trivial⟩ (fun w hw=>?_)))))
    refine⟨?_,hw.nil⟩
    refine congrArg (fun z=>bT (.tuple #[.slice none 0 0,.int .i64 z])) ?_
    first |exact Qo h19|exact Qq h19 h26|exact Qs h19 h26 h34|exact Qm h19 h26 h34 h41|exact Zv h19 h26 h34 h41 (by omega)
   ·
    refine au (ag rfl<|dK rfl<|ag rfl<|aK rfl (fun hg=>LO.mv (.r rfl))<|aK rfl (fun hg=>LO.gt (.g hg rfl) (.r rfl))<|ah (LO.jZ (.r rfl) (.r rfl) rfl rfl) rfl<|ax rfl<|aq<|ay rfl (fun h34=>?_) (fun h34=>?_))
    ·
     refine au (ax rfl<|ax rfl<|aq<|be (dA (bA (dh (vs:=[_,_]) rfl ⟨rfl,rfl,trivial⟩ (fun w hw=>?_)))))
     refine⟨?_,hw.nil⟩
     refine congrArg (fun z=>bT (.tuple #[.slice none 0 0,.int .i64 z])) ?_
     first |exact Qo h19|exact Qq h19 h26|exact Qs h19 h26 h34|exact Qm h19 h26 h34 h41|exact Zv h19 h26 h34 h41 (by omega)
    ·
     refine au (ag rfl<|ag rfl<|ah (cV (.r rfl)) rfl<|bO (r:=7) DB rfl<|ah (aC O3 (.r rfl) (bj (bI (off:=7) hb ⟨_,rfl⟩))) rfl<|ah (LO.le (.r rfl) (.r rfl)) rfl<|ax rfl<|aq<|ay rfl (fun h41=>?_) (fun h41=>?_))
     ·
      refine au (ax rfl<|ax rfl<|aq<|be (dA (bA (dh (vs:=[_,_]) rfl ⟨rfl,rfl,trivial⟩ (fun w hw=>?_)))))
      refine⟨?_,hw.nil⟩
      refine congrArg (fun z=>bT (.tuple #[.slice none 0 0,.int .i64 z])) ?_
      first |exact Qo h19|exact Qq h19 h26|exact Qs h19 h26 h34|exact Qm h19 h26 h34 h41|exact Zv h19 h26 h34 h41 (by omega)
     ·
      refine au (ag rfl<|ah (LO.eq (.r rfl) (.r rfl)) rfl<|ax rfl<|aq<|ay rfl (fun h48=>?_) (fun h48=>?_))
      ·
       refine au (ax rfl<|ax rfl<|aq<|be (dA (bA (dh (vs:=[_,_]) rfl ⟨rfl,rfl,trivial⟩ (fun w hw=>?_)))))
       refine⟨?_,hw.nil⟩
       refine congrArg (fun z=>bT (.tuple #[.slice none 0 0,.int .i64 z])) ?_
       first |exact Qo h19|exact Qq h19 h26|exact Qs h19 h26 h34|exact Qm h19 h26 h34 h41|exact Zv h19 h26 h34 h41 (by omega)
      · (exfalso;exact hne (ad6 h19 h26 h34 h41 (fun z=>h48 (by omega))))
theorem T9:cP af 85 1 5:=⟨_,_,iE,rfl,rfl,0,by kernel_rfl⟩
theorem I92:j6 af 92 7 88 (.agg #[.int .i64 0,.int .i64 0,.int .i64 0,.int .i64 0,.int .i64 0,.slice none 0 0,.slice none 0 0]):=⟨by kernel_rfl,by kernel_rfl,by unfold dr;kernel_rfl,rfl,by decide⟩
theorem N82:(af.info? 82).map (·.size)=some 1:=by kernel_rfl
theorem C34:fh af 34:=⟨_,Ab,by decide,rfl⟩
theorem RO.qu {α:Type} {z E:Nat} {f:α→List Value} {γ:Type} {P:γ→Option Addr} {C:γ→Nat} {X:γ→List α} {l:List γ} {w:World} {β:Bs} {L:List dg} (hw:St β L w) (i:Nat) (hi:L[i]? =some (bV (l.map fun x=>own E z (P x) (C x) ((X x).map f)))) {x:γ} (hx:x∈l):RO z f w (P x) (X x):=
 gG ((hw.inv i _ hi).1 _ (bw (f:=fun x=>own E z (P x) (C x) ((X x).map f)) hx))
structure AdY where
 yN:oV
 ev:qv
 pm:Option Addr
 cm:Nat
 pt:Option Addr
 ct:Nat
 kd:Nat→Int
 tk:List cH
 of:Nat×Nat→Option Nat
def x9 (kd:Nat→Int) (es:List gF):Nat→Int:=es.foldl (fun kd e=>KR kd e.kd.toNat) kd
theorem Sf {kd:Nat→Int} {es:List gF} {e:gF}:x9 kd (es++[e])=KR (x9 kd es) e.kd.toNat:=by unfold x9;rw[List.foldl_append];rfl
theorem FU:∀{es:List gF} {kd:Nat→Int} {B:Int},(∀j,0≤kd j∧kd j≤B)→∀j,0≤x9 kd es j∧x9 kd es j≤B+es.length
 |[],kd,B,h,j=>⟨(h j).1,by have:=(h j).2;show kd j≤B+((0:Nat):Int);omega⟩
 |e::es,kd,B,h,j=>by
  have:=FU (es:=es) (kd:=KR kd e.kd.toNat) (B:=B+1) (fun j=>by have:=h j;unfold KR;split<;>omega) j
  show 0≤x9 (KR kd e.kd.toNat) es j∧x9 (KR kd e.kd.toNat) es j≤_
  rw[dX]
  push_cast
  omega
theorem TF (b:Nat) (h:jk) (la:Int) (pm:Option Addr) (cm:Nat) (pt:Option Addr) (ct:Nat) (kd:Nat→Int) (tk:List cH) (of:Nat×Nat→Option Nat) (time:Int) (vs:List Span) (pv:Option Addr) (cv:Nat) (w:World) (hh:Has w (tI b h la pm cm [] pt ct kd tk of)) (hvv:∀{L:List dg} {v:World},St ⟨w,mG (tI b h la pm cm [] pt ct kd tk of)⟩ L v→fL v pv vs) (hok:kH h la 0 time h.g vs=0) (hlv:1≤h.lv∧h.lv≤1073741824) (hl:tk.length≤800000):
 Calls af 8 #[.pointer (some ⟨b,0,none⟩),.int .i64 time,.agg #[.int .i64 h.g.x,.int .i64 h.g.y,.int .i64 h.g.size,.int .i64 h.g.wide,.int .i64 h.g.high,.slice pv vs.length cv]] w fun e w'=>∃y:AdY,(AR (gW h.g) (gH h.g) vs h.lv y.yN∧(y.tk.map dG,y.of)=ib 0 [] (tk.map dG,of) y.yN.l.length∧y.tk.length≤tk.length+y.yN.l.length)∧e= .returned (.tuple #[.slice none 0 0,.int .i64 0])∧St ⟨w,mG (tI b h la pm cm [] pt ct kd tk of)⟩ (tI b h time y.pm y.cm [y.yN] y.pt y.ct kd y.tk y.of++y.yN.R (mH (gW h.g) (gH h.g) (et vs h.lv))) w':=by
 obtain⟨hfd,_,ht0,ht1,hla,hn48⟩:=El hok
 obtain⟨hg,hlen,hsk,_,_⟩:=oO (lT (lv:=h.lv) hfd hlv.1 hlv.2)
 have har:=iM hg
 have hv:=hvv hh.enter
 refine oL (vs:=[_,_,_]) (env:=[(0,_),(1,_),(2,_)]) hh.enter wN rfl rfl rfl rfl ?_
 refine au (aB rfl<|HO.box (C:=#[_,_,_,_,_,_]) rfl rfl fun b8=>ax rfl<|ax rfl<|aq<|av<|au (ag rfl<|ah (bK (xs:=[_]) (vs:=[_]) R0 ⟨(.r rfl),trivial⟩ (fun w2 hw=>o6 b h la ⟨pm,0,cm⟩ pt tk.length ct kd w2 (dQ (hw.inv 1 _ rfl)))) rfl<|ah (LO.not (.r rfl)) rfl<|aq ?_))
 refine ay rfl (fun h15=>?_) (fun h15=>?_)
 · (exfalso;exact h15 rfl)
 ·
  refine aE (aj<|av<|au (ah (aX (vs:=[_,_,_,_,_,_]) oy (.r rfl) (aF 0 rfl ⟨_,rfl⟩) rfl) rfl<|ah (bK (xs:=[_]) (vs:=[_]) V6 ⟨(.r rfl),trivial⟩ (fun w2 hw=>kA ⟨h.g,vs⟩ pv cv w2 (hvv hw))) rfl<|ax rfl<|aq<|au (ag rfl<|VO.u rfl<|aN ?_)))
  refine aj<|ay rfl (fun h19=>?_) (fun h19=>?_)
  · (exfalso;exact h19 hfd)
  ·
   refine aE (aj<|au (ag rfl<|ah (cV (.r rfl)) rfl<|bO (r:=8) oW rfl<|cL 1 KD rfl rfl ⟨_,rfl⟩ rfl<|ah (bE A9 (.r rfl) rfl) rfl<|ax rfl<|aq<|av<|aD<|av ?_))
   refine gj mixed (bl (aP (r:=0) lO (.r rfl) rfl) rfl<|bl (aX (vs:=[_,_,_,_,_]) qw (.r rfl) (aF 0 rfl ⟨_,rfl⟩) rfl) rfl<|eT rfl<|bl (cV (.r rfl)) rfl<|bl (aP (r:=0) Nl (.r rfl) rfl) rfl<|bl (aX (vs:=[_,_,_,_,_]) qw (.r rfl) (aF 1 rfl ⟨_,rfl⟩) rfl) rfl<|bl (LO.Qr («as» :=[_,_,_,_,_]) (bs:=[_,_,_,_,_]) J5 (.r rfl) (.r rfl) rfl rfl) rfl<|bl (LO.as (.r rfl)) rfl<|gy) (by kernel_rfl)<|aj<|ay rfl (fun h26=>?_) (fun h26=>?_)
   · (exfalso;exact h26 rfl)
   ·
    refine au (ag rfl<|dK rfl<|ag rfl<|aK rfl (fun hg=>LO.mv (.r rfl))<|aK rfl (fun hg=>LO.gt (.g hg rfl) (.r rfl))<|ah (LO.jZ (.r rfl) (.r rfl) rfl rfl) rfl<|ax rfl<|aq<|ay rfl (fun h34=>?_) (fun h34=>?_))
    · (exfalso;omega)
    ·
     refine au (ag rfl<|ag rfl<|ah (cV (.r rfl)) rfl<|bO (r:=7) DB rfl<|cL 1 O3 rfl rfl ⟨_,rfl⟩ rfl<|ah (LO.le (.r rfl) (.r rfl)) rfl<|ax rfl<|aq<|ay rfl (fun h41=>?_) (fun h41=>?_))
     · (exfalso;omega)
     ·
      refine au (ag rfl<|ah (LO.eq (.r rfl) (.r rfl)) rfl<|ax rfl<|aq<|ay rfl (fun h48=>?_) (fun h48=>?_))
      · (exfalso;exact absurd h48 (show ¬((0:Nat):Int)=48 by decide))
      ·
       refine aE (bB (aj<|av<|eC [[0,1,2,3,4,5,6,7],[0,1,2,3,4,5,6,7],[0,1,2,3,4,5,6,7],[0,1,2,3,4,6,7],[0,2,3,4,6,7],[0,2,3,4,6,7]] [some 3,some 4,some 2,some 2,some 2,some 2,some 0,some 0,some 0,some 0,some 0,none,none,none,some 4,some 3,some 3,none,some 4,some 4,none] mixed (by kernel_rfl) rfl (cT rfl<|cT rfl<|cT rfl<|aG (fun _ hJ=>cV (.r rfl)) rfl<|aG (fun _ hJ=>aP (r:=8) oW (.r rfl) rfl) rfl<|aG (fun _ hJ=>aC KD (.r rfl) (fun _ hw=>cN (hJ _ hw) 1 rfl ⟨_,rfl⟩)) rfl<|aG (fun _ hJ=>aX (vs:=[_,_,_,_,_,_]) oy (.r rfl) (fun _ hw=>cN (hJ _ hw) 0 rfl ⟨_,rfl⟩) rfl) rfl<|cT rfl<|aG (fun _ hJ=>cV (.r rfl)) rfl<|aG (fun _ hJ=>aP (r:=5) T9 (.r rfl) rfl) rfl<|aG (fun _ hJ=>aC O3 (.r rfl) (fun _ hw=>cN (hJ _ hw) 1 rfl ⟨_,rfl⟩)) rfl<|dC<|dC<|dC<|cT rfl<|aG (fun _ hJ=>cV (.r rfl)) rfl<|aG (fun _ hJ=>aP (r:=8) oW (.r rfl) rfl) rfl<|dC<|aG (fun _ hJ=>cV (.r rfl)) rfl<|aG (fun _ hJ=>aP (r:=7) DB (.r rfl) rfl) rfl<|dC<|fj) (az<|az<|az<|az<|az<|az<|az<|az<|az<|az<|az<|ga rfl<|cd (xs:=[_,_]) (vs:=[_,_]) XG ⟨(.r rfl),(.r rfl),trivial⟩ (fun w2 hw=>nJ h.g vs pv cv h.lv w2 hg hlen hsk (hvv hw)) fun yN hyA=>⟨kJ (L1:=[_,_,_,_,_,_,_,_]) [8,9,10,11,12,13,14,15] rfl rfl rfl,ga rfl<|eW (ps:=[(_,_)]) (vs:=[(_,_)]) (Z:=[_,_,_,_,_,_,_]) (C:=[_,_,_,_,_,_,_]) A9 YA L8 ⟨(.r rfl),trivial⟩ rfl rfl rfl rfl ⟨_,[_,_,_,_,_,_,_],[_,_,_,_,_,_,_],rfl,rfl,rfl,rfl,rfl⟩ fun b28=>⟨kJ (L1:=[_,_,_,_,_,_,_,_]) [9,10,11,12,13,14,15,16] rfl rfl rfl,ga rfl<|eP (yN) 14 0 (fun R=>[_,_,_,_,_,_,_,_,_,_,_,_,_,_,R,_,_]) A9 A9 I92 (.r rfl) (.r rfl) rfl rfl rfl rfl rfl rfl rfl (fun _=>rfl) rfl (by show(2*(0+1)+768)*_≤_;omega) fun p13 c13=>⟨kJ (L1:=[_,_,_,_,_,_,_]) [9,10,11,12,13,15,16] rfl rfl rfl,az<|az<|az<|hX<|cq 10 (vs:=[_]) (C':=[_,_,_,_,_,_,_,_,_,_,_,_,_,_,_,_,_,_,_]) (L':=[_,_,_,_,_,_,_,_,_,_,_,_,_,_,_,_,_]) N82 rfl rfl rfl rfl rfl rfl rfl rfl<|⟨kJ (L1:=[_,_,_,_,_,_]) [9,11,12,13,15,16] rfl rfl rfl,az<|az<|hX<|cq 10 (vs:=[_]) (C':=[_,_,_,_,_,_,_,_,_,_,_,_,_,_,_,_,_,_,_]) (L':=[_,_,_,_,_,_,_,_,_,_,_,_,_,_,_,_,_]) N3 rfl rfl rfl rfl rfl rfl rfl rfl<|⟨kJ (L1:=[_,_,_,_,_,_]) [9,11,12,13,15,16] rfl rfl rfl,fB ?_⟩⟩⟩⟩⟩)))
       have hnp:=pL hyA
       have hnl:=yZ hyA
       refine aj<|au (ax rfl<|aq<|av<|au (ag rfl<|ah (LO.gt (.r rfl) (.r rfl)) rfl<|aN ?_))
       refine aj<|ay rfl (fun h71=>?_) (fun h71=>?_)
       · (exfalso;exact absurd h71 (show ¬(0:Int)<((0:Nat):Int) by decide))
       ·
        refine aE (aj<|av<|au (ag rfl<|ah (bE Am (.r rfl) rfl) rfl<|ag rfl<|aq<|aD<|bS (α:=Nat) 0 (fun gx=>[(94,.int .i64 (gx:Nat))]) [(0,_),(9,_),(10,_),(92,_),(93,_)] (fun gx=>[]) (fun gx=>True) (fun gx=>1-gx) 0 (by exact trivial) (.c4 rfl rfl rfl rfl (.cons rfl (.cons rfl .nil))) (fun _ h=>h) ?_))
        rintro k _
        refine au (dK rfl<|aq<|av<|ay rfl (fun h95=>?_) (fun h95=>?_))
        · (exfalso;simp at h95;try omega)
        ·
         refine bU (aH (aH (cB (aj<|au (ag rfl<|ag rfl<|ag rfl<|aB rfl<|HO.oU (first:=[]) (cap:=[]) (xs:=[_,_,_]) (vs:=[_,_,_]) [_,_,_,_,_,_,_] [_,_,_,_,_,_,_,_,_,_] (dq (L1:=[_,_,_,_,_,_,_]++[_,_,_,_,_,_,_,_,_,_]) [10,11,12,13,14,15,16,0,1,2,3,4,5,6,7,8,9] rfl rfl) (.r rfl) C34 ⟨(.r rfl),(.r rfl),(.r rfl),trivial⟩ (fun w hw hh=>Kp b h time p13 c13 [yN] pt ct kd tk of yN.l.length yN rfl rfl w hh (by omega)) fun y hy=>aq<|au (ag rfl<|ax rfl<|ax rfl<|aq ?_))))))
         refine be (dh (vs:=[_,_]) rfl ⟨rfl,rfl,trivial⟩ (fun w hw=>?_))
         exact⟨⟨yN,⟨[],none,0⟩,p13,c13,y.pt,y.ct,kd,y.tk,y.of⟩,⟨hyA,hy.1,hy.2⟩,rfl,dq [0,1,2,3,4,5,6,8,9,10,11,12,13,14,15] rfl rfl _ hw⟩
theorem TQ:cP af 85 2 6:=⟨_,_,iE,rfl,rfl,0,by kernel_rfl⟩
theorem C33:fh af 33:=⟨_,Tryz.func33,by decide,rfl⟩
structure AdP (h:jk) (vs vP:List Span) (yP:oV) (r n:Nat) (kd:Nat→Int) (tk:List cH) (of:Nat×Nat→Option Nat) (y:AdY):Prop where
 ar:AR (gW h.g) (gH h.g) vs h.lv y.yN
 ev:Oo (gW h.g) (gH h.g) r (mH (gW h.g) (gH h.g) (et vP h.lv)) (mH (gW h.g) (gH h.g) (et vs h.lv)) yP.l.length y.yN.l.length (y.ev.l.map dD)
 K1:(y.tk.map dG,y.of)=ib (n+1) (y.ev.l.map dD) ((tk.map dG).map (jU (n+1) (y.ev.l.map dD)),r6 n (y.ev.l.map dD) of) y.yN.l.length
 len:y.tk.length≤tk.length+y.yN.l.length
 kd:y.kd=x9 kd (y.ev.l.map dD)
theorem RS {es:List gF} (h:es.Pairwise fun a b=>(∀i,i∈a.f→i∉b.f)∧∀j,j∈a.t→j∉b.t) {k:Nat} {e:gF} (he:es[k]? =some e):∀x,x∈es.take k→(∀a,a∈e.f→a∉x.f)∧∀b,b∈e.t→b∉x.t:=fun x hx=>by
 obtain⟨hk,rfl⟩:=an.1 he
 obtain⟨i,hi,rfl⟩:=gg.1 hx
 rw[eU]at hi
 rw[nU]
 have:=cj.1 h i k (by omega) hk (by omega)
 exact⟨fun a h1 h2=>this.1 a h2 h1,fun b h1 h2=>this.2 b h2 h1⟩
theorem Fl {l:List db} {k:Nat} {e:db} (h:l[k]? =some e):(l.map dD).take (k+1)=(l.map dD).take k++[e.m]:=by
 have h2:(l.map dD)[k]? =some e.m:=by rw[aI,h];rfl
 obtain⟨hk,e2⟩:=an.1 h2
 rw[bX hk,e2]
theorem On {l:List db}:(l.map dD).take l.length=l.map dD:=by have h:(l.map dD).take (l.map dD).length=l.map dD:=eG;rwa [ak]at h
theorem Tt (b:Nat) (h:jk) (la:Int) (pm:Option Addr) (cm:Nat) (ys:List oV) (pt:Option Addr) (ct:Nat) (kd:Nat→Int) (tk:List cH) (of:Nat×Nat→Option Nat) (time:Int) (vs:List Span) (pv:Option Addr) (cv:Nat) (w:World) (hh:Has w (tI b h la pm cm ys pt ct kd tk of)) (hvv:∀{L:List dg} {v:World},St ⟨w,mG (tI b h la pm cm ys pt ct kd tk of)⟩ L v→fL v pv vs) (hok:kH h la ys.length time h.g vs=0) (hlv:1≤h.lv∧h.lv≤1073741824) (hl:tk.length≤800000) (n r:Nat) (hys:ys.length=n+1) (hyl:ys.length≤48) (yP:oV) (hyP:ys[n]? =some yP) (vP:List Span) (hyPa:AR (gW h.g) (gH h.g) vP h.lv yP) (hsp:∀{L:List dg} {v:World},St ⟨w,mG (tI b h la pm cm ys pt ct kd tk of)⟩ L v→vO v yP (mH (gW h.g) (gH h.g) (et vP h.lv))) (E:List (List gF)) (Ms:List Nat) (hI:iF E Ms (tk.map dG) of) (hMs:Ms.length=n+1) (hMl:Ms.getD n 0=yP.l.length) (hrc:h.rc=(r:Int)) (hr:r≤8) (hkb:∀j,0≤kd j∧kd j≤1000000000):
 Calls af 8 #[.pointer (some ⟨b,0,none⟩),.int .i64 time,.agg #[.int .i64 h.g.x,.int .i64 h.g.y,.int .i64 h.g.size,.int .i64 h.g.wide,.int .i64 h.g.high,.slice pv vs.length cv]] w fun e w'=>∃y:AdY,AdP h vs vP yP r n kd tk of y∧e= .returned (.tuple #[.slice y.ev.p y.ev.l.length y.ev.c,.int .i64 0])∧St ⟨w,mG (tI b h la pm cm ys pt ct kd tk of)⟩ (tI b h time y.pm y.cm (ys++[y.yN]) y.pt y.ct y.kd y.tk y.of++(y.yN.R (mH (gW h.g) (gH h.g) (et vs h.lv))++y.ev.R)) w':=by
 obtain⟨hfd,_,ht0,ht1,hla,hn48⟩:=El hok
 obtain⟨hg,hlen,hsk,_,_⟩:=oO (lT (lv:=h.lv) hfd hlv.1 hlv.2)
 have har:=iM hg
 have hv:=hvv hh.enter
 have hpl:=yZ hyPa
 have hb0:KK (n+1) (tk.map dG) of:=by have z:=hI.q.base;rw[hMs]at z;exact z
 refine oL (vs:=[_,_,_]) (env:=[(0,_),(1,_),(2,_)]) hh.enter wN rfl rfl rfl rfl ?_
 refine au (aB rfl<|HO.box (C:=#[_,_,_,_,_,_]) rfl rfl fun b8=>ax rfl<|ax rfl<|aq<|av<|au (ag rfl<|ah (bK (xs:=[_]) (vs:=[_]) R0 ⟨(.r rfl),trivial⟩ (fun w2 hw=>o6 b h la ⟨pm,ys.length,cm⟩ pt tk.length ct kd w2 (dQ (hw.inv 1 _ rfl)))) rfl<|ah (LO.not (.r rfl)) rfl<|aq ?_))
 refine ay rfl (fun h15=>?_) (fun h15=>?_)
 · (exfalso;exact h15 rfl)
 ·
  refine aE (aj<|av<|au (ah (aX (vs:=[_,_,_,_,_,_]) oy (.r rfl) (aF 0 rfl ⟨_,rfl⟩) rfl) rfl<|ah (bK (xs:=[_]) (vs:=[_]) V6 ⟨(.r rfl),trivial⟩ (fun w2 hw=>kA ⟨h.g,vs⟩ pv cv w2 (hvv hw))) rfl<|ax rfl<|aq<|au (ag rfl<|VO.u rfl<|aN ?_)))
  refine aj<|ay rfl (fun h19=>?_) (fun h19=>?_)
  · (exfalso;exact h19 hfd)
  ·
   refine aE (aj<|au (ag rfl<|ah (cV (.r rfl)) rfl<|bO (r:=8) oW rfl<|cL 1 KD rfl rfl ⟨_,rfl⟩ rfl<|ah (eN (bE A9 (.r rfl) rfl) (congrArg (cX .i64) (show((ys.length:Nat):Int)=((n+1:Nat):Int) by rw[hys]))) rfl<|ax rfl<|aq<|av<|aD<|av ?_))
   refine gj mixed (bl (aP (r:=0) lO (.r rfl) rfl) rfl<|bl (aX (vs:=[_,_,_,_,_]) qw (.r rfl) (aF 0 rfl ⟨_,rfl⟩) rfl) rfl<|eT rfl<|bl (cV (.r rfl)) rfl<|bl (aP (r:=0) Nl (.r rfl) rfl) rfl<|bl (aX (vs:=[_,_,_,_,_]) qw (.r rfl) (aF 1 rfl ⟨_,rfl⟩) rfl) rfl<|bl (LO.Qr («as» :=[_,_,_,_,_]) (bs:=[_,_,_,_,_]) J5 (.r rfl) (.r rfl) rfl rfl) rfl<|bl (LO.as (.r rfl)) rfl<|gy) (by kernel_rfl)<|aj<|ay rfl (fun h26=>?_) (fun h26=>?_)
   · (exfalso;exact h26 rfl)
   ·
    refine au (ag rfl<|dK rfl<|ag rfl<|aK rfl (fun hg=>LO.mv (.r rfl))<|aK rfl (fun hg=>LO.gt (.g hg rfl) (.r rfl))<|ah (LO.jZ (.r rfl) (.r rfl) rfl rfl) rfl<|ax rfl<|aq<|ay rfl (fun h34=>?_) (fun h34=>?_))
    · (exfalso;omega)
    ·
     refine au (ag rfl<|ag rfl<|ah (cV (.r rfl)) rfl<|bO (r:=7) DB rfl<|cL 1 O3 rfl rfl ⟨_,rfl⟩ rfl<|ah (LO.le (.r rfl) (.r rfl)) rfl<|ax rfl<|aq<|ay rfl (fun h41=>?_) (fun h41=>?_))
     · (exfalso;omega)
     ·
      refine au (ag rfl<|ah (LO.eq (.r rfl) (.r rfl)) rfl<|ax rfl<|aq<|ay rfl (fun h48=>?_) (fun h48=>?_))
      · (exfalso;omega)
      ·
       refine aE (bB (aj<|av<|eC [[0,1,2,3,4,5,6,7],[0,1,2,3,4,5,6,7],[0,1,2,3,4,5,6,7],[0,1,2,3,4,6,7],[0,2,3,4,6,7],[0,2,3,4,6,7]] [some 3,some 4,some 2,some 2,some 2,some 2,some 0,some 0,some 0,some 0,some 0,none,none,none,some 4,some 3,some 3,none,some 4,some 4,none] mixed (by kernel_rfl) rfl (cT rfl<|cT rfl<|cT rfl<|aG (fun _ hJ=>cV (.r rfl)) rfl<|aG (fun _ hJ=>aP (r:=8) oW (.r rfl) rfl) rfl<|aG (fun _ hJ=>aC KD (.r rfl) (fun _ hw=>cN (hJ _ hw) 1 rfl ⟨_,rfl⟩)) rfl<|aG (fun _ hJ=>aX (vs:=[_,_,_,_,_,_]) oy (.r rfl) (fun _ hw=>cN (hJ _ hw) 0 rfl ⟨_,rfl⟩) rfl) rfl<|cT rfl<|aG (fun _ hJ=>cV (.r rfl)) rfl<|aG (fun _ hJ=>aP (r:=5) T9 (.r rfl) rfl) rfl<|aG (fun _ hJ=>aC O3 (.r rfl) (fun _ hw=>cN (hJ _ hw) 1 rfl ⟨_,rfl⟩)) rfl<|dC<|dC<|dC<|cT rfl<|aG (fun _ hJ=>cV (.r rfl)) rfl<|aG (fun _ hJ=>aP (r:=8) oW (.r rfl) rfl) rfl<|dC<|aG (fun _ hJ=>cV (.r rfl)) rfl<|aG (fun _ hJ=>aP (r:=7) DB (.r rfl) rfl) rfl<|dC<|fj) (az<|az<|az<|az<|az<|az<|az<|az<|az<|az<|az<|ga rfl<|cd (xs:=[_,_]) (vs:=[_,_]) XG ⟨(.r rfl),(.r rfl),trivial⟩ (fun w2 hw=>nJ h.g vs pv cv h.lv w2 hg hlen hsk (hvv hw)) fun yN hyA=>⟨kJ (L1:=[_,_,_,_,_,_,_,_]) [8,9,10,11,12,13,14,15] rfl rfl rfl,ga rfl<|eW (ps:=[(_,_)]) (vs:=[(_,_)]) (Z:=[_,_,_,_,_,_,_]) (C:=[_,_,_,_,_,_,_]) A9 YA L8 ⟨(.r rfl),trivial⟩ rfl rfl rfl rfl ⟨_,[_,_,_,_,_,_,_],[_,_,_,_,_,_,_],rfl,rfl,rfl,rfl,rfl⟩ fun b28=>⟨kJ (L1:=[_,_,_,_,_,_,_,_]) [9,10,11,12,13,14,15,16] rfl rfl rfl,ga rfl<|eP (yN) 14 0 (fun R=>[_,_,_,_,_,_,_,_,_,_,_,_,_,_,R,_,_]) A9 A9 I92 (.r rfl) (.r rfl) rfl rfl rfl rfl rfl rfl rfl (fun _=>rfl) rfl (by omega) fun p13 c13=>⟨kJ (L1:=[_,_,_,_,_,_,_]) [9,10,11,12,13,15,16] rfl rfl rfl,az<|az<|az<|hX<|cq 10 (vs:=[_]) (C':=[_,_,_,_,_,_,_,_,_,_,_,_,_,_,_,_,_,_,_]) (L':=[_,_,_,_,_,_,_,_,_,_,_,_,_,_,_,_,_]) N82 rfl rfl rfl rfl rfl rfl rfl rfl<|⟨kJ (L1:=[_,_,_,_,_,_]) [9,11,12,13,15,16] rfl rfl rfl,az<|az<|hX<|cq 10 (vs:=[_]) (C':=[_,_,_,_,_,_,_,_,_,_,_,_,_,_,_,_,_,_,_]) (L':=[_,_,_,_,_,_,_,_,_,_,_,_,_,_,_,_,_]) N3 rfl rfl rfl rfl rfl rfl rfl rfl<|⟨kJ (L1:=[_,_,_,_,_,_]) [9,11,12,13,15,16] rfl rfl rfl,fB ?_⟩⟩⟩⟩⟩)))
       have hnp:=pL hyA
       have hnl:=yZ hyA
       have hyn:(ys++[yN]).length=ys.length+1:=by rw[aJ];rfl
       have hyx1:(ys++[yN])[n]? =some yP:=by rw[aV (by omega)];exact hyP
       have hyN2:(ys++[yN])[n+1]? =some yN:=by rw[←hys,List.getElem?_append_right (cg _),Nat.sub_self];rfl
       have hyx2:=hyN2
       refine aj<|au (ax rfl<|aq<|av<|au (ag rfl<|ah (LO.gt (.r rfl) (.r rfl)) rfl<|aN ?_))
       refine aj<|ay rfl (fun h71=>?_) (fun h71=>?_)
       ·
        refine eC [[0,1,2,3,4,5,6,7,8,9,10,11,12,13,14,15,16],[0,1,2,3,4,5,6,7,8,9,10,11,12,13,14,15,16],[0,1,2,3,4,5,6,7,8,9,10,11,12,13,14,15,16]] [some 0,some 0,some 0,some 0,some 0,some 0,some 0,some 0,some 0,some 0,some 0,some 0,some 0,some 0,some 0,some 0,some 0,some 0,some 0,none,none] mixed (by kernel_rfl) rfl (cT rfl<|aG (fun _ hJ=>cV (.r rfl)) rfl<|aG (fun _ hJ=>aP (r:=8) oW (.r rfl) rfl) rfl<|aG (fun _ hJ=>aC KD (.r rfl) (fun _ hw=>cN (hJ _ hw) 10 rfl ⟨_,rfl⟩)) rfl<|cT rfl<|aG (fun _ hJ=>eN (LO.sub (.r rfl) (.r rfl) (wi (by omega) (by omega))) (congrArg (cX .i64) (show((n+1:Nat):Int)-1=(n:Int) by omega))) rfl<|aG (fun _ hJ=>cy A9 L8 (fun _ hw=>(bL (hJ _ hw) 14 rfl).some (by rw[ak])) (.r rfl) (.r rfl) rfl (by rw[hyn];omega)) rfl<|aG (fun _ hJ=>aX (vs:=[_,_,_,_,_,_,_]) Pj (.r rfl) (fun w hw=>aA (off:=0) (cO (hJ _ hw) 14 rfl hyx1) ⟨_,rfl⟩) rfl) rfl<|cT rfl<|aG (fun _ hJ=>cV (.r rfl)) rfl<|aG (fun _ hJ=>aP (r:=8) oW (.r rfl) rfl) rfl<|aG (fun _ hJ=>aC KD (.r rfl) (fun _ hw=>cN (hJ _ hw) 10 rfl ⟨_,rfl⟩)) rfl<|cT rfl<|aG (fun _ hJ=>cy A9 L8 (fun _ hw=>(bL (hJ _ hw) 14 rfl).some (by rw[ak])) (.r rfl) (.r rfl) rfl (by rw[hyn];omega)) rfl<|aG (fun _ hJ=>aX (vs:=[_,_,_,_,_,_,_]) Pj (.r rfl) (fun w hw=>aA (off:=0) (cO (hJ _ hw) 14 rfl hyx2) ⟨_,rfl⟩) rfl) rfl<|cT rfl<|aG (fun _ hJ=>cV (.r rfl)) rfl<|aG (fun _ hJ=>aP (r:=6) TQ (.r rfl) rfl) rfl<|aG (fun _ hJ=>eN (aC O3 (.r rfl) (fun _ hw=>cN (hJ _ hw) 10 rfl ⟨_,rfl⟩)) (congrArg (cX .i64) hrc)) rfl<|dC<|dC<|fj) (az<|az<|az<|az<|az<|az<|az<|az<|az<|az<|az<|az<|az<|az<|az<|az<|az<|az<|az<|ga rfl<|cd (xs:=[_,_,_]) (vs:=[_,_,_]) C32 ⟨(.r rfl),(.r rfl),(.r rfl),trivial⟩ (fun w hw=>DI h.g yP yN _ _ r w hg (hsp hw) (vO.uq hw hyA 1 2 4 8 rfl rfl rfl rfl) mR mR (yZ hyPa) (yZ hyA) (by omega)) fun ev hev=>⟨kJ (L1:=[_,_,_,_,_,_,_,_,_,_,_,_,_,_,_,_,_]) [3,4,5,6,7,8,9,10,11,12,13,14,15,16,17,18,19] rfl rfl rfl,ga rfl<|aW (LO.as (.r rfl))<|⟨kJ (L1:=[_,_,_,_,_,_,_,_,_,_,_,_,_,_,_,_,_]) [3,4,5,6,7,8,9,10,11,12,13,14,15,16,17,18,19] rfl rfl rfl,fB ?_⟩⟩)
        have hgd:=hev.Kf
        have hell:=hgd.Q9
        rw[ak]at hell
        have htot0:∀a,a<yP.l.length→∃k,of (n,a)=some k:=fun a ha=>hI.q.Fb n a (by omega) (by rw[hMl];exact ha) (.inr (.inl (by rw[hMs,Nat.add_sub_cancel,hMl];exact ha)))
        refine aj<|av<|au (ag rfl<|ah (bE Am (.r rfl) rfl) rfl<|ag rfl<|aq<|aD<|gw [13,14,15,16,0,1,2,3,4,5,6,7,8,9,10,11,12,17,18,19] rfl ?_)
        refine bS (α:=Nat×(List cH)×(Nat×Nat→Option Nat)×(Nat→Int)) 4 (fun gx=>[(94,.int .i64 (gx.1:Nat))]) [(0,_),(9,_),(10,_),(92,_),(93,_)] (fun gx=>[gq b (.cells (uO h time ⟨p13,(ys++[yN]).length,c13⟩ pt gx.2.1.length ct gx.2.2.2).toArray 85),own 76 6 pt ct (gx.2.1.map e9),bV (gx.2.1.map gl),jr Ay vZ h.bm (qK gx.2.2.1)]) (fun gx=>gx.1≤ev.l.length∧ChP n ((ev.l.map dD).take gx.1) (tk.map dG) tk gx.2.1∧gx.2.2.1=r6 n ((ev.l.map dD).take gx.1) of∧gx.2.2.2=x9 kd ((ev.l.map dD).take gx.1)) (fun gx=>ev.l.length-gx.1) (0,tk,of,kd) (by exact⟨aY _,⟨(SE hb0.en).symm,rfl,rfl⟩,(SN hb0).symm,rfl⟩) (.c4 rfl rfl rfl rfl (.cons rfl (.cons rfl .nil))) (fun _ h=>h) ?_
        rintro ⟨k,tkk,ofk,kdk⟩ ⟨hk,⟨hm,hpR,hcR⟩,hofk,hkdk⟩
        show VC _ _ _ _ _ ([(94,.int .i64 (k:Nat))]++_) ([gq b (.cells (uO h time ⟨p13,(ys++[yN]).length,c13⟩ pt tkk.length ct kdk).toArray 85),own 76 6 pt ct (tkk.map e9),bV (tkk.map gl),jr Ay vZ h.bm (qK ofk)]++_) _ _
        dsimp only at hk hm hpR hcR hofk hkdk
        subst hofk
        subst hkdk
        have htl:=M6 hm
        rw[ak]at htl
        refine au (dK rfl<|aq<|av<|ay rfl (fun h95=>?_) (fun h95=>?_))
        ·
         obtain⟨e,hek⟩:=du (l:=ev.l) (n:=k) (by omega)
         have hem:=al hek
         have hemm:e.m∈ev.l.map dD:=bw hem
         have hekm:(ev.l.map dD)[k]? =some e.m:=by rw[aI,hek];rfl
         have hfsn:e.f.Nodup:=(hgd.fs _ hemm).1.imp fun z=>jc z
         have htot:∀a,a∈e.f→∃k,of (n,a)=some k:=fun a ha=>htot0 a ((hgd.fs _ hemm).2 a ha)
         have hlf:e.f.length≤yP.l.length:=(hgd.Ot hemm).1
         refine aE (aj<|av<|aD<|au (ah (cy Am EO (fun _ hw=>(bL hw 4 rfl).some (by rw[ak])) (.r rfl) (.r rfl) rfl (by omega)) rfl<|ah (aX (vs:=[_,_,_]) YY (.r rfl) (fun w hw=>aA (off:=0) (cO hw 4 rfl hek) ⟨_,rfl⟩) rfl) rfl<|aB rfl<|cJ (C:=#[_,_,_]) Wz rfl fun b37=>cu<|cq 0 (vs:=[_,_,_]) (C':=[_,_,_]) (L':=[_,_,_,_,_,_,_,_,_,_,_,_,_,_,_,_,_,_,_,_,_]) EO rfl rfl rfl rfl rfl rfl rfl rfl<|aq<|aM (ag rfl<|ag rfl<|ah (aX (vs:=[_,_,_]) YY (.r rfl) (aF 0 rfl ⟨_,rfl⟩) rfl) rfl<|aB rfl<|HO.oU (first:=[]) (cap:=[]) (xs:=[_,_,_]) (vs:=[_,_,_]) [_,_,_,_] [_,_,_,_,_,_,_,_,_,_,_,_,_,_,_,_,_] (dq (L1:=[_,_,_,_]++[_,_,_,_,_,_,_,_,_,_,_,_,_,_,_,_,_]) [1,2,3,4,0,5,6,7,8,9,10,11,12,13,14,15,16,17,18,19,20] rfl rfl) (.r rfl) C33 ⟨(.r rfl),(.r rfl),(.r rfl),trivial⟩ (fun w hw hh=>OO b h time ⟨p13,(ys++[yN]).length,c13⟩ pt ct (x9 kd ((ev.l.map dD).take k)) tkk n ((ev.l.map dD).take k) (tk.map dG) of e w hh ⟨hb0,hm,(hgd.kd _ hemm).1,hfsn,RS hgd.apart hekm,htot,by omega,fun j=>by have z:=FU (es:=(ev.l.map dD).take k) hkb j;have y:((ev.l.map dD).take k).length≤k:=(by rw[eU];omega);omega,by omega⟩ (fun hs=>⟨RO.qu (E:=3) (z:=1) (P:=db.fp) (C:=db.fc) (X:=db.f) (f:=nC) (St.ln (St.fz (R:=Rv b h time ⟨p13,(ys++[yN]).length,c13⟩ pt ct (x9 kd ((ev.l.map dD).take k)) tkk (r6 n ((ev.l.map dD).take k) of)) (rest:=[_,_,_,_,_,_,_,_,_,_,_,_,_,_,_,_,_]) (dq (L1:=[_,_,_,_,_,_,_,_,_,_,_,_,_,_,_,_,_,_,_,_,_]) [1,2,3,4,0,5,6,7,8,9,10,11,12,13,14,15,16,17,18,19,20] rfl rfl _ hw) hs)) 2 rfl hem,RO.qu (E:=3) (z:=1) (P:=db.tp) (C:=db.tc) (X:=db.t) (f:=nC) (St.ln (St.fz (R:=Rv b h time ⟨p13,(ys++[yN]).length,c13⟩ pt ct (x9 kd ((ev.l.map dD).take k)) tkk (r6 n ((ev.l.map dD).take k) of)) (rest:=[_,_,_,_,_,_,_,_,_,_,_,_,_,_,_,_,_]) (dq (L1:=[_,_,_,_,_,_,_,_,_,_,_,_,_,_,_,_,_,_,_,_,_]) [1,2,3,4,0,5,6,7,8,9,10,11,12,13,14,15,16,17,18,19,20] rfl rfl _ hw) hs)) 3 rfl hem⟩) (RO.sm (RO.qu (E:=3) (z:=1) (P:=db.fp) (C:=db.fc) (X:=db.f) (f:=nC) (hw) 6 rfl hem)) (RO.sm (RO.qu (E:=3) (z:=1) (P:=db.tp) (C:=db.tc) (X:=db.t) (f:=nC) (hw) 7 rfl hem))) fun tk2 hc2=>aN ?_)))
         refine bB (aj<|aM (da rfl rfl (by omega) (by omega) rfl<|ag rfl<|aN<|aZ fun a w ha hw=>⟨(k+1,tk2,r6 n ((ev.l.map dD).take k++[e.m]) of,KR (x9 kd ((ev.l.map dD).take k)) e.kd.toNat),⟨by dsimp only;omega,by dsimp only;rw[Fl hek];exact⟨hc2.m,hc2.p.trans hpR,hc2.c.trans hcR⟩,congrArg (fun z=>r6 n z of) (Fl hek).symm,((congrArg (x9 kd) (Fl hek)).trans Sf).symm⟩,(by dsimp only;omega),ha.sub (.c4 rfl rfl rfl rfl (.cons rfl (.cons rfl .nil))),hw.gY [0,1,2,3,5,6,7,8,9,10,11,12,13,14,15,16,17,18,19,20] rfl⟩))
        ·
         have hke:k=ev.l.length:=by omega
         subst hke
         rw[On]at hm ⊢
         have hch:=iW.change (m:=yN.l.length) hI hMs (by rw[hMl];exact hgd)
         rw[←hm]at hch
         have hBE:BiE (E++[ev.l.map dD]) (Ms++[yN.l.length]) n yN.l.length ev.l tkk (r6 n (ev.l.map dD) of):=⟨by rw[aJ,hMs];rfl,by rw[←hMs];exact ki,by have z:=hI.q.len;rw[hMs]at z;rw[←z];exact ki,by rw[pC (by omega),hMl];exact hgd,hch,by omega,by omega⟩
         refine bU (aH (aH (cB (aj<|av<|VC.res (L':=[_,_,_,_,_,_,_,_,_,_,_,_,_,_,_,_,_,_,bV (tkk.map ff),bV (tkk.map ef)]) (fun w hw=>by rw[hpR,hcR];exact hw)<|aM (ag rfl<|ag rfl<|ag rfl<|aB rfl<|HO.oU (first:=[]) (cap:=[]) (xs:=[_,_,_]) (vs:=[_,_,_]) [_,_,_,_,_,_,_] [_,_,_,_,_,_,_,_,_,_,_,_,_] (dq (L1:=[_,_,_,_,_,_,_]++[_,_,_,_,_,_,_,_,_,_,_,_,_]) [0,1,2,3,17,18,19,4,5,6,7,8,9,10,11,12,13,14,15,16] rfl rfl) (.r rfl) C34 ⟨(.r rfl),(.r rfl),(.r rfl),trivial⟩ (fun w hw hh=>Ke b h time p13 c13 (ys++[yN]) pt ct (x9 kd (ev.l.map dD)) tkk (r6 n (ev.l.map dD) of) (E++[ev.l.map dD]) (Ms++[yN.l.length]) n yN.l.length ev.l ev.p ev.c yN hyN2 rfl w hh (by omega) (by rw[pC (by omega),hMl];omega) hBE (fun hs=>⟨RO.gM (St.ln (St.fz (R:=tI b h time p13 c13 (ys++[yN]) pt ct (x9 kd (ev.l.map dD)) tkk (r6 n (ev.l.map dD) of)) (rest:=[_,_,_,_,_,_,_,_,_,_,_,_,_]) (dq (L1:=[_,_,_,_,_,_,_,_,_,_,_,_,_,_,_,_,_,_,_,_]) [0,1,2,3,17,18,19,4,5,6,7,8,9,10,11,12,13,14,15,16] rfl rfl _ hw) hs)) 0 rfl,fun e he=>⟨RO.qu (E:=3) (z:=1) (P:=db.fp) (C:=db.fc) (X:=db.f) (f:=nC) (St.ln (St.fz (R:=tI b h time p13 c13 (ys++[yN]) pt ct (x9 kd (ev.l.map dD)) tkk (r6 n (ev.l.map dD) of)) (rest:=[_,_,_,_,_,_,_,_,_,_,_,_,_]) (dq (L1:=[_,_,_,_,_,_,_,_,_,_,_,_,_,_,_,_,_,_,_,_]) [0,1,2,3,17,18,19,4,5,6,7,8,9,10,11,12,13,14,15,16] rfl rfl _ hw) hs)) 1 rfl he,RO.qu (E:=3) (z:=1) (P:=db.tp) (C:=db.tc) (X:=db.t) (f:=nC) (St.ln (St.fz (R:=tI b h time p13 c13 (ys++[yN]) pt ct (x9 kd (ev.l.map dD)) tkk (r6 n (ev.l.map dD) of)) (rest:=[_,_,_,_,_,_,_,_,_,_,_,_,_]) (dq (L1:=[_,_,_,_,_,_,_,_,_,_,_,_,_,_,_,_,_,_,_,_]) [0,1,2,3,17,18,19,4,5,6,7,8,9,10,11,12,13,14,15,16] rfl rfl _ hw) hs)) 2 rfl he⟩⟩)) fun y hy=>aq<|au (ag rfl<|ax rfl<|ax rfl<|aN ?_))))))
         refine aj<|be (dh (vs:=[_,_]) rfl ⟨rfl,rfl,trivial⟩ (fun w hw=>?_))
         exact⟨⟨yN,ev,p13,c13,y.pt,y.ct,x9 kd (ev.l.map dD),y.tk,y.of⟩,⟨hyA,hev,by rw[←hm];exact hy.1,by have z:=hy.2;rw[htl]at z;exact z,rfl⟩,rfl,dq [0,1,2,3,4,5,6,11,12,13,14,15,16,17,18,7,8,9] rfl rfl _ hw⟩
       · (exfalso;omega)
theorem C89:fh af 89:=⟨_,Tryz.func89,by decide,rfl⟩
theorem IU:cP af 76 4 4:=⟨_,_,jP,rfl,rfl,0,by kernel_rfl⟩
theorem Sq:lh af 76 6:=⟨⟨_,jP,rfl⟩,by kernel_rfl⟩
theorem C58:fh af 58:=⟨_,Tryz.func58,by decide,rfl⟩
theorem Z78:dr af 78 (.agg #[.int .i64 0,.int .i64 0,.int .i64 0,.int .i64 0,.int .i64 0,.int .i64 0,.int .i64 0,.int .i64 0,.int .i64 0]):=by unfold dr;kernel_rfl
theorem B78:fU af 78 [(0,1),(1,1),(2,1),(3,1),(4,1),(5,1),(6,1),(7,1),(8,1)] [.int .i64 0,.int .i64 0,.int .i64 0,.int .i64 0,.int .i64 0,.int .i64 0,.int .i64 0,.int .i64 0,.int .i64 0]:=fU.mk fun _=>by kernel_rfl
theorem N78:(af.info? 78).map (·.size)=some 9:=by kernel_rfl
theorem A78:lh af 78 9:=⟨⟨_,Tryz.underlying78,rfl⟩,by kernel_rfl⟩
structure ClY where
 ap:Option Addr
 ac:Nat
 pp:Option Addr
 pc:Nat
 cp:Option Addr
 cc:Nat
def cH.put (t:cH) (y:ClY):cH:={ t with ap:=y.ap,ac:=y.ac,pp:=y.pp,pc:=y.pc,cp:=y.cp,cc:=y.cc }
structure VL (w:World) (t:cH):Prop where
 a:RO 1 nC w t.ap t.ar
 p:RO 1 nC w t.pp t.pa
 c:RO 1 nC w t.cp t.ch
theorem VL.b0 {w0:World} {t:cH} {L:List dg} (h:VL w0 t):∀w,St (bs w0) L w→VL w t:=fun w hw=>⟨h.a.b0 w hw,h.p.b0 w hw,h.c.b0 w hw⟩
structure Wx (t:cH):Prop where
 a:t.ar.length≤1000000000
 p:t.pa.length≤1000000000
 c:t.ch.length≤1000000000
abbrev QZ (t:cH):Value:=.agg #[.int .i64 t.bg,.int .i64 (t.fr:Int),.slice t.ap t.ar.length t.ac,.int .i64 t.en,.slice t.pp t.pa.length t.pc,.slice t.cp t.ch.length t.cc]
structure F4 where
 tk:List cH
 p:Option Addr
 c:Nat
def F4.R (y:F4):List dg:=[own 76 6 y.p y.c (y.tk.map e9),bV (y.tk.map gl),bV (y.tk.map ff),bV (y.tk.map ef)]
theorem Sa {l:List cH} {k:Nat} {t:cH} (h:l[k]? =some t):(l.map dG).take (k+1)=(l.map dG).take k++[t.m]:=by
 have h2:(l.map dG)[k]? =some t.m:=by rw[aI,h];rfl
 obtain⟨hk,e2⟩:=an.1 h2
 rw[bX hk,e2]
theorem Km {l:List cH}:(l.map dG).take l.length=l.map dG:=by have h:(l.map dG).take (l.map dG).length=l.map dG:=eG;rwa [ak]at h
theorem WG {α:Type} {z:Nat} {f:α→List Value} {w:World} {p:Option Addr} {l:List α} (h:RO z f w p l) (hp:p=none):l=[]:=by
 have h1:=h.sm
 subst hp
 cases l with
 |nil=>rfl
 |cons a l=>have:=h1 (by simp);cases this
theorem yg (l:List Nat) (p:Option Addr) (c:Nat) (w:World) (hl:RO 1 nC w p l) (hln:l.length≤1000000000):
 Calls af 89 #[.slice p l.length c] w fun e w'=>∃y:B9,True∧e= .returned (.slice y.p l.length y.c)∧St (bs w) [own 3 1 y.p y.c (l.map nC)] w':=by
 refine enter (vs:=[_]) (env:=[(0,_)]) Tryz.func89 rfl rfl rfl rfl ?_
 refine au (ax rfl<|aq<|av<|au (ag rfl<|ah (LO.Zb fk (.r rfl) (.r rfl)) rfl<|aq ?_))
 refine ay rfl (fun h4=>?_) (fun h4=>?_)
 ·
  have hp:p=none:=by simpa using h4
  have hl0:l=[]:=WG hl hp
  subst hl0
  refine au (ax rfl<|aq<|be (bA (dP rfl rfl (fun w hw=>?_))))
  exact⟨⟨none,0⟩,trivial,rfl,hw.fX 3 1⟩
 ·
  refine aE (aj<|au (aB rfl<|HO.bs0 fk N3 fun b1=>ag rfl<|aB rfl<|HO.TB (f:=nC) (m:=l) 0 (fun R=>[R]) fk fk I3 (.r rfl) (.r rfl) rfl (fun w hw=>hl.b0 w hw) (fun _=>rfl) (fun _=>rfl) rfl rfl (fun _=>rfl) rfl (by omega) fun p2 c2 _=>aB rfl<|aW (LO.as (.r rfl))<|aq<|be (dP rfl rfl (fun w hw=>?_))))
  exact⟨⟨p2,c2⟩,trivial,rfl,dq [0] rfl rfl _ hw⟩
theorem N6 (t:cH) (w:World) (ht:VL w t) (hb:Wx t):
 Calls af 58 #[QZ t] w fun e w'=>∃y:ClY,True∧e= .returned (QZ (t.put y))∧St (bs w) [gl (t.put y),ff (t.put y),ef (t.put y)] w':=by
 refine enter (vs:=[_]) (env:=[(0,_)]) Tryz.func58 rfl rfl rfl rfl ?_
 refine au (aB rfl<|HO.box (C:=#[_,_,_,_,_,_]) rfl rfl fun b1=>aB rfl<|cJ (C:=#[_,_,_,_,_,_]) Qp rfl fun b2=>aq<|av<|eC [[0,1],[0,1],[0,1],[0,1],[0],[0],[0]] [some 0,some 0,none,some 1,some 1,none,some 2,some 2,none,some 3,none,some 4,none,some 5,none] mixed (by kernel_rfl) rfl (aG (fun _ hJ=>aP (r:=2) vf (.r rfl) rfl) rfl<|aG (fun _ hJ=>aC iL (.r rfl) (fun _ hw=>cN (hJ _ hw) 1 rfl ⟨_,rfl⟩)) rfl<|dC<|aG (fun _ hJ=>aP (r:=4) IU (.r rfl) rfl) rfl<|aG (fun _ hJ=>aC iL (.r rfl) (fun _ hw=>cN (hJ _ hw) 1 rfl ⟨_,rfl⟩)) rfl<|dC<|aG (fun _ hJ=>aP (r:=5) AQ (.r rfl) rfl) rfl<|aG (fun _ hJ=>aC iL (.r rfl) (fun _ hw=>cN (hJ _ hw) 1 rfl ⟨_,rfl⟩)) rfl<|dC<|aG (fun _ hJ=>aP (r:=2) vf (.r rfl) rfl) rfl<|dC<|aG (fun _ hJ=>aP (r:=4) IU (.r rfl) rfl) rfl<|dC<|aG (fun _ hJ=>aP (r:=5) AQ (.r rfl) rfl) rfl<|dC<|fj) (az<|az<|ga rfl<|cd (xs:=[_]) (vs:=[_]) C89 ⟨(.r rfl),trivial⟩ (fun w2 hw=>yg t.ar t.ap t.ac w2 (ht.b0 w2 hw).a hb.a) fun ya _=>⟨fun _ hw=>hw.gY [1,2] rfl,az<|az<|ga rfl<|cd (xs:=[_]) (vs:=[_]) C89 ⟨(.r rfl),trivial⟩ (fun w2 hw=>yg t.pa t.pp t.pc w2 (ht.b0 w2 hw).p hb.p) fun yp _=>⟨fun _ hw=>hw.gY [2,3] rfl,az<|az<|ga rfl<|cd (xs:=[_]) (vs:=[_]) C89 ⟨(.r rfl),trivial⟩ (fun w2 hw=>yg t.ch t.cp t.cc w2 (ht.b0 w2 hw).c hb.c) fun yc _=>⟨fun _ hw=>hw.gY [3,4] rfl,az<|hX<|cq 4 (vs:=[_]) (C':=[_,_,_,_,_,_]) (L':=[_,_,_,_,_]) qL rfl rfl rfl rfl rfl rfl rfl rfl<|⟨fun _ hw=>hw.gY [3] rfl,az<|hX<|cq 4 (vs:=[_]) (C':=[_,_,_,_,_,_]) (L':=[_,_,_,_,_]) qL rfl rfl rfl rfl rfl rfl rfl rfl<|⟨fun _ hw=>hw.gY [3] rfl,az<|hX<|cq 4 (vs:=[_]) (C':=[_,_,_,_,_,_]) (L':=[_,_,_,_,_]) qL rfl rfl rfl rfl rfl rfl rfl rfl<|⟨fun _ hw=>hw.gY [3] rfl,fB ?_⟩⟩⟩⟩⟩⟩))
 refine aj<|au (ah (aX (vs:=[_,_,_,_,_,_]) Sq (.r rfl) (aF 4 rfl ⟨_,rfl⟩) rfl) rfl<|cu<|cq 3 (vs:=[_,_,_,_,_,_]) (C':=[_,_,_,_,_,_]) (L':=[_,_,_,_,_]) vU rfl rfl rfl rfl rfl rfl rfl rfl<|aq<|be (dh (vs:=[_]) rfl ⟨RV.agg (vs:=[_,_,_,_,_,_]) Sq rfl (aF 3 rfl ⟨_,rfl⟩) rfl,trivial⟩ (fun w hw=>?_)))
 exact⟨⟨ya.p,ya.c,yp.p,yp.c,yc.p,yc.c⟩,trivial,rfl,dq [2,1,0] rfl rfl _ hw⟩
theorem wm (b:Nat) (h:jk) (la:Int) (q:B1) (pt:Option Addr) (ct:Nat) (kd:Nat→Int) (tk:List cH) (w:World) (hb:fG w ⟨b,0,none⟩ (uO h la q pt tk.length ct kd)) (htk:RO 6 e9 w pt tk) (hti:∀t,t∈tk→VL w t) (htb:∀t,t∈tk→Wx t) (hl:tk.length≤1000000):
 Calls af 23 #[.pointer (some ⟨b,0,none⟩)] w fun e w'=>∃y:F4,y.tk.map dG=tk.map dG∧e= .returned (.slice y.p y.tk.length y.c)∧St (bs w) y.R w':=by
 refine enter (vs:=[_]) (env:=[(0,_)]) Tryz.func23 rfl rfl rfl rfl ?_
 refine au (ax rfl<|aq<|av<|au (ag rfl<|ah (bK (xs:=[_]) (vs:=[_]) R0 ⟨(.r rfl),trivial⟩ (fun w2 hw=>o6 b h la q pt tk.length ct kd w2 (bj hb w2 hw))) rfl<|ah (LO.not (.r rfl)) rfl<|aq ?_))
 refine ay rfl (fun h8=>?_) (fun h8=>?_)
 · (exfalso;exact h8 rfl)
 ·
  refine aE (aj<|au (ax rfl<|aq<|av<|au (ag rfl<|ah (cV (.r rfl)) rfl<|bO (r:=9) pK rfl<|ah (aC K5 (.r rfl) (bj (bI (off:=9) hb ⟨_,rfl⟩))) rfl<|ah (bE tY (.r rfl) rfl) rfl<|ag rfl<|aN ?_)))
  refine aj<|aD<|bS (α:=Nat×(List cH)×(Option Addr)×Nat) 0 (fun gx=>[(3,.slice gx.2.2.1 gx.2.1.length gx.2.2.2),(14,.int .i64 (gx.1:Nat))]) [(12,_),(13,_)] (fun gx=>[own 76 6 gx.2.2.1 gx.2.2.2 (gx.2.1.map e9),bV (gx.2.1.map gl),bV (gx.2.1.map ff),bV (gx.2.1.map ef)]) (fun gx=>gx.1≤tk.length∧gx.2.1.map dG=(tk.map dG).take gx.1) (fun gx=>tk.length-gx.1) (0,[],none,0) (by exact⟨aY _,rfl⟩) (.c4 rfl rfl rfl rfl .nil) (fun _ h=>((St.bV (Rs:=[]) (St.bV (Rs:=[]) (St.bV (Rs:=[]) h))).fX 76 6)) ?_
  rintro ⟨k,tr,po,co⟩ ⟨hk,hm⟩
  show VC _ _ _ _ _ ([(3,.slice po tr.length co),(14,.int .i64 (k:Nat))]++_) ([own 76 6 po co (tr.map e9),bV (tr.map gl),bV (tr.map ff),bV (tr.map ef)]++_) _ _
  dsimp only at hk hm
  have htl:tr.length≤k:=by have z:=congrArg dv hm;rw[ak,eU]at z;omega
  refine au (dK rfl<|aq<|av<|ay rfl (fun h15=>?_) (fun h15=>?_))
  ·
   obtain⟨t,hkt⟩:=du (l:=tk) (n:=k) (by omega)
   refine aE (aj<|av<|aD<|au (ah (bM tY vU htk.sm (.r rfl) (.r rfl) rfl (by omega)) rfl<|ah (aX (vs:=[_,_,_,_,_,_]) Sq (.r rfl) (fun w hw=>aA (off:=0) ((fun w3 h3=>RO.jX (htk.b0 w3 h3) hkt) w hw) ⟨_,rfl⟩) rfl) rfl<|aB rfl<|cJ (C:=#[_,_,_,_,_,_]) Qp rfl fun b5=>cu<|cq 0 (vs:=[_,_,_,_,_,_]) (C':=[_,_,_,_,_,_]) (L':=[_,_,_,_,_]) vU rfl rfl rfl rfl rfl rfl rfl rfl<|aq<|aM (ag rfl<|ah (aX (vs:=[_,_,_,_,_,_]) Sq (.r rfl) (aF 0 rfl ⟨_,rfl⟩) rfl) rfl<|aB rfl<|cd (xs:=[_]) (vs:=[_]) C58 ⟨(.r rfl),trivial⟩ (fun w hw=>N6 t w ((hti t (al hkt)).b0 w hw) (htb t (al hkt))) fun y _=>aB rfl<|eW (ps:=[(_,_)]) (vs:=[(_,_)]) (Z:=[_,_,_,_,_,_]) (C:=[_,_,_,_,_,_]) tY Qp vU ⟨(.r rfl),trivial⟩ rfl rfl rfl rfl ⟨_,[_,_,_,_,_,_],[_,_,_,_,_,_],rfl,rfl,rfl,rfl,rfl⟩ fun b10=>aB rfl<|eP ((t.put y)) 5 0 (fun R=>[_,_,_,_,_,R,_,_,_]) tY tY I76 (.r rfl) (.r rfl) rfl rfl rfl rfl rfl rfl rfl (fun _=>rfl) rfl (by omega) fun p4 c4=>aB rfl<|aW (LO.as (.r rfl))<|aN ?_)))
   refine bB (aj<|aM (da rfl rfl (by omega) (by omega) rfl<|ag rfl<|aN<|aZ fun a w ha hw=>⟨(k+1,tr++[t.put y],p4,c4),⟨by dsimp only;omega,by dsimp only;rw[bG,hm,Sa hkt];rfl⟩,(by dsimp only;omega),ha.sub (.c4 rfl rfl rfl rfl .nil),(by dsimp only;rw[bG (f:=gl),bG (f:=ff),bG (f:=ef)];exact dq (L1:=[_,_,_,_]) [5,2,1,0] rfl rfl _ (kC (r:=ef (t.put y)) (Rs:=tr.map ef) (dq (L1:=ef (t.put y)::bV (tr.map ef)::[_,_,_,_,_]) [3,6,0,1,2,4,5] rfl rfl _ (kC (r:=ff (t.put y)) (Rs:=tr.map ff) (dq (L1:=ff (t.put y)::bV (tr.map ff)::[_,_,_,_,_,_]) [2,6,0,1,3,4,5,7] rfl rfl _ (kC (r:=gl (t.put y)) (Rs:=tr.map gl) (dq (L1:=gl (t.put y)::bV (tr.map gl)::[_,_,_,_,_,_,_]) [1,6,0,2,3,4,5,7,8] rfl rfl _ (hw))))))))⟩))
  ·
   refine bU (aH (aH (cB (aj<|au (ag rfl<|ax rfl<|aq<|be (dP rfl rfl (fun w hw=>?_)))))))
   have hke:k=tk.length:=by omega
   subst hke
   rw[Km]at hm
   exact⟨⟨tr,po,co⟩,hm,rfl,dq [0,1,2,3] rfl rfl _ hw⟩
theorem Du (b:Nat) (h:jk) (la:Int) (q:B1) (pt:Option Addr) (ct:Nat) (kd:Nat→Int) (tk:List cH) (w:World) (hb:fG w ⟨b,0,none⟩ (uO h la q pt tk.length ct kd)) (of:Nat×Nat→Option Nat) (ho:(jr Ay vZ h.bm (qK of)).inv w) (ks:List (Int×Int)) (hks:ks.Nodup) (hkm:∀a,a∈ks↔(qK of a).isSome=true):
 Calls af 24 #[.pointer (some ⟨b,0,none⟩)] w fun e w'=>e= .returned (.agg #[.int .i64 (q.nm:Int),.int .i64 (ks.length:Int),.int .i64 (tk.length:Int),.int .i64 (kd 2),.int .i64 (kd 3),.int .i64 (kd 4),.int .i64 (kd 5),.int .i64 (kd 6),.int .i64 (kd 7)])∧St (bs w) [] w':=by
 refine enter (vs:=[_]) (env:=[(0,_)]) Tryz.func24 rfl rfl rfl rfl ?_
 refine au (aB rfl<|cJ (C:=#[_,_,_,_,_,_,_,_,_]) Z78 rfl fun b1=>aq<|av<|au (ag rfl<|ah (bK (xs:=[_]) (vs:=[_]) R0 ⟨(.r rfl),trivial⟩ (fun w2 hw=>o6 b h la q pt tk.length ct kd w2 (bj hb w2 hw))) rfl<|ah (LO.not (.r rfl)) rfl<|aq ?_))
 refine ay rfl (fun h5=>?_) (fun h5=>?_)
 · (exfalso;exact h5 rfl)
 ·
  refine aE (aj<|av<|eC [[0],[]] [some 0,some 0,some 0,some 0,some 0,some 0,some 0,some 0,some 0,some 0,some 0,some 0,some 0,some 0,some 0,some 0,some 0,some 0,some 0,some 0,some 0,some 0,some 0,some 0,some 0,some 0,some 0,some 0,some 0,some 0,some 0,some 0,some 0,some 0,some 0,some 0,some 0,some 0,some 0,some 0,some 0,some 0,some 0,some 0,some 0,some 0,none] mixed (by kernel_rfl) rfl (cT rfl<|aG (fun _ hJ=>cV (.r rfl)) rfl<|aG (fun _ hJ=>aP (r:=8) oW (.r rfl) rfl) rfl<|aG (fun _ hJ=>aC KD (.r rfl) (bj (bI (off:=8) hb ⟨_,rfl⟩))) rfl<|aG (fun _ hJ=>bE A9 (.r rfl) rfl) rfl<|cT rfl<|aG (fun _ hJ=>cV (.r rfl)) rfl<|aG (fun _ hJ=>aP (r:=10) tO (.r rfl) rfl) rfl<|aG (fun _ hJ=>aC SA (.r rfl) (bj (bI (off:=10) hb ⟨_,rfl⟩))) rfl<|aG (fun _ hJ=>LO.abd (kE:=Ay) (vE:=vZ) (M:=qK of) ⟨_,_,Tryz.underlying81⟩ (.r rfl) rfl (fun _ hw=>pB ho _ (hJ _ hw)) KP.inj hks hkm rfl) rfl<|cT rfl<|aG (fun _ hJ=>cV (.r rfl)) rfl<|aG (fun _ hJ=>aP (r:=9) pK (.r rfl) rfl) rfl<|aG (fun _ hJ=>aC K5 (.r rfl) (bj (bI (off:=9) hb ⟨_,rfl⟩))) rfl<|aG (fun _ hJ=>bE tY (.r rfl) rfl) rfl<|cT rfl<|aG (fun _ hJ=>cV (.r rfl)) rfl<|aG (fun _ hJ=>aP (r:=11) xo (.r rfl) rfl) rfl<|aG (fun _ hJ=>rO (j:=2) (r:=13) iZ N3 (.r rfl) (.r rfl) rfl (by decide) rfl) rfl<|aG (fun _ hJ=>aC O3 (.r rfl) (bj (bI (off:=13) hb ⟨_,rfl⟩))) rfl<|cT rfl<|aG (fun _ hJ=>cV (.r rfl)) rfl<|aG (fun _ hJ=>aP (r:=11) xo (.r rfl) rfl) rfl<|aG (fun _ hJ=>rO (j:=3) (r:=14) iZ N3 (.r rfl) (.r rfl) rfl (by decide) rfl) rfl<|aG (fun _ hJ=>aC O3 (.r rfl) (bj (bI (off:=14) hb ⟨_,rfl⟩))) rfl<|cT rfl<|aG (fun _ hJ=>cV (.r rfl)) rfl<|aG (fun _ hJ=>aP (r:=11) xo (.r rfl) rfl) rfl<|aG (fun _ hJ=>rO (j:=4) (r:=15) iZ N3 (.r rfl) (.r rfl) rfl (by decide) rfl) rfl<|aG (fun _ hJ=>aC O3 (.r rfl) (bj (bI (off:=15) hb ⟨_,rfl⟩))) rfl<|cT rfl<|aG (fun _ hJ=>cV (.r rfl)) rfl<|aG (fun _ hJ=>aP (r:=11) xo (.r rfl) rfl) rfl<|aG (fun _ hJ=>rO (j:=5) (r:=16) iZ N3 (.r rfl) (.r rfl) rfl (by decide) rfl) rfl<|aG (fun _ hJ=>aC O3 (.r rfl) (bj (bI (off:=16) hb ⟨_,rfl⟩))) rfl<|cT rfl<|aG (fun _ hJ=>cV (.r rfl)) rfl<|aG (fun _ hJ=>aP (r:=11) xo (.r rfl) rfl) rfl<|aG (fun _ hJ=>rO (j:=6) (r:=17) iZ N3 (.r rfl) (.r rfl) rfl (by decide) rfl) rfl<|aG (fun _ hJ=>aC O3 (.r rfl) (bj (bI (off:=17) hb ⟨_,rfl⟩))) rfl<|cT rfl<|aG (fun _ hJ=>cV (.r rfl)) rfl<|aG (fun _ hJ=>aP (r:=11) xo (.r rfl) rfl) rfl<|aG (fun _ hJ=>rO (j:=7) (r:=18) iZ N3 (.r rfl) (.r rfl) rfl (by decide) rfl) rfl<|aG (fun _ hJ=>aC O3 (.r rfl) (bj (bI (off:=18) hb ⟨_,rfl⟩))) rfl<|aG (fun _ hJ=>fA (ps:=[(_,_),(_,_),(_,_),(_,_),(_,_),(_,_),(_,_),(_,_),(_,_)]) (vs:=[(_,_),(_,_),(_,_),(_,_),(_,_),(_,_),(_,_),(_,_),(_,_)]) (C:=[_,_,_,_,_,_,_,_,_]) B78 ⟨(.r rfl),(.r rfl),(.r rfl),(.r rfl),(.r rfl),(.r rfl),(.r rfl),(.r rfl),(.r rfl),trivial⟩ rfl ⟨_,[_],[_,_,_,_,_,_,_,_,_],rfl,rfl,rfl,rfl,⟨_,[_],[_,_,_,_,_,_,_,_,_],rfl,rfl,rfl,rfl,⟨_,[_],[_,_,_,_,_,_,_,_,_],rfl,rfl,rfl,rfl,⟨_,[_],[_,_,_,_,_,_,_,_,_],rfl,rfl,rfl,rfl,⟨_,[_],[_,_,_,_,_,_,_,_,_],rfl,rfl,rfl,rfl,⟨_,[_],[_,_,_,_,_,_,_,_,_],rfl,rfl,rfl,rfl,⟨_,[_],[_,_,_,_,_,_,_,_,_],rfl,rfl,rfl,rfl,⟨_,[_],[_,_,_,_,_,_,_,_,_],rfl,rfl,rfl,rfl,⟨_,[_],[_,_,_,_,_,_,_,_,_],rfl,rfl,rfl,rfl,rfl⟩⟩⟩⟩⟩⟩⟩⟩⟩) rfl<|dC<|fj) (az<|az<|az<|az<|az<|az<|az<|az<|az<|az<|az<|az<|az<|az<|az<|az<|az<|az<|az<|az<|az<|az<|az<|az<|az<|az<|az<|az<|az<|az<|az<|az<|az<|az<|az<|az<|az<|az<|az<|az<|az<|az<|az<|az<|az<|az<|hX<|cq 0 (vs:=[_,_,_,_,_,_,_,_,_]) (C':=[_,_,_,_,_,_,_,_,_]) (L':=[_]) N78 rfl rfl rfl rfl rfl rfl rfl rfl<|⟨fun _ hw=>hw.gY [] rfl,fB ?_⟩))
  refine aj<|be (dh (vs:=[_]) rfl ⟨RV.agg (vs:=[_,_,_,_,_,_,_,_,_]) A78 rfl (aF 0 rfl ⟨_,rfl⟩) rfl,trivial⟩ (fun w hw=>?_))
  exact⟨rfl,hw.nil⟩
theorem YK (b:Nat) (h:jk) (la:Int) (q:B1) (pt:Option Addr) (ct:Nat) (kd:Nat→Int) (tk:List cH) (w:World) (hb:fG w ⟨b,0,none⟩ (uO h la q pt tk.length ct kd)) (of:Nat×Nat→Option Nat) (ho:(jr Ay vZ h.bm (qK of)).inv w) (n m:Int):
 Calls af 12 #[.pointer (some ⟨b,0,none⟩),.int .i64 n,.int .i64 m] w fun e w'=>e= .returned (.tuple #[.int .i64 (((qK of (n,m)).getD 0:Nat):Int),.int .i64 (if(qK of (n,m)).isSome=true then 0 else 4)])∧St (bs w) [] w':=by
 refine enter (vs:=[_,_,_]) (env:=[(0,_),(1,_),(2,_)]) Tryz.func12 rfl rfl rfl rfl ?_
 refine au (ax rfl<|ax rfl<|aq<|av<|au (ag rfl<|ah (bK (xs:=[_]) (vs:=[_]) R0 ⟨(.r rfl),trivial⟩ (fun w2 hw=>o6 b h la q pt tk.length ct kd w2 (bj hb w2 hw))) rfl<|ah (LO.not (.r rfl)) rfl<|aq ?_))
 refine ay rfl (fun h12=>?_) (fun h12=>?_)
 · (exfalso;exact h12 rfl)
 ·
  refine aE (aj<|au (ag rfl<|ah (cV (.r rfl)) rfl<|bO (r:=10) tO rfl<|ah (aC SA (.r rfl) (bj (bI (off:=10) hb ⟨_,rfl⟩))) rfl<|ag rfl<|ag rfl<|ah (fA (ps:=[(_,_),(_,_)]) (vs:=[(_,_),(_,_)]) (C:=[_,_]) Vi ⟨(.r rfl),(.r rfl),trivial⟩ rfl ⟨_,[_],[_,_],rfl,rfl,rfl,rfl,⟨_,[_],[_,_],rfl,rfl,rfl,rfl,rfl⟩⟩) rfl<|ah (LO.lkG (n:=(n,m)) XF (.r rfl) (.r rfl) (pB ho)) rfl<|ag rfl<|ah (LO.ex (.r rfl) rfl) rfl<|ah (LO.ex (.r rfl) rfl) rfl<|ax rfl<|ax rfl<|aq<|av<|au (ag rfl<|ah (LO.not (.r rfl)) rfl<|aN ?_)))
  refine aj<|ay rfl (fun h25=>?_) (fun h25=>?_)
  ·
   refine au (ax rfl<|ax rfl<|aq<|be (bA (dh (vs:=[_,_]) rfl ⟨rfl,rfl,trivial⟩ (fun w hw=>?_))))
   refine⟨?_,hw.nil⟩
   first |(have hz:qK of (n,m)=none:=by simpa using h25);rw[hz];rfl|(have hz:(qK of (n,m)).isSome=true:=rP.2 (by simpa using h25));rw[if_pos hz];rfl
  ·
   refine aE (aj<|au (ag rfl<|ax rfl<|ax rfl<|aq<|be (dh (vs:=[_,_]) rfl ⟨rfl,rfl,trivial⟩ (fun w hw=>?_))))
   refine⟨?_,hw.nil⟩
   first |(have hz:qK of (n,m)=none:=by simpa using h25);rw[hz];rfl|(have hz:(qK of (n,m)).isSome=true:=rP.2 (by simpa using h25));rw[if_pos hz];rfl
theorem C83:fh af 83:=⟨_,Tryz.func83,by decide,rfl⟩
theorem C79:fh af 79:=⟨_,Tryz.func79,by decide,rfl⟩
end Go.Proofs.YtgemekpofpoopaaGreat
namespace Go.Proofs
open Go.Shelf
def Tryz.Bz:yC:=⟨fun|7=>98|10=>115|n=>n,fun|23=>191|26=>3|3=>4|28=>134|0=>0|27=>133|33=>130|4=>4|n=>n,fun|n=>n⟩
theorem Tryz.Ui:Go.Proofs.SlLaysZI.n7 af Tryz.Bz:={
 mixed:=by kernel_rfl
 f7:=⟨Tryz.f98.name,by decide,Tryz.func98.trans (congrArg some (by kernel_rfl))⟩
 f10:=⟨Tryz.f115.name,by decide,Tryz.func115.trans (congrArg some (by kernel_rfl))⟩
 t0:=rY
 a0:=Tryz.isAgg0
 z0:=Tryz.sizeOf0
 v0:=s4
 t4:=Tryz.underlying4
 a4:=Tryz.isAgg4
 z4:=Tryz.sizeOf4
 v4:=Tryz.zeroValue4
 t23:=Tryz.underlying191
 a23:=Tryz.isAgg191
 z23:=Tryz.sizeOf191
 v23:=Tryz.zeroValue191
 t26:=dJ
 a26:=Tryz.isAgg3
 z26:=Tryz.sizeOf3
 v26:=s5
 t27:=Tryz.underlying133
 a27:=Tryz.isAgg133
 z27:=Tryz.sizeOf133
 v27:=Tryz.zeroValue133
 t28:=vG
 a28:=Tryz.isAgg134
 z28:=Tryz.sizeOf134
 v28:=wO
 t33:=Tryz.underlying130
 a33:=Tryz.isAgg130
 z33:=Tryz.sizeOf130
 v33:=Tryz.zeroValue130 }
def Tryz.w9:yC:=⟨fun|6=>97|8=>114|9=>68|11=>122|13=>91|12=>90|23=>111|24=>112|14=>102|15=>103|16=>104|17=>105|18=>106|19=>107|20=>108|21=>109|22=>110|25=>116|26=>117|27=>118|28=>119|29=>120|30=>121|31=>123|n=>n,fun|26=>3|28=>134|24=>55|0=>0|3=>3|37=>177|48=>195|50=>198|4=>4|40=>203|39=>202|45=>120|5=>5|9=>9|51=>212|55=>216|57=>219|58=>220|33=>130|n=>n,fun|n=>n⟩
theorem Tryz.Q1:Go.Proofs.SlLaysZI.n6 af Tryz.w9:={
 mixed:=by kernel_rfl
 f6:=⟨Tryz.f97.name,by decide,Tryz.func97.trans (congrArg some (by kernel_rfl))⟩
 f8:=⟨Tryz.f114.name,by decide,Tryz.func114.trans (congrArg some (by kernel_rfl))⟩
 f11:=⟨Tryz.f122.name,by decide,Tryz.func122.trans (congrArg some (by kernel_rfl))⟩
 t0:=rY
 a0:=Tryz.isAgg0
 z0:=Tryz.sizeOf0
 v0:=s4
 t24:=Tryz.underlying55
 a24:=Tryz.isAgg55
 z24:=Tryz.sizeOf55
 v24:=Tryz.zeroValue55
 t26:=dJ
 a26:=Tryz.isAgg3
 z26:=Tryz.sizeOf3
 v26:=s5
 t28:=vG
 a28:=Tryz.isAgg134
 z28:=Tryz.sizeOf134
 v28:=wO
 i26:=by kernel_rfl }
end Go.Proofs
set_option linter.unusedVariables false
set_option linter.unusedSimpArgs false
namespace Go.Proofs
open Go.RowKit Go.Maps Go.Sort Go.Shelf
theorem Tryz.WC (m:Nat):AnyZI.SortsIn af Tryz.w9 lD m:=
  ⟨fun gq off cap ss W hH hblk hsz=>callsIn_wide.2 (Tryz.slices_Sort_int gq off cap ss W hH hblk hsz),
   fun p cap W=>callsIn_wide.2 (Tryz.slices_Sort_int_none p cap W)⟩
theorem Tryz.K0 (mb:Option Nat) (W:World):Calls af 98 #[.map mb] W fun e w'=>e= .returned (.func (.func 115) #[] #[.pointer (some ⟨W.heap.size,0,none⟩)])∧w'=W.alloc (.cells #[.map mb] 191):=
 (callsIn_wide (n:=5)).1 (AnyZI.keys_in Tryz.Ui lD 5 trivial rfl mb W)
theorem Tryz.Da {H:Type} (k b nn:Nat) (D0:DataW H) (R:Value→Option (DataW H×List MemPlace)) (w:World) (hk:w.heap[k]? =some (.cells #[.map (some b)] 191 (0,0))) (hown:w.ownsMap af 3 R b nn D0) (hmax:vH D0≤maxLen) (hbytes:vH D0*8≤140737488355328):
  Calls af 97 #[.func (.func 115) #[] #[.pointer (some ⟨k,0,none⟩)]] w fun e w'=>∃(v:Value) (ss:List Int),e= .returned v∧ss.Perm (intKeys D0)∧
   w'.ownsRow w.heap.size 3 1 v ss.length ((ss.mergeSort (fun x y=>decide (x≤y))).map encZ)∧(v= .slice none 0 0↔ss=[])∧Below w.heap.size w w':=by
 refine(callsIn_wide (n:=6)).1 ?_
 have hkl:k<w.heap.size:=(fV.1 hk).1
 have hseq:SeqGives lD 3 af 115 #[.pointer (some ⟨k,0,none⟩)] encZ (fun ss=>ss.Perm (intKeys D0)) (vH D0) w:=
  AnyZI.keys_gives (ρ:=Tryz.Bz) { Tryz.Ui with } lD _ trivial rfl (by omega) k b nn D0 _ hkl (by simp [World.cell?,hk]) hown
 have cS:=AnyZI.sorted_in Tryz.Q1 lD 6 trivial trivial trivial trivial rfl (by omega) (Tryz.WC _) (enters_of Tryz.func68 (by kernel_rfl) rfl) 115 #[.pointer (some ⟨k,0,none⟩)] trivial (enters_of Tryz.func115 (by kernel_rfl) rfl) _ _ hmax hbytes _ hseq
 exact cS
end Go.Proofs
namespace Go.Proofs.YtgemekpofpoopaaGreat
open Go.SL Go.Proofs Go.sM Go.Sort Go.Maps
theorem FZ {w w':World} {E z:Nat} {v:Value} {n:Nat} {l:List (List Value)} (hz:∀r∈l,r.length=z) (hl:l.length=n) (h:w'.ownsRow w.heap.size E z v n l.flatten) (hb:Go.RowKit.Below w.heap.size w w'):
  ∃(p:Option Addr) (c:Nat),v= .slice p n c∧St (bs w) [own E z p c l] w':=by
 obtain⟨h1,h2⟩:=h
 have hpre:∀k,k<w.heap.size→w'.heap[k]? =w.heap[k]? :=hb.block
 rcases h2 with⟨e,e0⟩|⟨g,cap,cur,e,hg,hc,hn,hm,hs,ht⟩
 ·have el:l=[]:=List.length_eq_zero_iff.1 (by omega)
  subst el;subst e0
  refine⟨none,0,e,hb.os,hb.tape,hb.output,hb.size,fun k hk _=>hpre k hk,?_,?_,?_⟩
  ·intro i r hr
   cases i with
   |zero=>cases hr;exact⟨by simp,by simp,fun _=>⟨rfl,rfl⟩,fun a q=>(by cases q)⟩
   |succ i=>simp at hr
  ·intro i r hr k hk
   cases i with
   |zero=>cases hr;exact absurd rfl hk.1
   |succ i=>simp at hr
  ·intro i j r s hij hr hs
   cases i with
   |zero=>cases j with|zero=>exact absurd rfl hij|succ j=>simp at hs
   |succ i=>simp at hr
 ·refine⟨some ⟨g,0,none⟩,cap,e,hb.os,hb.tape,hb.output,hb.size,fun k hk _=>hpre k hk,?_,?_,?_⟩
  ·intro i r hr
   cases i with
   |zero=>
    cases hr
    refine⟨by omega,hz,fun q=>(by cases q),fun a q=>?_⟩
    cases q
    refine⟨rfl,rfl,cur,cur.toList.drop (n*z),hc,?_,hs⟩
    rw[←ht,List.take_append_drop]
   |succ i=>simp at hr
  ·intro i r hr k hk
   cases i with
   |zero=>
    cases hr
    have e:k=g:=hk.2
    subst e
    exact⟨.inr hg,(fV.1 hc).1⟩
   |succ i=>simp at hr
  ·intro i j r s hij hr hs
   cases i with
   |zero=>cases j with|zero=>exact absurd rfl hij|succ j=>simp at hs
   |succ i=>simp at hr
theorem N9 (l:List Int):(l.map Az).flatten=l.map encZ:=tA l
theorem ND (l:List Int):∀r∈l.map Az,r.length=1:=fun r hr=>by obtain⟨x,_,rfl⟩:=bN.1 hr;rfl
theorem Wj (mb:Option Nat) (w:World):Calls af 98 #[.map mb] w fun e w'=>∃k:Nat,True∧e= .returned (.func (.func 115) #[] #[.pointer (some ⟨k,0,none⟩)])∧St (bs w) [gq k (.cells #[.map mb] 191)] w':=
 (Tryz.K0 mb w).mono fun e w' ⟨h1,h2⟩=>⟨w.heap.size,trivial,h1,by subst h2;exact(St.refl w).alloc _⟩
def Og (S:Int→Bool) (l:List Int):Prop:=l.Pairwise (· < ·)∧∀n,n∈l↔S n=true
def Av (e:MapEntry):Int:=match e.key with| .int _ n=>n|_=>0
theorem Mr {S:Int→Bool} {l:List Int} (hn:l.Nodup) (hm:∀n,n∈l↔S n=true):Og S (l.mergeSort fun x y=>decide (x≤y)):=by
 have tr:∀a b c:Int,decide (a≤b)=true→decide (b≤c)=true→decide (a≤c)=true:=fun a b c h1 h2=>by simp only[decide_eq_true_eq]at*;omega
 have to:∀a b:Int,(decide (a≤b)||decide (b≤a))=true:=fun a b=>by simp only[Bool.or_eq_true,decide_eq_true_eq];omega
 have hp:=List.mergeSort_perm l fun x y=>decide (x≤y)
 have h1:=List.pairwise_mergeSort tr to l
 have h2:(l.mergeSort fun x y=>decide (x≤y)).Nodup:=hp.nodup_iff.2 hn
 refine⟨?_,fun n=>by rw[hp.mem_iff];exact hm n⟩
 refine(List.pairwise_and_iff.2 ⟨h1,h2⟩).imp fun {a b} h=>?_
 have h3:=h.1;have h4:=h.2
 simp only[decide_eq_true_eq]at h3
 omega
theorem Mt (k b:Nat) (m:List Int) (w:World) (hk:w.heap[k]? =some (.cells #[.map (some b)] 191 (0,0))) (hb:(vT b (sD m)).inv w) (hm:∀n,n∈m→ -9223372036854775808≤n∧n≤9223372036854775807) (hl:m.length≤1000000000000):
  Calls af 97 #[.func (.func 115) #[] #[.pointer (some ⟨k,0,none⟩)]] w fun e w'=>∃x:Option Addr×Nat×List Int,(Og (sD m) x.2.2∧x.2.2.length≤m.length)∧e= .returned (.slice x.1 x.2.2.length x.2.1)∧St (bs w) [own 3 1 x.1 x.2.1 (x.2.2.map Az)] w':=by
 obtain⟨es,clock,h1,hS,hst⟩:=hb
 have hkey:∀e,e∈es.toList→∃n,e.key= .int .i64 n∧sD m n=true:=fun e he=>by obtain⟨n,e1,_,e2⟩:=hS.IJ e he;exact⟨n,e1,e2⟩
 have hin:∀n,sD m n=true→n∈m:=fun n h=>by simpa [sD]using h
 have hu:af.underlying 3=some (.int .i64):=dJ
 have hko:∀n,sD m n=true→keyOf af 3 (.int .i64 n)=some (.int .i64 n):=fun n h=>by
  have:=hm n (hin n h)
  have hwf:(Lit.int .i64 n).wf=true:=by simp only[Lit.wf,Bool.and_eq_true,decide_eq_true_eq];exact this
  simp [keyOf,hu,mapKey,hwf]
 let R:Value→Option (DataW Unit×List MemPlace):=fun _=>some (.nil,[])
 have hrd:∀e,e∈es.toList→Xl af 3 R e=some (.int .i64 (Av e),.nil):=fun e he=>by
  obtain⟨n,e1,e2⟩:=hkey e he
  simp [Xl,e1,hko n e2,R,Av]
 have hndk:(es.toList.map (·.key)).Nodup:=gk.2 hS.Bg
 have hki:∀e,e∈es.toList→e.key= .int .i64 (Av e):=fun e he=>by obtain⟨n,e1,_⟩:=hkey e he;simp [Av,e1]
 have hnd:(es.toList.map Av).Nodup:=gk.2 (hS.Bg.imp_of_mem fun {a b} ha hb hne e=>hne (by rw[hki a ha,hki b hb,e]))
 have hmem:∀n,n∈es.toList.map Av↔sD m n=true:=fun n=>by
  rw[bN]
  constructor
  ·rintro ⟨e,he,rfl⟩
   obtain⟨q,e1,e2⟩:=hkey e he
   simpa [Av,e1]using e2
  ·intro h
   obtain⟨e,he,e1⟩:=hS.mem n h
   refine⟨e,he,?_⟩
   have e2:=hki e he
   rw[e1]at e2
   exact(pJ (a:=n) (b:=Av e) e2).symm
 have hlen:es.size≤m.length:=by
  have h3:((es.toList.map Av).length)≤m.length:=List.Nodup.length_le_of_subset hnd (fun n h=>hin n ((hmem n).1 h))
  simpa using h3
 have F:Go.WideElems.Fit af 3 R es clock:=⟨by simp only[maxLen];omega,⟨hst.2,hst.1,hndk⟩,fun e he=>⟨_,hrd e he⟩⟩
 have hown:=World.ownsMap_of_fit (R:=R) h1 F (fun _ _ _ h=>h)
 have hsz:vH (DataW.map ((es.toList.map (Xm af 3 R)).foldr DataW.insert []))=es.size:=by simp [vH,length_sorted]
 refine(Tryz.Da k b es.size _ R w hk hown (by rw[hsz];simp only[maxLen];omega) (by rw[hsz];omega)).mono fun e w' ⟨v,ss,h2,h3,h4,_,h5⟩=>?_
 have hp:ss.Perm (es.toList.map Av):=by
  refine h3.trans ?_
  show(List.map (fun p:Lit×DataW Unit=>Go.intOf p.1) ((es.toList.map (Xm af 3 R)).foldr DataW.insert [])).Perm _
  refine((Go.WideShapes.sorted_perm _).map _).trans ?_
  rw[List.map_map]
  refine List.Perm.of_eq (List.map_congr_left fun e he=>?_)
  simp [Go.WideElems.rg_of (hrd e he),Go.intOf]
 have hA:=Mr (S:=sD m) (hp.nodup_iff.2 hnd) (fun n=>by rw[hp.mem_iff];exact hmem n)
 have hL:(ss.mergeSort fun x y=>decide (x≤y)).length=ss.length:=List.length_mergeSort ..
 obtain⟨p,c,e1,e2⟩:=FZ (l:=(ss.mergeSort fun x y=>decide (x≤y)).map Az) (ND _) (by rw[ak,hL]) (by rw[N9];exact h4) h5
 refine⟨(p,c,_),⟨hA,?_⟩,by rw[hL,h2,e1],e2⟩
 show(ss.mergeSort fun x y=>decide (x≤y)).length≤_
 rw[hL,hp.length_eq];simpa using hlen
end Go.Proofs.YtgemekpofpoopaaGreat
namespace Go.Proofs.YtgemekpofpoopaaGreat
open Go.SL Go.Proofs Go.sM Go.Cell
set_option linter.unusedVariables false
theorem B23:fU af 23 [(0,1),(1,1),(2,1),(3,1),(4,1)] [.int .i64 0,.int .i64 0,.int .i64 0,.int .i64 0,.int .i64 0]:=fU.mk fun _=>by kernel_rfl
theorem B35:fU af 35 [(0,5),(5,1)] [.int .i64 0,.int .i64 0,.int .i64 0,.int .i64 0,.int .i64 0,.slice none 0 0]:=fU.mk fun _=>by kernel_rfl
theorem I58:j6 af 58 2 16 (.agg #[.int .i64 0,.int .i64 0]):=⟨by kernel_rfl,by kernel_rfl,by unfold dr;kernel_rfl,rfl,by decide⟩
theorem N33:(af.info? 33).map (·.size)=some 1:=by kernel_rfl
theorem Qk:fh af 16:=⟨_,Tryz.func16,by decide,rfl⟩
def og (l:List Int) (k:Nat):List Span:=(bF k).map fun i=>⟨l.getD (2*i) 0,l.getD (2*i+1) 0⟩
def NV (l:List Int):List Span:=og l (l.length / 2)
theorem Ge {l:List Int} {k:Nat}:og l (k+1)=og l k++[⟨l.getD (2*k) 0,l.getD (2*k+1) 0⟩]:=by unfold og;rw[List.range_succ,bG];rfl
theorem K2 {l:List Int} {k:Nat}:(og l k).length=k:=by unfold og;simp
abbrev ZE (n:Nat):eo:=⟨0,0,1000,((n / 2:Nat):Int),1⟩
theorem NQ (n:Nat):((n:Int)).tdiv 2=((n / 2:Nat):Int):=rfl
theorem yD {w:World} {p:Option Addr} {l:List Nat} (h:RO 1 nC w p l):Ints w p (l.map fun n:Nat=>(n:Int)):=by
 unfold Ints;rw[List.map_map];exact h
theorem FK {α:Type} {a b:List α} (h:¬(a.length:Int)=b.length):¬a=b:=fun e=>h (by rw[e])
theorem Ca {a b:List (cG Int)} (h:¬(a.length:Int)=b.length):¬a.map dw=b.map dw:=fun e=>h (by have z:=congrArg dv e;rw[ak,ak]at z;rw[z])
theorem BW {l m:List Int} {i:Nat} (hi:i<l.length) (hm:i<m.length) (h:¬l.getD i 0=m.getD i 0):¬l=m:=fun e=>h (by rw[e])
theorem Cm {l m:List Int} (hl:l.length=m.length) (h:∀i,i<l.length→l.getD i 0=m.getD i 0):l=m:=by
 refine List.ext_getElem hl fun i h1 h2=>?_
 have:=h i h1
 rwa [aO,aO,aw h1,aw h2]at this
theorem D7 {P:Nat→Prop} {i:Nat} (h:∀k,k<i→P k) (hi:P i):∀k,k<i+1→P k:=fun k hk=>by
 rcases cZ.1 hk with q|rfl
 ·exact h k q
 ·exact hi
theorem Cv {ra rb:List (cG Int)} {i:Nat} {x y:cG Int} (hx:ra[i]? =some x) (hy:rb[i]? =some y) (h:¬x.l=y.l):¬ra.map dw=rb.map dw:=fun e=>h (by
 have h1:(ra.map dw)[i]? =some x.l:=by rw[aI,hx];rfl
 rw[e,aI,hy]at h1
 exact(eI h1).symm)
theorem B0 {ra rb:List (cG Int)} (hl:ra.length=rb.length) (h:∀i x y,i<ra.length→ra[i]? =some x→rb[i]? =some y→x.l=y.l):ra.map dw=rb.map dw:=by
 refine cM fun i=>?_
 rw[aI,aI]
 by_cases q:i<ra.length
 ·rw[aw q,aw (by omega)]
  exact congrArg some (h i _ _ q (aw q) (aw (by omega)))
 ·rw[aQ (by omega),aQ (by omega)]
theorem KJ {ra rb:List (cG Int)} {i:Nat} {x y:cG Int} (h:∀k x y,k<i→ra[k]? =some x→rb[k]? =some y→x.l=y.l) (hx:ra[i]? =some x) (hy:rb[i]? =some y) (e:x.l=y.l):∀k x y,k<i+1→ra[k]? =some x→rb[k]? =some y→x.l=y.l:=fun k x' y' hk h1 h2=>by
 rcases cZ.1 hk with q|rfl
 ·exact h k x' y' q h1 h2
 ·rw[hx]at h1;rw[hy]at h2;cases h1;cases h2;exact e
theorem TL (l:List Int) (p:Option Addr) (c:Nat) (w:World) (hl:Ints w p l) (hn:l.length≤1000):
 Calls af 14 #[.slice p l.length c] w fun e w'=>∃y:B9,True∧e= .returned (im (ZE l.length) y.p (NV l).length y.c)∧St (bs w) [own 58 2 y.p y.c ((NV l).map pG)] w':=by
 refine enter (vs:=[_]) (env:=[(0,_)]) Tryz.func14 rfl rfl rfl rfl ?_
 refine au (aB rfl<|cJ (C:=#[_,_,_,_,_,_]) WK rfl fun b1=>aq<|au (ag rfl<|ah (bE fk (.r rfl) rfl) rfl<|ah (eN (LO.quo (.r rfl) (.r rfl) (by omega) (wi (by rw[NQ];omega) (by rw[NQ];omega))) (congrArg (cX .i64) (NQ l.length))) rfl<|ah (fA (ps:=[(_,_),(_,_),(_,_)]) (vs:=[(_,_),(_,_),(_,_)]) (C:=[_,_,_,_,_]) B23 ⟨(.r rfl),(.r rfl),(.r rfl),trivial⟩ rfl ⟨_,[_],[_,_,_,_,_],rfl,rfl,rfl,rfl,⟨_,[_],[_,_,_,_,_],rfl,rfl,rfl,rfl,⟨_,[_],[_,_,_,_,_],rfl,rfl,rfl,rfl,rfl⟩⟩⟩) rfl<|ah (fA (ps:=[(_,_)]) (vs:=[(_,_)]) (C:=[_,_,_,_,_,_]) B35 ⟨(.r rfl),trivial⟩ rfl ⟨_,[_,_,_,_,_],[_,_,_,_,_,_],rfl,rfl,rfl,rfl,rfl⟩) rfl<|aB rfl<|cJ (C:=#[_,_,_,_,_,_]) WK rfl fun b2=>cu<|cq 0 (vs:=[_,_,_,_,_,_]) (C':=[_,_,_,_,_,_]) (L':=[_,_]) RX rfl rfl rfl rfl rfl rfl rfl rfl<|aq<|av ?_))
 refine au (ax rfl<|aq<|aD<|bS (α:=Nat×(Option Addr)×Nat) 1 (fun gx=>[(4,.int .i64 ((2*gx.1:Nat):Int))]) [(0,_),(2,_),(3,_)] (fun gx=>[gq b2 (.cells #[.int .i64 0,.int .i64 0,.int .i64 1000,.int .i64 ((l.length / 2:Nat):Int),.int .i64 1,.slice gx.2.1 (og l gx.1).length gx.2.2] 35),own 58 2 gx.2.1 gx.2.2 ((og l gx.1).map pG)]) (fun gx=>gx.1≤l.length / 2) (fun gx=>l.length / 2-gx.1) (0,none,0) (by exact aY _) (.c4 rfl rfl rfl rfl .nil) (fun _ h=>((h.fX 58 2)).gY [1,0,2] rfl) ?_)
 rintro ⟨k,po,co⟩ hk
 show VC _ _ _ _ _ ([(4,.int .i64 ((2*k:Nat):Int))]++_) ([gq b2 (.cells #[.int .i64 0,.int .i64 0,.int .i64 1000,.int .i64 ((l.length / 2:Nat):Int),.int .i64 1,.slice po (og l k).length co] 35),own 58 2 po co ((og l k).map pG)]++_) _ _
 dsimp only at hk
 refine av<|au (ag rfl<|da rfl rfl (by omega) (by omega) rfl<|ag rfl<|ah (bE fk (.r rfl) rfl) rfl<|dK rfl<|aq<|ay rfl (fun h14=>?_) (fun h14=>?_))
 ·
  refine aE (aj<|av<|aD<|eC [[0,1,2],[0,1,2],[0,2],[2]] [some 1,some 1,some 0,some 0,some 0,some 0,some 0,some 0,some 0,some 0,some 0,some 0,none,none,some 2,none] mixed (by kernel_rfl) rfl (aG (fun _ hJ=>aP (r:=5) lN (.r rfl) rfl) rfl<|aG (fun _ hJ=>aC zH (.r rfl) (fun _ hw=>cN (hJ _ hw) 0 rfl ⟨_,rfl⟩)) rfl<|cT rfl<|cT rfl<|aG (fun _ hJ=>bM fk N3 hl.some (.r rfl) (.r rfl) (by push_cast;rfl) (by omega)) rfl<|aG (fun _ hJ=>aC O3 (.r rfl) (fun w hw=>aA (off:=0) ((hl.at (j:=2*k) (by omega)) w (hJ _ hw)) ⟨_,rfl⟩)) rfl<|cT rfl<|cT rfl<|aG (fun _ hJ=>LO.add (.r rfl) (.r rfl) (wi (by omega) (by omega))) rfl<|aG (fun _ hJ=>bM fk N3 hl.some (.r rfl) (.r rfl) (by push_cast;rfl) (by omega)) rfl<|aG (fun _ hJ=>aC O3 (.r rfl) (fun w hw=>aA (off:=0) ((hl.at (j:=(2*k+1)) (by omega)) w (hJ _ hw)) ⟨_,rfl⟩)) rfl<|aG (fun _ hJ=>fA (ps:=[(_,_),(_,_)]) (vs:=[(_,_),(_,_)]) (C:=[_,_]) LW ⟨(.r rfl),(.r rfl),trivial⟩ rfl ⟨_,[_],[_,_],rfl,rfl,rfl,rfl,⟨_,[_],[_,_],rfl,rfl,rfl,rfl,rfl⟩⟩) rfl<|dC<|dC<|aG (fun _ hJ=>aP (r:=5) lN (.r rfl) rfl) rfl<|dC<|fj) (az<|az<|az<|az<|az<|az<|az<|az<|az<|az<|az<|az<|ga rfl<|eW (ps:=[(_,_)]) (vs:=[(_,_)]) (Z:=[_,_]) (C:=[_,_]) xq Z58 yA ⟨(.r rfl),trivial⟩ rfl rfl rfl rfl ⟨_,[_,_],[_,_],rfl,rfl,rfl,rfl,rfl⟩ fun b8=>⟨fun _ hw=>hw.gY [1,2,3] rfl,ga rfl<|eP ((⟨l.getD (2*k) 0,l.getD (2*k+1) 0⟩:Span)) (f:=pG) 2 0 (fun R=>[_,_,R,_]) xq xq I58 (.r rfl) (.r rfl) rfl rfl rfl rfl rfl rfl rfl (fun _=>rfl) rfl (by have:=@K2 l k;omega) fun p13 c13=>⟨fun _ hw=>hw.gY [1,3] rfl,az<|hX<|cq 1 (vs:=[_]) (C':=[_,_,_,_,_,_]) (L':=[_,_,_,_]) N33 rfl rfl rfl rfl rfl rfl rfl rfl<|⟨fun _ hw=>hw.gY [3] rfl,fB ?_⟩⟩⟩))
  refine bB (aj<|aM (ag rfl<|da rfl rfl (by omega) (by omega) rfl<|ax rfl<|aN<|aZ fun a w ha hw=>⟨(k+1,p13,c13),(by dsimp only;omega),(by dsimp only;omega),ha.sub (.cons (congrArg (fun z=>some (cX .i64 z)) (by push_cast;omega)) (.cons rfl (.cons rfl (.cons rfl .nil)))),(by dsimp only;rw[Ge];exact hw.gY [1,2,3] rfl)⟩))
 ·
  have hke:k=l.length / 2:=by omega
  subst hke
  refine bU (aH (aH (cB (aj<|au (ah (aX (vs:=[_,_,_,_,_,_]) oy (.r rfl) (aF 0 rfl ⟨_,rfl⟩) rfl) rfl<|cu<|cq 2 (vs:=[_,_,_,_,_,_]) (C':=[_,_,_,_,_,_]) (L':=[_,_,_]) RX rfl rfl rfl rfl rfl rfl rfl rfl<|aq<|be (dh (vs:=[_]) rfl ⟨RV.agg (vs:=[_,_,_,_,_,_]) oy rfl (aF 2 rfl ⟨_,rfl⟩) rfl,trivial⟩ (fun w hw=>?_)))))))
  exact⟨⟨po,co⟩,trivial,rfl,dq [1] rfl rfl _ hw⟩
theorem th (a b:List Int) (pa:Option Addr) (ca:Nat) (pb_:Option Addr) (cb:Nat) (w:World) (ha:Ints w pa a) (hb:Ints w pb_ b) (hn:a.length≤1000000):
 Calls af 16 #[.slice pa a.length ca,.slice pb_ b.length cb] w fun e w'=>e= .returned (.bool (decide (a=b)))∧St (bs w) [] w':=by
 refine enter (vs:=[_,_]) (env:=[(0,_),(1,_)]) Tryz.func16 rfl rfl rfl rfl ?_
 refine au (ax rfl<|aq<|av<|au (ag rfl<|ah (bE fk (.r rfl) rfl) rfl<|ag rfl<|ah (bE fk (.r rfl) rfl) rfl<|VO.u rfl<|aq ?_))
 refine ay rfl (fun h10=>?_) (fun h10=>?_)
 ·
  refine au (ax rfl<|aq<|be (bA (dP rfl rfl (fun w hw=>?_))))
  refine⟨?_,hw.nil⟩
  refine congrArg (fun z=>bT (.bool z)) ?_
  first |exact(decide_eq_false (FK h10)).symm|exact(decide_eq_false (BW (i:=i) (by omega) (by omega) h25)).symm|exact(decide_eq_true (Cm (by omega) (fun k hk=>hz k (by omega)))).symm
 ·
  refine aE (aj<|av<|au (ax rfl<|aq<|aD<|bS (α:=Nat) 0 (fun gx=>[(5,.int .i64 (gx:Nat))]) [(0,_),(1,_)] (fun gx=>[]) (fun gx=>gx≤a.length∧∀k,k<gx→a.getD k 0=b.getD k 0) (fun gx=>a.length-gx) 0 (by exact⟨aY _,fun k h=>absurd h (Nat.not_lt_zero _)⟩) (.cons rfl (.cons rfl (.cons rfl .nil))) (fun _ h=>h) ?_))
  rintro i ⟨hi,hz⟩
  refine av<|au (ag rfl<|ag rfl<|ah (bE fk (.r rfl) rfl) rfl<|dK rfl<|aq<|ay rfl (fun h14=>?_) (fun h14=>?_))
  ·
   refine aE (aj<|av<|aD<|av<|gj mixed (eT rfl<|eT rfl<|bl (bM fk N3 ha.some (.r rfl) (.r rfl) rfl (by omega)) rfl<|bl (aC O3 (.r rfl) (fun w hw=>aA (off:=0) ((ha.at (j:=i) (by omega)) w hw) ⟨_,rfl⟩)) rfl<|eT rfl<|eT rfl<|bl (bM fk N3 hb.some (.r rfl) (.r rfl) rfl (by omega)) rfl<|bl (aC O3 (.r rfl) (fun w hw=>aA (off:=0) ((hb.at (j:=i) (by omega)) w hw) ⟨_,rfl⟩)) rfl<|bl (LO.ne (.r rfl) (.r rfl)) rfl<|gy) (by kernel_rfl)<|aj<|ay rfl (fun h25=>?_) (fun h25=>?_))
   ·
    refine au (ax rfl<|aq<|be (dA (bA (bA (dA (bA (dP rfl rfl (fun w hw=>?_))))))))
    refine⟨?_,hw.nil⟩
    refine congrArg (fun z=>bT (.bool z)) ?_
    first |exact(decide_eq_false (FK h10)).symm|exact(decide_eq_false (BW (i:=i) (by omega) (by omega) h25)).symm|exact(decide_eq_true (Cm (by omega) (fun k hk=>hz k (by omega)))).symm
   ·
    refine aE (bB (aj<|aM (ag rfl<|da rfl rfl (by omega) (by omega) rfl<|ax rfl<|aN<|aZ fun a w ha hw=>⟨i+1,⟨by omega,D7 hz (eK.1 h25)⟩,(by omega),ha.sub (.cons rfl (.cons rfl (.cons rfl .nil))),hw⟩)))
  ·
   refine bU (aH (aH (cB (aj<|au (ax rfl<|aq<|be (dP rfl rfl (fun w hw=>?_)))))))
   refine⟨?_,hw.nil⟩
   refine congrArg (fun z=>bT (.bool z)) ?_
   first |exact(decide_eq_false (FK h10)).symm|exact(decide_eq_false (BW (i:=i) (by omega) (by omega) h25)).symm|exact(decide_eq_true (Cm (by omega) (fun k hk=>hz k (by omega)))).symm
theorem I7 (ra rb:List (cG Int)) (pa:Option Addr) (ca:Nat) (pb_:Option Addr) (cb:Nat) (w:World) (ha:RR 1 iC w pa ra) (hb:RR 1 iC w pb_ rb) (hn:ra.length≤1000000) (hl:∀x,x∈ra→x.l.length≤1000000):
 Calls af 17 #[.slice pa ra.length ca,.slice pb_ rb.length cb] w fun e w'=>e= .returned (.bool (decide (ra.map dw=rb.map dw)))∧St (bs w) [] w':=by
 refine enter (vs:=[_,_]) (env:=[(0,_),(1,_)]) Tryz.func17 rfl rfl rfl rfl ?_
 refine au (ax rfl<|aq<|av<|au (ag rfl<|ah (bE tQ (.r rfl) rfl) rfl<|ag rfl<|ah (bE tQ (.r rfl) rfl) rfl<|VO.u rfl<|aq ?_))
 refine ay rfl (fun h10=>?_) (fun h10=>?_)
 ·
  refine au (ax rfl<|aq<|be (bA (dP rfl rfl (fun w hw=>?_))))
  refine⟨?_,hw.nil⟩
  refine congrArg (fun z=>bT (.bool z)) ?_
  first |exact(decide_eq_false (Ca h10)).symm|exact(decide_eq_false (Cv hx hy h26)).symm|exact(decide_eq_true (B0 (by omega) (fun k x y hk=>hz k x y (by omega)))).symm
 ·
  refine aE (aj<|av<|au (ax rfl<|aq<|aD<|bS (α:=Nat) 0 (fun gx=>[(5,.int .i64 (gx:Nat))]) [(0,_),(1,_)] (fun gx=>[]) (fun gx=>gx≤ra.length∧∀k x y,k<gx→ra[k]? =some x→rb[k]? =some y→x.l=y.l) (fun gx=>ra.length-gx) 0 (by exact⟨aY _,fun k x y h=>absurd h (Nat.not_lt_zero _)⟩) (.cons rfl (.cons rfl (.cons rfl .nil))) (fun _ h=>h) ?_))
  rintro i ⟨hi,hz⟩
  refine av<|au (ag rfl<|ag rfl<|ah (bE tQ (.r rfl) rfl) rfl<|dK rfl<|aq<|ay rfl (fun h14=>?_) (fun h14=>?_))
  ·
   obtain⟨x,hx⟩:=du (l:=ra) (n:=i) (by omega)
   obtain⟨y,hy⟩:=du (l:=rb) (n:=i) (by omega)
   refine aE (aj<|av<|aD<|av<|gj mixed (eT rfl<|eT rfl<|bl (bM tQ qL ha.1.sm (.r rfl) (.r rfl) rfl (by omega)) rfl<|bl (aC iL (.r rfl) (fun w hw=>aA (off:=0) ((fun w3 h3=>RR.cell (ha.b0 w3 h3) hx) w hw) ⟨_,rfl⟩)) rfl<|eT rfl<|eT rfl<|bl (bM tQ qL hb.1.sm (.r rfl) (.r rfl) rfl (by omega)) rfl<|bl (aC iL (.r rfl) (fun w hw=>aA (off:=0) ((fun w3 h3=>RR.cell (hb.b0 w3 h3) hy) w hw) ⟨_,rfl⟩)) rfl<|bl (bK (xs:=[_,_]) (vs:=[_,_]) Qk ⟨(.r rfl),(.r rfl),trivial⟩ (fun w2 hw=>th x.l y.l x.p x.c y.p y.c w2 (RR.row (ha.b0 w2 hw) hx) (RR.row (hb.b0 w2 hw) hy) (hl x (al hx)))) rfl<|bl (LO.not (.r rfl)) rfl<|gy) (by kernel_rfl)<|aj<|ay rfl (fun h26=>?_) (fun h26=>?_))
   ·
    refine au (ax rfl<|aq<|be (dA (bA (bA (dA (bA (dP rfl rfl (fun w hw=>?_))))))))
    refine⟨?_,hw.nil⟩
    refine congrArg (fun z=>bT (.bool z)) ?_
    first |exact(decide_eq_false (Ca h10)).symm|exact(decide_eq_false (Cv hx hy h26)).symm|exact(decide_eq_true (B0 (by omega) (fun k x y hk=>hz k x y (by omega)))).symm
   ·
    refine aE (bB (aj<|aM (ag rfl<|da rfl rfl (by omega) (by omega) rfl<|ax rfl<|aN<|aZ fun a w ha hw=>⟨i+1,⟨by omega,KJ hz hx hy (eK.1 h26)⟩,(by omega),ha.sub (.cons rfl (.cons rfl (.cons rfl .nil))),hw⟩)))
  ·
   refine bU (aH (aH (cB (aj<|au (ax rfl<|aq<|be (dP rfl rfl (fun w hw=>?_)))))))
   refine⟨?_,hw.nil⟩
   refine congrArg (fun z=>bT (.bool z)) ?_
   first |exact(decide_eq_false (Ca h10)).symm|exact(decide_eq_false (Cv hx hy h26)).symm|exact(decide_eq_true (B0 (by omega) (fun k x y hk=>hz k x y (by omega)))).symm
abbrev xG:eo:=ZE 8
def xF:List Span:=[⟨5,5⟩,⟨2,5⟩,⟨5,5⟩,⟨0,1⟩]
def xH:List Span:=[⟨0,1⟩,⟨5,5⟩,⟨2,5⟩,⟨5,5⟩]
theorem R1:sB xG xF 5=0:=by kernel_rfl
theorem Vt:kL (gW xG) (gH xG) xF 5=[⟨[0,1,2],[[0],[2]],⟨0,2,0,0,10,15⟩⟩]:=by kernel_rfl
theorem xJ2:wV (gW xG) (gH xG) xF 5 0 2=3:=by kernel_rfl
theorem xJ3:wV (gW xG) (gH xG) xF 5 0 3=2:=by kernel_rfl
theorem xP2:E8 xG xF 5 0 2=0:=by kernel_rfl
theorem xP3:E8 xG xF 5 0 3=0:=by kernel_rfl
theorem Vu:IG xG xF [1,5]=0:=by kernel_rfl
theorem Ya:TM (gW xG) (gH xG) xF [1,5]=[[-1],[0]]:=by kernel_rfl
theorem ZK:om xG xF xG xH 5 ((1:Nat):Int)=0:=by kernel_rfl
theorem U9:Iy xG xF xG xH 5 ((1:Nat):Int) ((0:Nat):Int) ((0:Nat):Int)=0:=by kernel_rfl
theorem Vz:ju xG xF xH 5 0 0 1=[⟨-1, -1⟩,⟨0, -1⟩,⟨1, -1⟩,⟨-1,0⟩,⟨1,0⟩,⟨-1,1⟩,⟨0,1⟩,⟨1,1⟩]:=by kernel_rfl
theorem xNf:nP xG xF 5=1:=by kernel_rfl
theorem xNh:nP xG xH 5=1:=by kernel_rfl
theorem xOf:mH (gW xG) (gH xG) (et xF 5)=[0,0,0, -1]:=by kernel_rfl
theorem xOh:mH (gW xG) (gH xG) (et xH 5)=[-1,0,0,0]:=by kernel_rfl
theorem A4 {α:Type} {rs:List (cG α)} {a b:List α} (h:rs.map dw=[a,b]):∃p c q d,rs=[⟨p,c,a⟩,⟨q,d,b⟩]:=by
 match rs,h with
 |[⟨p,c,l⟩,⟨q,d,m⟩],h=>simp at h;obtain⟨rfl,rfl⟩:=h;exact⟨p,c,q,d,rfl⟩
theorem abG {W H:Nat} {vs:List Span} {lv:Int} {y:oV} {px k1 k2:List Nat} {s:Qy} (h:AR W H vs lv y) (e:kL W H vs lv=[⟨px,[k1,k2],s⟩]):∃pp pc kp kc p1 c1 p2 c2,y.l=[⟨⟨pp,pc,px⟩,kp,kc,[⟨p1,c1,k1⟩,⟨p2,c2,k2⟩],s⟩]:=by
 have h1:=h.m
 rw[e]at h1
 rcases hq:y.l with _|⟨a,_|⟨b,r⟩⟩
 ·rw[hq]at h1;cases h1
 ·rw[hq]at h1
  have h2:=(vI h1).1
  obtain⟨⟨pp,pc,l⟩,kp,kc,kr,s'⟩:=a
  have e1:l=px:=congrArg qh.px h2
  have e2:kr.map dw=[k1,k2]:=congrArg qh.ks h2
  have e3:s'=s:=congrArg qh.s h2
  subst e1;subst e3
  obtain⟨p1,c1,p2,c2,rfl⟩:=A4 e2
  exact⟨pp,pc,kp,kc,p1,c1,p2,c2,rfl⟩
 ·rw[hq]at h1;cases (vI h1).2
theorem U7 {W H:Nat} {M:Nat→Bool} {C:Nat→Nat} {p:Nat} (φ:Nat→Nat) (hp:φ p≤C p) (h:∀q r,r∈nb W H q→M r=true→φ r≤φ q+C r) {c q:Nat} (hg:Gp W H M C p c q):φ q≤c:=by
 induction hg with
 |start _=>exact hp
 |step _ hn hm ih=>have:=h _ _ hn hm;omega
theorem xM:∀r,et xF 5 r=true→r<3:=fun r h=>by
 rcases Nat.lt_or_ge r 4 with q|q
 ·match r,q with
  |0,_=>decide
  |1,_=>decide
  |2,_=>decide
  |3,_=>exact absurd h (by decide)
 ·exfalso
  unfold et at h
  rw[aO,aQ (by exact q)]at h
  exact absurd h (by decide)
theorem ZI {z:Int} (h:IM (gW xG) (gH xG) (et xF 5) (Cb xF 5) 0 2 z):z=1:=by
 have g0:Gp (gW xG) (gH xG) (et xF 5) (Cb xF 5) 0 0 0:=Gp.start (C:=Cb xF 5) (by decide)
 have g1:Gp (gW xG) (gH xG) (et xF 5) (Cb xF 5) 0 1 1:=Gp.step (C:=Cb xF 5) (r:=1) g0 (by decide) (by decide)
 have hg:Gp (gW xG) (gH xG) (et xF 5) (Cb xF 5) 0 1 2:=Gp.step (C:=Cb xF 5) (r:=2) g1 (by decide) (by decide)
 have hlow:∀m,Gp (gW xG) (gH xG) (et xF 5) (Cb xF 5) 0 m 2→1≤m:=fun m hm=>by
  refine U7 (fun q=>if q=0 then 0 else 1) (by decide) (fun q r hn hr=>?_) hm
  have hr3:=xM r hr
  match r,hr3 with
  |0,_=>exact aY _
  |1,_=>show 1≤_+1;omega
  |2,_=>
   have:q≠0:=fun e=>by subst e;exact absurd hn (by decide)
   rw[if_neg this];decide
 rcases h with⟨_,h⟩|⟨n,rfl,h1,h2⟩
 ·exact absurd hg (h 1)
 ·have:=h2 1 hg
  have:=hlow n h1
  omega
theorem Yw {z:Int} (h:IM (gW xG) (gH xG) (et xF 5) (Cb xF 5) 0 3 z):z= -1:=by
 rcases h with⟨h,_⟩|⟨n,_,h1,_⟩
 ·exact h
 ·exact absurd (xM 3 h1.may) (by decide)
theorem xEv {l:List gF} (h:Oo (gW xG) (gH xG) 1 (mH (gW xG) (gH xG) (et xF 5)) (mH (gW xG) (gH xG) (et xH 5)) 1 1 l):l=[⟨4,[0],[0]⟩]:=by
 obtain⟨ld,h1,rfl⟩:=h.ex
 have hk:ld (um 1 0)=ld (um 1 1):=(h1 _ _).2 (.base ⟨0,0,1,⟨by decide,by decide,by decide,by rw[xOf];decide,by rw[xOh];decide⟩⟩)
 have:=zv (κ:=fun t=>ld (um 1 t)) (κ':=fun _:Nat=>(0:Nat)) (n:=1) (m:=1) (fun i j hi hj=>by
  have hi:i=0∨i=1:=by omega
  have hj:j=0∨j=1:=by omega
  rcases hi with rfl|rfl<;>rcases hj with rfl|rfl<;>simp [hk])
 rw[this];rfl
theorem Yi {m:Nat} {tk:List fo} {of:Nat×Nat→Option Nat} (h:(tk,of)=ib 0 [] ([],fun _=>none) m):iF [[]] [m] tk of:=by
 have z:=iW.zp (iW.first (m:=m) iF.zero) (N:=0) rfl (fun z=>absurd z (Nat.lt_irrefl _)) m (cg _)
 have z:iW [[]] [m] m (ib 0 [] ([],fun _=>none) m).1 (ib 0 [] ([],fun _=>none) m).2:=z
 rw[←h]at z
 exact iW.done (N:=0) z rfl
theorem ach {tk:List fo} {of:Nat×Nat→Option Nat} (h:(tk,of)=ib 0 [] ([],fun _=>none) 1):tk=[⟨1,0,[0],0,[],[]⟩]∧of=kB (fun _=>none) (0,0) 0:=by
 have e:ib 0 [] (([]:List fo),fun _=>none) 1=([⟨1,0,[0],0,[],[]⟩],kB (fun _=>none) (0,0) 0):=rfl
 rw[e]at h
 exact⟨congrArg Prod.fst h,congrArg Prod.snd h⟩
theorem ab5 {tk tk0:List fo} {of of0:Nat×Nat→Option Nat} (h0:(tk0,of0)=ib 0 [] ([],fun _=>none) 1) (h:(tk,of)=ib (0+1) [⟨4,[0],[0]⟩] (tk0.map (jU (0+1) [⟨4,[0],[0]⟩]),r6 0 [⟨4,[0],[0]⟩] of0) 1):
  tk=[⟨1,0,[0,0],0,[],[]⟩]∧∀a,a∈[((0:Int),(0:Int)),(1,0)]↔(qK of a).isSome=true:=by
 obtain⟨rfl,rfl⟩:=ach h0
 have e:ib (0+1) [⟨4,[0],[0]⟩] (([⟨1,0,[0],0,[],[]⟩]:List fo).map (jU (0+1) [⟨4,[0],[0]⟩]),r6 0 [⟨4,[0],[0]⟩] (kB (fun _=>none) (0,0) 0)) 1=([⟨1,0,[0,0],0,[],[]⟩],r6 0 [⟨4,[0],[0]⟩] (kB (fun _=>none) (0,0) 0)):=rfl
 rw[e]at h
 have h1:tk=_:=congrArg Prod.fst h
 have h2:of=_:=congrArg Prod.snd h
 refine⟨h1,fun a=>?_⟩
 rw[h2]
 obtain⟨a,b⟩:=a
 constructor
 ·intro hm
  rcases List.mem_cons.1 hm with q|q
  ·cases q;rfl
  ·have q:=bW.1 q;cases q;rfl
 ·intro hs
  unfold qK at hs
  split at hs
  ·rename_i q
   have q:0≤a∧0≤b:=q
   have hs:(r6 0 [⟨4,[0],[0]⟩] (kB (fun _=>none) (0,0) 0) (a.toNat,b.toNat)).isSome=true:=hs
   unfold r6 at hs
   split at hs
   ·rename_i y
    have y:a.toNat=1:=y
    by_cases z:b.toNat=0
    ·have e1:a=1:=by omega
     have e2:b=0:=by omega
     rw[e1,e2];simp
    ·simp [z]at hs
   ·rename_i y
    unfold kB at hs
    split at hs
    ·rename_i z
     have z1:a.toNat=0:=congrArg Prod.fst z
     have z2:b.toNat=0:=congrArg Prod.snd z
     have e1:a=0:=by omega
     have e2:b=0:=by omega
     rw[e1,e2];simp
    ·simp at hs
  ·simp at hs
theorem Se {tk:List cH} {m:fo} (h:tk.map dG=[m]):∃t,tk=[t]∧t.m=m:=by
 rcases tk with _|⟨a,_|⟨b,r⟩⟩
 ·cases h
 ·exact⟨a,rfl,(vI h).1⟩
 ·cases (vI h).2
theorem mT {w:World} {b:Nat} (l:List Int) (h:fG w ⟨b,0,none⟩ (l.map fun n=>cX .i64 n)):Ints w (some ⟨b,0,none⟩) l:=by
 refine RO.r6 (f:=iC) (z:=1) (fun _=>rfl) ?_
 have e:(l.map iC).flatten=l.map fun n=>cX .i64 n:=by
  clear h
  induction l with
  |nil=>rfl
  |cons a l ih=>rw[gI,List.flatten_cons,ih];rfl
 rw[e];exact h
end Go.Proofs.YtgemekpofpoopaaGreat
