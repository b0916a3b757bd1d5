/-
  All to which a history leads, by the document.
  (and more)
-/
import Derived.Test.YtgemekpofpoopaaGreatKBOO08
import Derived.Shelf.SlMaps.Clone
import Derived.Test.YtgemekpofpoopaaGreatProg
open Go.Proofs.YtgemekpofpoopaaGreat.cH renaming m→dG
open List renaming mem_map_of_mem→bw,length→dv,length_map→ak,mem_of_getElem?→al,length_set→eB,map_append→bG,length_range→jO,getElem?_map→aI,getElem?_eq_getElem→aw,perm_append_comm→ji,append_assoc→dk,perm_middle→iu,length_append→aJ,getElem?_eq_some_iff→an,length_singleton→bu,getElem?_append_left→aV,getElem?_append_right→bJ,append_nil→ew,eq_nil_of_length_eq_zero→eV,mem_singleton→bW,mem_append→bQ,mem_append_left→dt,mem_append_right→fe
open Go.Proofs.Tryz renaming prog→af,func81→uD,func44→Ai,underlying89→kY,func45→Aj,underlying78→gD,underlying107→gL
open Go.SL.VC renaming q→au,seq→av,cond→ay,skip→aE,block→aD,eg→bS,eX→aM,exit→bU,ret→be,draw→gj
open Go.SL.VO renaming a→ax,n→aq,m→ag,h→aB,nil→aN,t→dK,gf→aK,l→ah,h0→cu,f→bO,gt→bh,p→da,c→cL
open Go.SL.HO renaming eS→cd,lo→aW,zF→iV,alloc→cJ,st→cq,bs→eW,k8→eP,box→c8
open Go.SL.VE renaming aU→aj,gO→bB,df→aZ,bZ→aH,jT→cB,res→dh,dB→bA
open Go.SL.LO renaming mv→aS,len→bE,ge→iw,jZ→cD,jA→cy,ld→aC,iy→bM,ex→cU,call→bK,nc→cV,fT→aX,fa→aP,sub→gz,ne→gN,gt→gu
open Nat renaming zero_le→aY,le_refl→cg,succ_ne_zero→kW
open Go.Proofs.YtgemekpofpoopaaGreat.RO renaming jX→cY
open Bool renaming not_eq_true→lE,eq_false_iff→fM
open Go.SL.RO renaming gM→fK
open Go.SL.LX renaming m→cT,l→aG,s→dC,nil→fj
open Go.SL.HX renaming s→az,h→ga,nil→fB
open Go.Proofs.YtgemekpofpoopaaGreat.Mv renaming cells→eR
open Go.SL.cG renaming l→dw
open Option.some renaming inj→eI
open Go.SL.LL renaming m→eT,l→bl,gf→cW
open Go.Proofs.YtgemekpofpoopaaGreat.db renaming m→dD
open Go.Ending renaming returned→bT
open Go.SL.St renaming bV→fJ

set_option linter.unusedSimpArgs false
set_option maxRecDepth 20000
set_option maxHeartbeats 8000000
namespace Go.Proofs.YtgemekpofpoopaaGreat
open Go.SL Go.Proofs Go.sM Go.Cell
set_option linter.unusedVariables false
def yL (past:Bool) (tk:List fo):Nat→List Nat:=if past then CO tk else B2 tk
theorem BR {E:List (List gF)} {Ms:List Nat} {tk:List fo} {of:Nat×Nat→Option Nat} (h:iF E Ms tk of) {past:Bool} {k x:Nat} (hx:x∈yL past tk k):x<tk.length:=by
 cases past with
 |true=>have:=Ce h hx;omega
 |false=>exact(BM h hx).2.1
theorem Ii {E:List (List gF)} {Ms:List Nat} {tk:List fo} {of:Nat×Nat→Option Nat} (h:iF E Ms tk of) {past:Bool} {k:Nat}:¬Ak (yL past tk) k k:=fun z=>by
 cases past with
 |true=>have:=(Ij h z).1;omega
 |false=>have:=(Bk h z).1;omega
theorem Zq {tk:List cH} {k:Nat} {t:cH} (h:tk[k]? =some t):yL true (tk.map dG) k=t.pa:=by show CO _ _=_;unfold CO;rw[MY h];rfl
theorem Y0 {tk:List cH} {k:Nat} {t:cH} (h:tk[k]? =some t):yL false (tk.map dG) k=t.ch:=by show B2 _ _=_;unfold B2;rw[MY h];rfl
theorem Iw {E:List (List gF)} {Ms:List Nat} {tk:List fo} {of:Nat×Nat→Option Nat} (h:iF E Ms tk of) {past:Bool} (k:Nat):(yL past tk k).length≤tk.length:=by
 cases past with
 |true=>exact yw h k
 |false=>exact x4 h k
theorem Zo {β:Bs} {L:List dg} {w:World} (hw:St β L w) (i:Nat) {tr:List cH} (hi:L[i]? =some (bV (tr.map cH.pR))) {x:cH} (hx:x∈tr):RO 1 nC w x.pp x.pa:=gh ((hw.inv i _ hi).1 (cH.pR x) (bw hx))
theorem ZB {β:Bs} {L:List dg} {w:World} (hw:St β L w) (i:Nat) {tr:List cH} (hi:L[i]? =some (bV (tr.map cH.cR))) {x:cH} (hx:x∈tr):RO 1 nC w x.cp x.ch:=gh ((hw.inv i _ hi).1 (cH.cR x) (bw hx))
theorem IN (b:List Bool) (p:Option Addr) (c:Nat) (n:Nat) (hn:b.length=n) (w:World) (hb:RO 1 bC w p b) (hl:b.length≤1000000):
 Calls af 93 #[.slice p n c] w fun e w'=>∃y:B9,True∧e= .returned (.slice y.p (qd b).length y.c)∧St (bs w) [own 3 1 y.p y.c ((qd b).map nC)] w':=by subst hn;exact IZ b p c w hb hl
theorem Vl (b:Nat) (h:jk) (d:o8) (E:List (List gF)) (Ms:List Nat) (tkm:List fo) (of:Nat×Nat→Option Nat) (hP:FB E Ms tkm of d) (n:Int) (w:World) (hd:u0 w b h d) (hn:0≤n∧n<(tkm.length:Int)):
 Calls af 81 #[.pointer (some ⟨b,0,none⟩),.int .i64 n,.bool true] w fun e w'=>∃y:Qw,Ww (yL true tkm) n.toNat y.l∧e= .returned (.tuple #[.slice y.p y.l.length y.c,.int .i64 0])∧St (bs w) [own 3 1 y.p y.c (y.l.map nC)] w':=by
 obtain⟨nn,hnn⟩:∃k:Nat,n=k:=⟨n.toNat,by omega⟩
 subst hnn
 rw[show((nn:Int)).toNat=nn by omega]
 refine enter (vs:=[_,_,_]) (env:=[(0,_),(1,_),(2,_)]) uD rfl rfl rfl rfl ?_
 refine au (ax rfl<|ax rfl<|aq<|au (ag rfl<|aB rfl<|cd (xs:=[_]) (vs:=[_]) TA ⟨(.r rfl),trivial⟩ (fun w2 hw=>mI hP b h w2 (hd.b0 w2 hw)) fun y hy=>aB rfl<|aW (LO.as (.r rfl))<|aN ?_))
 have hyl:y.tk.length=tkm.length:=by have z:=congrArg dv hy;rw[ak]at z;exact z
 have hylen:=hP.len
 refine aj<|av<|au (ag rfl<|dK rfl<|ag rfl<|aK rfl (fun hg=>aS (.r rfl))<|aK rfl (fun hg=>aS (.r rfl))<|aK rfl (fun hg=>bE lR (.g hg rfl) rfl)<|aK rfl (fun hg=>iw (.g hg rfl) (.g hg rfl))<|ah (cD (.r rfl) (.r rfl) rfl rfl) rfl<|aq<|ay rfl (fun h23=>?_) (fun h23=>?_))
 · (exfalso;omega)
 ·
  refine aE (aj<|au (ag rfl<|ah (bE lR (.r rfl) rfl) rfl<|aB rfl<|HO.Au (f:=bC) (z0:=false) (n:=y.tk.length) rfl jj I4 (.r rfl) (.r rfl) rfl (by decide) (by omega) (by omega) fun b5=>aB rfl<|aW (LO.as (.r rfl))<|aq<|au (ag rfl<|ag rfl<|ah (cy jj N4 (fun _ hw=>(bL hw 0 rfl).some (by rw[ak];first |omega|(simp;done)|(simp;omega))) (.r rfl) (.r rfl) rfl (by omega)) rfl<|cu<|iV 0 (fun R=>[R,_,_,_,_]) (true) (vs:=[_]) N4 (.r rfl) (.r rfl) rfl (by first |omega|(simp;omega)) rfl rfl rfl rfl rfl (fun _=>rfl)<|aq ?_)))
  refine av<|au (ax rfl<|aq<|aD<|bS (α:=(List Bool)×Bool) 1 (fun gx=>[(10,.bool gx.2)]) [(1,_),(2,_),(8,_),(9,_)] (fun gx=>[own 4 1 (some ⟨b5,0,none⟩) y.tk.length (gx.1.map bC)]) (fun gx=>FS (yL true tkm) tkm.length nn gx.1∧(gx.2=false→FE (yL true tkm) nn gx.1)) (fun gx=>2*kI gx.1+gx.2.toNat) (((List.replicate y.tk.length false).set nn true),true) (by exact⟨by rw[hyl];exact FS.zero (by omega),fun z=>(by cases z)⟩) (.c4 rfl rfl rfl rfl (.cons rfl .nil)) (fun _ h=>h) ?_)
  rintro ⟨out,gr⟩ ⟨hFS,hfin⟩
  show VC _ _ _ _ _ ([(10,.bool gr)]++_) ([own 4 1 (some ⟨b5,0,none⟩) y.tk.length (out.map bC)]++_) _ _
  dsimp only at hFS hfin
  have hol:=hFS.len
  refine av<|au (ag rfl<|aq<|ay rfl (fun h30=>?_) (fun h30=>?_))
  ·
   refine aE (aj<|aD<|au (ax rfl<|aq<|au (ax rfl<|aN ?_)))
   refine aj<|aD<|bS (α:=Nat×(List Bool)×Bool) 1 (fun gx=>[(10,.bool gx.2.2),(11,.int .i64 (gx.1:Nat))]) [(1,_),(2,_),(8,_),(9,_)] (fun gx=>[own 4 1 (some ⟨b5,0,none⟩) y.tk.length (gx.2.1.map bC)]) (fun gx=>gx.1≤tkm.length∧FR (yL true tkm) tkm.length nn out gx.1 0 gx.2.1 gx.2.2) (fun gx=>tkm.length-gx.1) (0,out,false) (by exact⟨aY _,FR.zero hFS⟩) (.c4 rfl rfl rfl rfl (.cons rfl (.cons rfl .nil))) (fun _ h=>h) ?_
   rintro ⟨i,out2,gr2⟩ ⟨hi,hFR⟩
   show VC _ _ _ _ _ ([(10,.bool gr2),(11,.int .i64 (i:Nat))]++_) ([own 4 1 (some ⟨b5,0,none⟩) y.tk.length (out2.map bC)]++_) _ _
   dsimp only at hi hFR
   have hol2:=hFR.fs.len
   refine av<|au (ag rfl<|ag rfl<|ah (bE lR (.r rfl) rfl) rfl<|dK rfl<|aq<|ay rfl (fun h34=>?_) (fun h34=>?_))
   ·
    obtain⟨xi,hxi⟩:=du (l:=y.tk) (n:=i) (by omega)
    have hxm:=al hxi
    have hnx:yL true tkm i=xi.pa:=by rw[←hy];exact Zq hxi
    have hnl:xi.pa.length≤tkm.length:=by rw[←hnx];exact Iw hP.I i
    refine aE (aj<|av<|aD<|au (ag rfl<|ag rfl<|ah (cy lR ov (fun _ hw=>(bL hw 1 rfl).some (by rw[ak])) (.r rfl) (.r rfl) rfl (by omega)) rfl<|bO zB rfl<|ah (aC iL (.r rfl) (fun w hw=>aA (off:=5) (cO hw 1 rfl hxi) ⟨_,rfl⟩)) rfl<|ax rfl<|aq<|av ?_))
    refine au (ag rfl<|aq<|ay rfl (fun h42=>?_) (fun h42=>?_))
    ·
     refine aM (ag rfl<|ag rfl<|ah (cy lR ov (fun _ hw=>(bL hw 1 rfl).some (by rw[ak])) (.r rfl) (.r rfl) rfl (by omega)) rfl<|bO Ct rfl<|ah (aC iL (.r rfl) (fun w hw=>aA (off:=4) (cO hw 1 rfl hxi) ⟨_,rfl⟩)) rfl<|ax rfl<|aq<|av<|VC.T3 (φ:=jR xi.pp xi.pa.length) (fun w hw=>(Zo hw 3 rfl hxm).sm) fun hsm=>aM (ax rfl<|aq<|aD ?_))
     refine bS (α:=Nat×(List Bool)×Bool) 1 (fun gx=>[(10,.bool gx.2.2),(13,.int .i64 (gx.1:Nat))]) [(1,_),(2,_),(8,_),(9,_),(11,_),(12,_)] (fun gx=>[own 4 1 (some ⟨b5,0,none⟩) y.tk.length (gx.2.1.map bC)]) (fun gx=>gx.1≤xi.pa.length∧FR (yL true tkm) tkm.length nn out i gx.1 gx.2.1 gx.2.2) (fun gx=>xi.pa.length-gx.1) (0,out2,gr2) (by exact⟨aY _,hFR⟩) (.c4 rfl rfl rfl rfl (.c4 rfl rfl rfl rfl .nil)) (fun _ h=>h) ?_
     rintro ⟨j,out3,gr3⟩ ⟨hj,hF3⟩
     show VC _ _ _ _ _ ([(10,.bool gr3),(13,.int .i64 (j:Nat))]++_) ([own 4 1 (some ⟨b5,0,none⟩) y.tk.length (out3.map bC)]++_) _ _
     dsimp only at hj hF3
     have hol3:=hF3.fs.len
     refine av<|au (ag rfl<|ag rfl<|ah (bE fk (.r rfl) rfl) rfl<|dK rfl<|aq<|ay rfl (fun h51=>?_) (fun h51=>?_))
     ·
      obtain⟨x,hxj⟩:=du (l:=xi.pa) (n:=j) (by omega)
      have hxn:(yL true tkm i)[j]? =some x:=by rw[hnx];exact hxj
      have hxN:x<tkm.length:=BR hP.I (al hxn)
      refine aE (aj<|av<|aD<|au (ag rfl<|ag rfl<|ah (cy jj N4 (fun _ hw=>(bL hw 0 rfl).some (by rw[ak];first |omega|(simp;done)|(simp;omega))) (.r rfl) (.r rfl) rfl (by omega)) rfl<|ah (aC O4 (.r rfl) (fun w hw=>aA (off:=0) (cO hw 0 rfl (sg (n:=i) (by first |omega|(simp;omega)))) ⟨_,rfl⟩)) rfl<|ag rfl<|bh rfl (fun hg=>aS (.r rfl))<|bh rfl (fun hg=>aS (.r rfl))<|bh rfl (fun hg=>aS (.r rfl))<|bh rfl (fun hg=>bM fk N3 hsm (.g hg rfl) (.g hg rfl) rfl (by omega))<|bh rfl (fun hg=>aC O3 (.g hg rfl) (fun w hw=>aA (off:=0) ((fun w3 h3=>cY (Zo h3 3 rfl hxm) hxj) w hw) ⟨_,rfl⟩))<|bh rfl (fun hg=>cy jj N4 (fun _ hw=>(bL hw 0 rfl).some (by rw[ak];first |omega|(simp;done)|(simp;omega))) (.g hg rfl) (.g hg rfl) rfl (by omega))<|bh rfl (fun hg=>aC O4 (.g hg rfl) (fun w hw=>aA (off:=0) (cO hw 0 rfl (sg (n:=x) (by first |omega|(simp;omega)))) ⟨_,rfl⟩))<|bh rfl (fun hg=>LO.not (.g hg rfl))<|ah (LO.qc (.r rfl) rfl rfl (.r rfl)) rfl<|aq<|ay rfl (fun h67=>?_) (fun h67=>?_)))
      ·
       refine au (ag rfl<|ag rfl<|ag rfl<|ah (bM fk N3 hsm (.r rfl) (.r rfl) rfl (by omega)) rfl<|ah (aC O3 (.r rfl) (fun w hw=>aA (off:=0) ((fun w3 h3=>cY (Zo h3 3 rfl hxm) hxj) w hw) ⟨_,rfl⟩)) rfl<|ah (cy jj N4 (fun _ hw=>(bL hw 0 rfl).some (by rw[ak];first |omega|(simp;done)|(simp;omega))) (.r rfl) (.r rfl) rfl (by omega)) rfl<|cu<|iV 0 (fun R=>[R,_,_,_,_]) (true) (vs:=[_]) N4 (.r rfl) (.r rfl) rfl (by omega) rfl rfl rfl rfl rfl (fun _=>rfl)<|aq<|aM (ax rfl<|aN<|bB (aj<|aM (ag rfl<|da rfl rfl (by omega) (by omega) rfl<|ax rfl<|aN<|aZ fun a w ha hw=>⟨(j+1,out3.set x true,true),⟨by dsimp only;omega,hF3.yes hxn hxN h67.1 (lE _ ▸ h67.2)⟩,(by dsimp only;omega),ha.sub (.c4 rfl rfl rfl rfl (.c4 rfl rfl rfl rfl .nil)),hw⟩))))
      ·
       refine aE (bB (aj<|aM (ag rfl<|da rfl rfl (by omega) (by omega) rfl<|ax rfl<|aN<|aZ fun a w ha hw=>⟨(j+1,out3,gr3),⟨by dsimp only;omega,hF3.no hxn fun z=>h67 ⟨z.1,by rw[z.2];decide⟩⟩,(by dsimp only;omega),ha.sub (.c4 rfl rfl rfl rfl (.c4 rfl rfl rfl rfl .nil)),hw⟩)))
     ·
      have hje:j=(yL true tkm i).length:=by rw[hnx];omega
      subst hje
      refine bU (aH (aH (cB (bB (aj<|aM (ag rfl<|da rfl rfl (by omega) (by omega) rfl<|ax rfl<|aN<|aZ fun a w ha hw=>⟨(i+1,out3,gr3),⟨by dsimp only;omega,hF3.next⟩,(by dsimp only;omega),ha.sub (.c4 rfl rfl rfl rfl (.cons rfl (.cons rfl .nil))),hw⟩))))))
    · (exfalso;exact h42 rfl)
   ·
    have hie:i=tkm.length:=by omega
    subst hie
    refine bU (aH (aH (cB (bB<|aZ fun a w ha hw=>⟨(out2,gr2),⟨hFR.fs,fun z=>by dsimp only at z;subst z;exact hFR.fin⟩,(T8 hFR h30),ha.sub (.c4 rfl rfl rfl rfl (.cons rfl .nil)),hw⟩))))
  ·
   have hgf:gr=false:=fM.2 h30
   have hFE:=hfin hgf
   obtain⟨hr1,hr2⟩:=IQ hFE (by omega) (Ii hP.I)
   refine bU (aH (aH (cB (aj<|au (ag rfl<|ag rfl<|ah (cy jj N4 (fun _ hw=>(bL hw 0 rfl).some (by rw[ak];first |omega|(simp;done)|(simp;omega))) (.r rfl) (.r rfl) rfl (by omega)) rfl<|cu<|iV 0 (fun R=>[R,_,_,_,_]) (false) (vs:=[_]) N4 (.r rfl) (.r rfl) rfl (by omega) rfl rfl rfl rfl rfl (fun _=>rfl)<|aq<|au (ag rfl<|aB rfl<|cd (xs:=[_]) (vs:=[_]) C93 ⟨(.r rfl),trivial⟩ (fun w2 hw=>IN (out.set nn false) _ _ _ (by rw[eB];omega) w2 (fK hw 0 rfl) (by rw[eB];omega)) fun li _=>aB rfl<|aW (LO.as (.r rfl))<|ax rfl<|aq ?_))))))
   refine be (dh (vs:=[_,_]) rfl ⟨rfl,rfl,trivial⟩ (fun w hw=>?_))
   exact⟨⟨_,li.p,li.c⟩,⟨hr1,hr2⟩,rfl,dq [0] rfl rfl _ hw⟩
theorem VW (b:Nat) (h:jk) (d:o8) (E:List (List gF)) (Ms:List Nat) (tkm:List fo) (of:Nat×Nat→Option Nat) (hP:FB E Ms tkm of d) (n:Int) (w:World) (hd:u0 w b h d) (hn:0≤n∧n<(tkm.length:Int)):
 Calls af 81 #[.pointer (some ⟨b,0,none⟩),.int .i64 n,.bool false] w fun e w'=>∃y:Qw,Ww (yL false tkm) n.toNat y.l∧e= .returned (.tuple #[.slice y.p y.l.length y.c,.int .i64 0])∧St (bs w) [own 3 1 y.p y.c (y.l.map nC)] w':=by
 obtain⟨nn,hnn⟩:∃k:Nat,n=k:=⟨n.toNat,by omega⟩
 subst hnn
 rw[show((nn:Int)).toNat=nn by omega]
 refine enter (vs:=[_,_,_]) (env:=[(0,_),(1,_),(2,_)]) uD rfl rfl rfl rfl ?_
 refine au (ax rfl<|ax rfl<|aq<|au (ag rfl<|aB rfl<|cd (xs:=[_]) (vs:=[_]) TA ⟨(.r rfl),trivial⟩ (fun w2 hw=>mI hP b h w2 (hd.b0 w2 hw)) fun y hy=>aB rfl<|aW (LO.as (.r rfl))<|aN ?_))
 have hyl:y.tk.length=tkm.length:=by have z:=congrArg dv hy;rw[ak]at z;exact z
 have hylen:=hP.len
 refine aj<|av<|au (ag rfl<|dK rfl<|ag rfl<|aK rfl (fun hg=>aS (.r rfl))<|aK rfl (fun hg=>aS (.r rfl))<|aK rfl (fun hg=>bE lR (.g hg rfl) rfl)<|aK rfl (fun hg=>iw (.g hg rfl) (.g hg rfl))<|ah (cD (.r rfl) (.r rfl) rfl rfl) rfl<|aq<|ay rfl (fun h23=>?_) (fun h23=>?_))
 · (exfalso;omega)
 ·
  refine aE (aj<|au (ag rfl<|ah (bE lR (.r rfl) rfl) rfl<|aB rfl<|HO.Au (f:=bC) (z0:=false) (n:=y.tk.length) rfl jj I4 (.r rfl) (.r rfl) rfl (by decide) (by omega) (by omega) fun b5=>aB rfl<|aW (LO.as (.r rfl))<|aq<|au (ag rfl<|ag rfl<|ah (cy jj N4 (fun _ hw=>(bL hw 0 rfl).some (by rw[ak];first |omega|(simp;done)|(simp;omega))) (.r rfl) (.r rfl) rfl (by omega)) rfl<|cu<|iV 0 (fun R=>[R,_,_,_,_]) (true) (vs:=[_]) N4 (.r rfl) (.r rfl) rfl (by first |omega|(simp;omega)) rfl rfl rfl rfl rfl (fun _=>rfl)<|aq ?_)))
  refine av<|au (ax rfl<|aq<|aD<|bS (α:=(List Bool)×Bool) 1 (fun gx=>[(10,.bool gx.2)]) [(1,_),(2,_),(8,_),(9,_)] (fun gx=>[own 4 1 (some ⟨b5,0,none⟩) y.tk.length (gx.1.map bC)]) (fun gx=>FS (yL false tkm) tkm.length nn gx.1∧(gx.2=false→FE (yL false tkm) nn gx.1)) (fun gx=>2*kI gx.1+gx.2.toNat) (((List.replicate y.tk.length false).set nn true),true) (by exact⟨by rw[hyl];exact FS.zero (by omega),fun z=>(by cases z)⟩) (.c4 rfl rfl rfl rfl (.cons rfl .nil)) (fun _ h=>h) ?_)
  rintro ⟨out,gr⟩ ⟨hFS,hfin⟩
  show VC _ _ _ _ _ ([(10,.bool gr)]++_) ([own 4 1 (some ⟨b5,0,none⟩) y.tk.length (out.map bC)]++_) _ _
  dsimp only at hFS hfin
  have hol:=hFS.len
  refine av<|au (ag rfl<|aq<|ay rfl (fun h30=>?_) (fun h30=>?_))
  ·
   refine aE (aj<|aD<|au (ax rfl<|aq<|au (ax rfl<|aN ?_)))
   refine aj<|aD<|bS (α:=Nat×(List Bool)×Bool) 1 (fun gx=>[(10,.bool gx.2.2),(11,.int .i64 (gx.1:Nat))]) [(1,_),(2,_),(8,_),(9,_)] (fun gx=>[own 4 1 (some ⟨b5,0,none⟩) y.tk.length (gx.2.1.map bC)]) (fun gx=>gx.1≤tkm.length∧FR (yL false tkm) tkm.length nn out gx.1 0 gx.2.1 gx.2.2) (fun gx=>tkm.length-gx.1) (0,out,false) (by exact⟨aY _,FR.zero hFS⟩) (.c4 rfl rfl rfl rfl (.cons rfl (.cons rfl .nil))) (fun _ h=>h) ?_
   rintro ⟨i,out2,gr2⟩ ⟨hi,hFR⟩
   show VC _ _ _ _ _ ([(10,.bool gr2),(11,.int .i64 (i:Nat))]++_) ([own 4 1 (some ⟨b5,0,none⟩) y.tk.length (out2.map bC)]++_) _ _
   dsimp only at hi hFR
   have hol2:=hFR.fs.len
   refine av<|au (ag rfl<|ag rfl<|ah (bE lR (.r rfl) rfl) rfl<|dK rfl<|aq<|ay rfl (fun h34=>?_) (fun h34=>?_))
   ·
    obtain⟨xi,hxi⟩:=du (l:=y.tk) (n:=i) (by omega)
    have hxm:=al hxi
    have hnx:yL false tkm i=xi.ch:=by rw[←hy];exact Y0 hxi
    have hnl:xi.ch.length≤tkm.length:=by rw[←hnx];exact Iw hP.I i
    refine aE (aj<|av<|aD<|au (ag rfl<|ag rfl<|ah (cy lR ov (fun _ hw=>(bL hw 1 rfl).some (by rw[ak])) (.r rfl) (.r rfl) rfl (by omega)) rfl<|bO zB rfl<|ah (aC iL (.r rfl) (fun w hw=>aA (off:=5) (cO hw 1 rfl hxi) ⟨_,rfl⟩)) rfl<|ax rfl<|aq<|av ?_))
    refine au (ag rfl<|aq<|ay rfl (fun h42=>?_) (fun h42=>?_))
    · (exfalso;cases h42)
    ·
     refine aE (aj<|av<|VC.T3 (φ:=jR xi.cp xi.ch.length) (fun w hw=>(ZB hw 4 rfl hxm).sm) fun hsm=>aM (ax rfl<|aq<|aD<|bS (α:=Nat×(List Bool)×Bool) 1 (fun gx=>[(10,.bool gx.2.2),(13,.int .i64 (gx.1:Nat))]) [(1,_),(2,_),(8,_),(9,_),(11,_),(12,_)] (fun gx=>[own 4 1 (some ⟨b5,0,none⟩) y.tk.length (gx.2.1.map bC)]) (fun gx=>gx.1≤xi.ch.length∧FR (yL false tkm) tkm.length nn out i gx.1 gx.2.1 gx.2.2) (fun gx=>xi.ch.length-gx.1) (0,out2,gr2) (by exact⟨aY _,hFR⟩) (.c4 rfl rfl rfl rfl (.c4 rfl rfl rfl rfl .nil)) (fun _ h=>h) ?_))
     rintro ⟨j,out3,gr3⟩ ⟨hj,hF3⟩
     show VC _ _ _ _ _ ([(10,.bool gr3),(13,.int .i64 (j:Nat))]++_) ([own 4 1 (some ⟨b5,0,none⟩) y.tk.length (out3.map bC)]++_) _ _
     dsimp only at hj hF3
     have hol3:=hF3.fs.len
     refine av<|au (ag rfl<|ag rfl<|ah (bE fk (.r rfl) rfl) rfl<|dK rfl<|aq<|ay rfl (fun h51=>?_) (fun h51=>?_))
     ·
      obtain⟨x,hxj⟩:=du (l:=xi.ch) (n:=j) (by omega)
      have hxn:(yL false tkm i)[j]? =some x:=by rw[hnx];exact hxj
      have hxN:x<tkm.length:=BR hP.I (al hxn)
      refine aE (aj<|av<|aD<|au (ag rfl<|ag rfl<|ah (cy jj N4 (fun _ hw=>(bL hw 0 rfl).some (by rw[ak];first |omega|(simp;done)|(simp;omega))) (.r rfl) (.r rfl) rfl (by omega)) rfl<|ah (aC O4 (.r rfl) (fun w hw=>aA (off:=0) (cO hw 0 rfl (sg (n:=i) (by first |omega|(simp;omega)))) ⟨_,rfl⟩)) rfl<|ag rfl<|bh rfl (fun hg=>aS (.r rfl))<|bh rfl (fun hg=>aS (.r rfl))<|bh rfl (fun hg=>aS (.r rfl))<|bh rfl (fun hg=>bM fk N3 hsm (.g hg rfl) (.g hg rfl) rfl (by omega))<|bh rfl (fun hg=>aC O3 (.g hg rfl) (fun w hw=>aA (off:=0) ((fun w3 h3=>cY (ZB h3 4 rfl hxm) hxj) w hw) ⟨_,rfl⟩))<|bh rfl (fun hg=>cy jj N4 (fun _ hw=>(bL hw 0 rfl).some (by rw[ak];first |omega|(simp;done)|(simp;omega))) (.g hg rfl) (.g hg rfl) rfl (by omega))<|bh rfl (fun hg=>aC O4 (.g hg rfl) (fun w hw=>aA (off:=0) (cO hw 0 rfl (sg (n:=x) (by first |omega|(simp;omega)))) ⟨_,rfl⟩))<|bh rfl (fun hg=>LO.not (.g hg rfl))<|ah (LO.qc (.r rfl) rfl rfl (.r rfl)) rfl<|aq<|ay rfl (fun h67=>?_) (fun h67=>?_)))
      ·
       refine au (ag rfl<|ag rfl<|ag rfl<|ah (bM fk N3 hsm (.r rfl) (.r rfl) rfl (by omega)) rfl<|ah (aC O3 (.r rfl) (fun w hw=>aA (off:=0) ((fun w3 h3=>cY (ZB h3 4 rfl hxm) hxj) w hw) ⟨_,rfl⟩)) rfl<|ah (cy jj N4 (fun _ hw=>(bL hw 0 rfl).some (by rw[ak];first |omega|(simp;done)|(simp;omega))) (.r rfl) (.r rfl) rfl (by omega)) rfl<|cu<|iV 0 (fun R=>[R,_,_,_,_]) (true) (vs:=[_]) N4 (.r rfl) (.r rfl) rfl (by omega) rfl rfl rfl rfl rfl (fun _=>rfl)<|aq<|aM (ax rfl<|aN<|bB (aj<|aM (ag rfl<|da rfl rfl (by omega) (by omega) rfl<|ax rfl<|aN<|aZ fun a w ha hw=>⟨(j+1,out3.set x true,true),⟨by dsimp only;omega,hF3.yes hxn hxN h67.1 (lE _ ▸ h67.2)⟩,(by dsimp only;omega),ha.sub (.c4 rfl rfl rfl rfl (.c4 rfl rfl rfl rfl .nil)),hw⟩))))
      ·
       refine aE (bB (aj<|aM (ag rfl<|da rfl rfl (by omega) (by omega) rfl<|ax rfl<|aN<|aZ fun a w ha hw=>⟨(j+1,out3,gr3),⟨by dsimp only;omega,hF3.no hxn fun z=>h67 ⟨z.1,by rw[z.2];decide⟩⟩,(by dsimp only;omega),ha.sub (.c4 rfl rfl rfl rfl (.c4 rfl rfl rfl rfl .nil)),hw⟩)))
     ·
      have hje:j=(yL false tkm i).length:=by rw[hnx];omega
      subst hje
      refine bU (aH (aH (cB (bB (aj<|aM (ag rfl<|da rfl rfl (by omega) (by omega) rfl<|ax rfl<|aN<|aZ fun a w ha hw=>⟨(i+1,out3,gr3),⟨by dsimp only;omega,hF3.next⟩,(by dsimp only;omega),ha.sub (.c4 rfl rfl rfl rfl (.cons rfl (.cons rfl .nil))),hw⟩))))))
   ·
    have hie:i=tkm.length:=by omega
    subst hie
    refine bU (aH (aH (cB (bB<|aZ fun a w ha hw=>⟨(out2,gr2),⟨hFR.fs,fun z=>by dsimp only at z;subst z;exact hFR.fin⟩,(T8 hFR h30),ha.sub (.c4 rfl rfl rfl rfl (.cons rfl .nil)),hw⟩))))
  ·
   have hgf:gr=false:=fM.2 h30
   have hFE:=hfin hgf
   obtain⟨hr1,hr2⟩:=IQ hFE (by omega) (Ii hP.I)
   refine bU (aH (aH (cB (aj<|au (ag rfl<|ag rfl<|ah (cy jj N4 (fun _ hw=>(bL hw 0 rfl).some (by rw[ak];first |omega|(simp;done)|(simp;omega))) (.r rfl) (.r rfl) rfl (by omega)) rfl<|cu<|iV 0 (fun R=>[R,_,_,_,_]) (false) (vs:=[_]) N4 (.r rfl) (.r rfl) rfl (by omega) rfl rfl rfl rfl rfl (fun _=>rfl)<|aq<|au (ag rfl<|aB rfl<|cd (xs:=[_]) (vs:=[_]) C93 ⟨(.r rfl),trivial⟩ (fun w2 hw=>IN (out.set nn false) _ _ _ (by rw[eB];omega) w2 (fK hw 0 rfl) (by rw[eB];omega)) fun li _=>aB rfl<|aW (LO.as (.r rfl))<|ax rfl<|aq ?_))))))
   refine be (dh (vs:=[_,_]) rfl ⟨rfl,rfl,trivial⟩ (fun w hw=>?_))
   exact⟨⟨_,li.p,li.c⟩,⟨hr1,hr2⟩,rfl,dq [0] rfl rfl _ hw⟩
def L4 (N:Nat) (n:Int):Int:=if 0≤n∧n<(N:Int) then 0 else 4
def CP (past:Bool) (tkm:List fo) (n:Int) (l:List Nat):Prop:=if 0≤n∧n<(tkm.length:Int) then Ww (yL past tkm) n.toNat l else l=[]
theorem CP.pos {past:Bool} {tkm:List fo} {n:Int} {l:List Nat} (q:0≤n∧n<(tkm.length:Int)) (h:Ww (yL past tkm) n.toNat l):CP past tkm n l:=by unfold CP;rw[if_pos q];exact h
theorem Eb {N:Nat} {n:Int} (q:0≤n∧n<(N:Int)):L4 N n=0:=if_pos q
theorem Tv {N:Nat} {n:Int} (q:¬(0≤n∧n<(N:Int))):L4 N n=4:=if_neg q
theorem CP.eq {past:Bool} {tkm:List fo} {n:Int} {l m:List Nat} (h:CP past tkm n l) (k:CP past tkm n m):l=m:=by
 unfold CP at h k
 by_cases q:0≤n∧n<(tkm.length:Int)
 ·rw[if_pos q]at h k
  exact rv h.asc k.asc fun x=>(h.mem x).trans (k.mem x).symm
 ·rw[if_neg q]at h k;rw[h,k]
theorem CP.len {E:List (List gF)} {Ms:List Nat} {tkm:List fo} {of:Nat×Nat→Option Nat} (hI:iF E Ms tkm of) {past:Bool} {n:Int} {l:List Nat} (h:CP past tkm n l):l.length≤tkm.length:=by
 unfold CP at h
 split at h
 ·have hn:=sF h.asc
  have:=length_le_of_subset (m:=List.range tkm.length) hn (fun x hx=>List.mem_range.2 (by
   have hr:=(h.mem x).1 hx
   cases hr with
   |base h1=>exact BR hI h1
   |step _ h1=>exact BR hI h1))
  simpa using this
 ·rw[h];exact aY _
theorem U3 (b:Nat) (h:jk) (d:o8) (E:List (List gF)) (Ms:List Nat) (tkm:List fo) (of:Nat×Nat→Option Nat) (hP:FB E Ms tkm of d) (n:Int) (p:Bool) (w:World) (hd:u0 w b h d) (hn:¬(0≤n∧n<(tkm.length:Int))):
 Calls af 81 #[.pointer (some ⟨b,0,none⟩),.int .i64 n,.bool p] w fun e w'=>e= .returned (.tuple #[.slice none 0 0,.int .i64 4])∧St (bs w) [] w':=by
 refine enter (vs:=[_,_,_]) (env:=[(0,_),(1,_),(2,_)]) uD rfl rfl rfl rfl ?_
 refine au (ax rfl<|ax rfl<|aq<|au (ag rfl<|aB rfl<|cd (xs:=[_]) (vs:=[_]) TA ⟨(.r rfl),trivial⟩ (fun w2 hw=>mI hP b h w2 (hd.b0 w2 hw)) fun y hy=>aB rfl<|aW (LO.as (.r rfl))<|aN ?_))
 have hyl:y.tk.length=tkm.length:=by have z:=congrArg dv hy;rw[ak]at z;exact z
 have hylen:=hP.len
 refine aj<|av<|au (ag rfl<|dK rfl<|ag rfl<|aK rfl (fun hg=>aS (.r rfl))<|aK rfl (fun hg=>aS (.r rfl))<|aK rfl (fun hg=>bE lR (.g hg rfl) rfl)<|aK rfl (fun hg=>iw (.g hg rfl) (.g hg rfl))<|ah (cD (.r rfl) (.r rfl) rfl rfl) rfl<|aq<|ay rfl (fun h23=>?_) (fun h23=>?_))
 ·
  refine au (ax rfl<|ax rfl<|aq<|be (bA (dh (vs:=[_,_]) rfl ⟨rfl,rfl,trivial⟩ (fun w hw=>?_))))
  exact⟨rfl,hw.nil⟩
 · (exfalso;omega)
theorem C81:fh af 81:=⟨_,uD,by decide,rfl⟩
theorem OA (p:Bool) (b:Nat) (h:jk) (d:o8) (E:List (List gF)) (Ms:List Nat) (tkm:List fo) (of:Nat×Nat→Option Nat) (hP:FB E Ms tkm of d) (n:Int) (w:World) (hd:u0 w b h d):
  Calls af 81 #[.pointer (some ⟨b,0,none⟩),.int .i64 n,.bool p] w fun e w'=>∃y:Qw,CP p tkm n y.l∧e= .returned (.tuple #[.slice y.p y.l.length y.c,.int .i64 (L4 tkm.length n)])∧St (bs w) [own 3 1 y.p y.c (y.l.map nC)] w':=by
 by_cases q:0≤n∧n<(tkm.length:Int)
 ·rw[Eb q]
  cases p with
  |true=>exact(Vl b h d E Ms tkm of hP n w hd q).mono fun e w' ⟨y,h1,h2⟩=>⟨y,.pos q h1,h2⟩
  |false=>exact(VW b h d E Ms tkm of hP n w hd q).mono fun e w' ⟨y,h1,h2⟩=>⟨y,.pos q h1,h2⟩
 ·refine(U3 b h d E Ms tkm of hP n p w hd q).mono fun e w' ⟨h1,h2⟩=>⟨⟨[],none,0⟩,?_,?_,h2.fX 3 1⟩
  ·unfold CP;rw[if_neg q]
  ·rw[h1];unfold L4;rw[if_neg q];rfl
theorem RT (b:Nat) (h:jk) (d:o8) (E:List (List gF)) (Ms:List Nat) (tkm:List fo) (of:Nat×Nat→Option Nat) (hP:FB E Ms tkm of d) (n:Int) (w:World) (hd:u0 w b h d):
 Calls af 41 #[.pointer (some ⟨b,0,none⟩),.int .i64 n] w fun e w'=>∃y:Qw,CP true tkm n y.l∧e= .returned (.tuple #[.slice y.p y.l.length y.c,.int .i64 (L4 tkm.length n)])∧St (bs w) [own 3 1 y.p y.c (y.l.map nC)] w':=by
 refine enter (vs:=[_,_]) (env:=[(0,_),(1,_)]) Tryz.func41 rfl rfl rfl rfl ?_
 refine au (ax rfl<|ax rfl<|aq<|au (ag rfl<|ag rfl<|aB rfl<|cd (xs:=[_,_,_]) (vs:=[_,_,_]) C81 ⟨(.r rfl),(.r rfl),(.r rfl),trivial⟩ (fun w2 hw=>OA true b h d E Ms tkm of hP n w2 (hd.b0 w2 hw)) fun y hy=>aB rfl<|aW (cU (.r rfl) rfl)<|aB rfl<|aW (cU (.r rfl) rfl)<|aB rfl<|aW (LO.as (.r rfl))<|aB rfl<|aW (LO.as (.r rfl))<|aq<|be (dh (vs:=[_,_]) rfl ⟨rfl,rfl,trivial⟩ (fun w hw=>?_))))
 exact⟨y,hy,rfl,dq [0] rfl rfl _ hw⟩
theorem KG (b:Nat) (h:jk) (d:o8) (E:List (List gF)) (Ms:List Nat) (tkm:List fo) (of:Nat×Nat→Option Nat) (hP:FB E Ms tkm of d) (n:Int) (w:World) (hd:u0 w b h d):
 Calls af 43 #[.pointer (some ⟨b,0,none⟩),.int .i64 n] w fun e w'=>∃y:Qw,CP false tkm n y.l∧e= .returned (.tuple #[.slice y.p y.l.length y.c,.int .i64 (L4 tkm.length n)])∧St (bs w) [own 3 1 y.p y.c (y.l.map nC)] w':=by
 refine enter (vs:=[_,_]) (env:=[(0,_),(1,_)]) Tryz.func43 rfl rfl rfl rfl ?_
 refine au (ax rfl<|ax rfl<|aq<|au (ag rfl<|ag rfl<|aB rfl<|cd (xs:=[_,_,_]) (vs:=[_,_,_]) C81 ⟨(.r rfl),(.r rfl),(.r rfl),trivial⟩ (fun w2 hw=>OA false b h d E Ms tkm of hP n w2 (hd.b0 w2 hw)) fun y hy=>aB rfl<|aW (cU (.r rfl) rfl)<|aB rfl<|aW (cU (.r rfl) rfl)<|aB rfl<|aW (LO.as (.r rfl))<|aB rfl<|aW (LO.as (.r rfl))<|aq<|be (dh (vs:=[_,_]) rfl ⟨rfl,rfl,trivial⟩ (fun w hw=>?_))))
 exact⟨y,hy,rfl,dq [0] rfl rfl _ hw⟩
theorem VV (b:Nat) (h:jk) (s:oM) (n:Int) (w:World) (hb:Al w b h s) (hno:n<0∨(s.tk.length:Int)≤n):
 Calls af 40 #[.pointer (some ⟨b,0,none⟩),.int .i64 n] w fun e w'=>e= .returned (.tuple #[.slice none 0 0,.int .i64 4])∧St (bs w) [] w':=by
 refine enter (vs:=[_,_]) (env:=[(0,_),(1,_)]) Tryz.func40 rfl rfl rfl rfl ?_
 refine au (ax rfl<|ax rfl<|aq<|au (ag rfl<|ag rfl<|ah (bK (xs:=[_,_,_]) (vs:=[_,_,_]) C79 ⟨(.r rfl),(.r rfl),(.r rfl),trivial⟩ (fun w2 hw=>xm b h s.la ⟨s.pm,s.ys.length,s.cm⟩ s.pt s.ct s.kd s.tk w2 (hb.b0 w2 hw).c (.func (.func 80) #[] #[]) n hno)) rfl<|ah (cU (.r rfl) rfl) rfl<|ah (cU (.r rfl) rfl) rfl<|ax rfl<|ax rfl<|aq<|be (dh (vs:=[_,_]) rfl ⟨rfl,rfl,trivial⟩ (fun w hw=>?_))))
 exact⟨rfl,hw.nil⟩
theorem M9 (b:Nat) (h:jk) (s:oM) (n:Int) (w:World) (hb:Al w b h s) (hno:n<0∨(s.tk.length:Int)≤n):
 Calls af 42 #[.pointer (some ⟨b,0,none⟩),.int .i64 n] w fun e w'=>e= .returned (.tuple #[.slice none 0 0,.int .i64 4])∧St (bs w) [] w':=by
 refine enter (vs:=[_,_]) (env:=[(0,_),(1,_)]) Tryz.func42 rfl rfl rfl rfl ?_
 refine au (ax rfl<|ax rfl<|aq<|au (ag rfl<|ag rfl<|ah (bK (xs:=[_,_,_]) (vs:=[_,_,_]) C79 ⟨(.r rfl),(.r rfl),(.r rfl),trivial⟩ (fun w2 hw=>xm b h s.la ⟨s.pm,s.ys.length,s.cm⟩ s.pt s.ct s.kd s.tk w2 (hb.b0 w2 hw).c (.func (.func 82) #[] #[]) n hno)) rfl<|ah (cU (.r rfl) rfl) rfl<|ah (cU (.r rfl) rfl) rfl<|ax rfl<|ax rfl<|aq<|be (dh (vs:=[_,_]) rfl ⟨rfl,rfl,trivial⟩ (fun w hw=>?_))))
 exact⟨rfl,hw.nil⟩
structure Y4 (s:oM) (tkm:List fo):Prop where
 m:s.tk.map dG=tkm
 I:iF s.E s.Ms tkm s.of
 len:s.tk.length≤30000
theorem Vj (b:Nat) (h:jk) (s:oM) (tkm:List fo) (hT:Y4 s tkm) (n:Int) (w:World) (hb:Al w b h s):
  Calls af 40 #[.pointer (some ⟨b,0,none⟩),.int .i64 n] w fun e w'=>∃y:Qw,CP true tkm n y.l∧e= .returned (.tuple #[.slice y.p y.l.length y.c,.int .i64 (L4 tkm.length n)])∧St (bs w) [own 3 1 y.p y.c (y.l.map nC)] w':=by
 have hl:s.tk.length=tkm.length:=by rw[←hT.m,ak]
 by_cases q:0≤n∧n<(tkm.length:Int)
 ·obtain⟨k,rfl⟩:∃k:Nat,n=k:=⟨n.toNat,by omega⟩
  obtain⟨t,ht⟩:=du (l:=s.tk) (n:=k) (by omega)
  have hI:=hT.I
  rw[←hT.m]at hI
  rw[Eb q]
  refine(SC b h s k t w hb hI hT.len ht).mono fun e w' ⟨y,h1,h2,h3⟩=>⟨y,?_,h2,h3⟩
  rw[hT.m]at h1
  exact .pos q h1
 ·refine(VV b h s n w hb (by omega)).mono fun e w' ⟨h1,h2⟩=>⟨⟨[],none,0⟩,?_,?_,h2.fX 3 1⟩
  ·unfold CP;rw[if_neg q]
  ·rw[h1];unfold L4;rw[if_neg q];rfl
theorem Pc (b:Nat) (h:jk) (s:oM) (tkm:List fo) (hT:Y4 s tkm) (n:Int) (w:World) (hb:Al w b h s):
  Calls af 42 #[.pointer (some ⟨b,0,none⟩),.int .i64 n] w fun e w'=>∃y:Qw,CP false tkm n y.l∧e= .returned (.tuple #[.slice y.p y.l.length y.c,.int .i64 (L4 tkm.length n)])∧St (bs w) [own 3 1 y.p y.c (y.l.map nC)] w':=by
 have hl:s.tk.length=tkm.length:=by rw[←hT.m,ak]
 by_cases q:0≤n∧n<(tkm.length:Int)
 ·obtain⟨k,rfl⟩:∃k:Nat,n=k:=⟨n.toNat,by omega⟩
  obtain⟨t,ht⟩:=du (l:=s.tk) (n:=k) (by omega)
  have hI:=hT.I
  rw[←hT.m]at hI
  rw[Eb q]
  refine(Kb b h s k t w hb hI hT.len ht).mono fun e w' ⟨y,h1,h2,h3⟩=>⟨y,?_,h2,h3⟩
  rw[hT.m]at h1
  exact .pos q h1
 ·refine(M9 b h s n w hb (by omega)).mono fun e w' ⟨h1,h2⟩=>⟨⟨[],none,0⟩,?_,?_,h2.fX 3 1⟩
  ·unfold CP;rw[if_neg q]
  ·rw[h1];unfold L4;rw[if_neg q];rfl
end Go.Proofs.YtgemekpofpoopaaGreat
namespace Go.Proofs
open Go.Shelf
def Tryz.FX:Go.Shelf.Ren:=⟨fun|5=>29|7=>61|n=>n,fun|23=>81|25=>95|3=>3|4=>4|20=>20|n=>n,fun|n=>n⟩
theorem Tryz.Vc:Go.Proofs.SlLaysW.n5 af Tryz.FX:={
 mixed:=by kernel_rfl
 f5:=⟨Tryz.f29.name,by decide,Tryz.func29.trans (congrArg some (by kernel_rfl))⟩
 f7:=Tryz.func61.trans (congrArg some (by kernel_rfl))
 t4:=Tryz.underlying4
 a4:=Tryz.isAgg4
 z4:=Tryz.sizeOf4
 v4:=Tryz.zeroValue4
 t20:=Tryz.underlying20
 a20:=Tryz.isAgg20
 z20:=Tryz.sizeOf20
 v20:=Tryz.zeroValue20
 t23:=Tryz.underlying81
 a23:=Tryz.isAgg81
 z23:=Tryz.sizeOf81
 v23:=Tryz.zeroValue81 }
end Go.Proofs
namespace Go.Proofs.YtgemekpofpoopaaGreat
open Go.SL Go.Proofs Go.sM Go.Cell
set_option linter.unusedVariables false
theorem A85:lh af 85 19:=⟨⟨_,Tryz.underlying85,rfl⟩,by kernel_rfl⟩
theorem Z85:dr af 85 (.agg #[.int .i64 0,.int .i64 0,.int .i64 0,.int .i64 0,.int .i64 0,.int .i64 0,.int .i64 0,.int .i64 0,.slice none 0 0,.slice none 0 0,.map none,.int .i64 0,.int .i64 0,.int .i64 0,.int .i64 0,.int .i64 0,.int .i64 0,.int .i64 0,.int .i64 0]):=by unfold dr;kernel_rfl
theorem N85:(af.info? 85).map (·.size)=some 19:=by kernel_rfl
theorem C28:fh af 28:=⟨_,Tryz.func28,by decide,rfl⟩
theorem C29:fh af 29:=⟨_,Tryz.func29,by decide,rfl⟩
theorem N81:(af.info? 81).map (·.size)=some 1:=by kernel_rfl
theorem NL (b:Nat) (M:Int×Int→Option Nat) (w:World) (h:(jr Ay vZ b M).inv w):
  Calls af 29 #[.map (some b)] w fun e w'=>∃k:Nat,True∧e= .returned (.map (some k))∧St (bs w) [jr Ay vZ k M] w':=by
 obtain⟨es,c,h1,h2,h3⟩:=h
 refine(AnyW.maps_Clone Tryz.Vc b es c w h1).mono fun e w' ⟨he,hw⟩=>⟨w.heap.size,trivial,he,?_⟩
 subst hw
 have z:=(St.refl w).alloc (.map es c)
 have:=z.conv 0 (r':=jr Ay vZ w.heap.size M) rfl (fun k hk=>hk) ⟨es,c,z.inv 0 _ rfl,h2,h3⟩
 simpa using this
structure Wa where
 b:Nat
 bm:Nat
 pm:Option Addr
 cm:Nat
 pt:Option Addr
 ct:Nat
 tk:List cH
theorem W5 {g:eo} {w:World} {l:List oV} (h:RO 7 (Sg g) w none l):l=[]:=by
 have h1:=h.sm
 cases l with
 |nil=>rfl
 |cons a l=>have:=h1 (by simp);cases this
theorem OY (g:eo) (l:List oV) (p:Option Addr) (c:Nat) (w:World) (hl:RO 7 (Sg g) w p l) (hln:l.length≤1000000):
 Calls af 28 #[.slice p l.length c] w fun e w'=>∃y:B9,True∧e= .returned (.slice y.p l.length y.c)∧St (bs w) [own 92 7 y.p y.c (l.map (Sg g))] w':=by
 refine enter (vs:=[_]) (env:=[(0,_)]) Tryz.func28 rfl rfl rfl rfl ?_
 refine au (ax rfl<|aq<|av<|au (ag rfl<|ah (LO.Zb A9 (.r rfl) (.r rfl)) rfl<|aq ?_))
 refine ay rfl (fun h4=>?_) (fun h4=>?_)
 ·
  have hp:p=none:=by simpa using h4
  subst hp
  have hl0:l=[]:=W5 hl
  subst hl0
  refine au (ax rfl<|aq<|be (bA (VE.s rfl rfl (fun w hw=>?_))))
  exact⟨⟨none,0⟩,trivial,rfl,hw.fX 92 7⟩
 ·
  refine aE (aj<|au (aB rfl<|HO.bs0 A9 L8 fun b1=>ag rfl<|aB rfl<|HO.TB (f:=(Sg g)) (m:=l) 0 (fun R=>[R]) A9 A9 I92 (.r rfl) (.r rfl) rfl (fun w hw=>hl.b0 w hw) (fun _=>rfl) (fun _=>rfl) rfl rfl (fun _=>rfl) rfl (by omega) fun p2 c2 _=>aB rfl<|aW (LO.as (.r rfl))<|aq<|be (VE.s rfl rfl (fun w hw=>?_))))
  exact⟨⟨p2,c2⟩,trivial,rfl,dq [0] rfl rfl _ hw⟩
theorem VM (b:Nat) (h:jk) (s:oM) (w:World) (hb:Al w b h s) (hmp:RO 7 (Sg h.g) w s.pm s.ys) (hml:s.ys.length≤1000000) (htb:∀t,t∈s.tk→Wx t) (hl:s.tk.length≤1000000):
 Calls af 7 #[.pointer (some ⟨b,0,none⟩)] w fun e w'=>∃y:Wa,y.tk.map dG=s.tk.map dG∧e= .returned (.pointer (some ⟨y.b,0,none⟩))∧St (bs w) (tI y.b { h with bm:=y.bm } s.la y.pm y.cm s.ys y.pt y.ct s.kd y.tk s.of) w':=by
 refine enter (vs:=[_]) (env:=[(0,_)]) Tryz.func7 rfl rfl rfl rfl ?_
 refine au (ax rfl<|aq<|av<|au (ag rfl<|ah (bK (xs:=[_]) (vs:=[_]) R0 ⟨(.r rfl),trivial⟩ (fun w2 hw=>o6 b h s.la ⟨s.pm,s.ys.length,s.cm⟩ s.pt s.tk.length s.ct s.kd w2 (hb.b0 w2 hw).c)) rfl<|ah (LO.not (.r rfl)) rfl<|aq ?_))
 refine ay rfl (fun h6=>?_) (fun h6=>?_)
 · (exfalso;exact h6 rfl)
 ·
  refine aE (aj<|au (ag rfl<|ah (cV (.r rfl)) rfl<|ah (aX (vs:=[_,_,_,_,_,_,_,_,_,_,_,_,_,_,_,_,_,_,_]) A85 (.r rfl) (bj (bI (off:=0) hb.c ⟨_,rfl⟩)) rfl) rfl<|aB rfl<|cJ (C:=#[_,_,_,_,_,_,_,_,_,_,_,_,_,_,_,_,_,_,_]) Z85 rfl fun b1=>cu<|cq 0 (vs:=[_,_,_,_,_,_,_,_,_,_,_,_,_,_,_,_,_,_,_]) (C':=[_,_,_,_,_,_,_,_,_,_,_,_,_,_,_,_,_,_,_]) (L':=[_]) N85 rfl rfl rfl rfl rfl rfl rfl rfl<|aq<|av<|VC.iI [[0],[0],[0],[0],[],[],[]] [some 0,some 0,some 0,some 0,none,some 1,some 1,some 1,some 1,none,some 2,none,some 3,none,some 4,none,some 5,none] mixed (by kernel_rfl) rfl (cT rfl<|aG (fun _ hJ=>cV (.r rfl)) rfl<|aG (fun _ hJ=>aP (r:=8) oW (.r rfl) rfl) rfl<|aG (fun _ hJ=>aC KD (.r rfl) (bj (bI (off:=8) hb.c ⟨_,rfl⟩))) rfl<|dC<|cT rfl<|aG (fun _ hJ=>cV (.r rfl)) rfl<|aG (fun _ hJ=>aP (r:=10) tO (.r rfl) rfl) rfl<|aG (fun _ hJ=>aC SA (.r rfl) (bj (bI (off:=10) hb.c ⟨_,rfl⟩))) rfl<|dC<|cT rfl<|dC<|aG (fun _ hJ=>aP (r:=8) oW (.r rfl) rfl) rfl<|dC<|aG (fun _ hJ=>aP (r:=10) tO (.r rfl) rfl) rfl<|dC<|aG (fun _ hJ=>aP (r:=9) pK (.r rfl) rfl) rfl<|dC<|fj) (az<|az<|az<|az<|ga rfl<|cd (xs:=[_]) (vs:=[_]) C28 ⟨(.r rfl),trivial⟩ (fun w2 hw=>OY h.g s.ys s.pm s.cm w2 (hmp.b0 w2 hw) hml) fun ym _=>⟨fun _ hw=>hw.gY [1] rfl,az<|az<|az<|az<|ga rfl<|cd (xs:=[_]) (vs:=[_]) C29 ⟨(.r rfl),trivial⟩ (fun w2 hw=>NL h.bm (qK s.of) w2 (hb.b0 w2 hw).of) fun km _=>⟨fun _ hw=>hw.gY [2] rfl,az<|ga rfl<|cd (xs:=[_]) (vs:=[_]) C23 ⟨(.r rfl),trivial⟩ (fun w2 hw=>wm b h s.la ⟨s.pm,s.ys.length,s.cm⟩ s.pt s.ct s.kd s.tk w2 (hb.b0 w2 hw).c (hb.b0 w2 hw).tk (hb.b0 w2 hw).ti htb hl) fun yt hyt=>⟨fun _ hw=>hw.gY [6] rfl,az<|HX.h0<|cq 6 (vs:=[_]) (C':=[_,_,_,_,_,_,_,_,_,_,_,_,_,_,_,_,_,_,_]) (L':=[_,_,_,_,_,_,_]) N82 rfl rfl rfl rfl rfl rfl rfl rfl<|⟨fun _ hw=>hw.gY [] rfl,az<|HX.h0<|cq 6 (vs:=[_]) (C':=[_,_,_,_,_,_,_,_,_,_,_,_,_,_,_,_,_,_,_]) (L':=[_,_,_,_,_,_,_]) N81 rfl rfl rfl rfl rfl rfl rfl rfl<|⟨fun _ hw=>hw.gY [] rfl,az<|HX.h0<|cq 6 (vs:=[_]) (C':=[_,_,_,_,_,_,_,_,_,_,_,_,_,_,_,_,_,_,_]) (L':=[_,_,_,_,_,_,_]) N73 rfl rfl rfl rfl rfl rfl rfl rfl<|⟨fun _ hw=>hw.gY [] rfl,fB ?_⟩⟩⟩⟩⟩⟩)))
  refine aj<|au (ax rfl<|aq<|be (VE.s rfl rfl (fun w hw=>?_)))
  exact⟨⟨b1,km,ym.p,ym.c,yt.p,yt.c,yt.tk⟩,hyt,rfl,dq [6,0,1,4,5,2,3] rfl rfl _ hw⟩
theorem M7:cP af 76 1 1:=⟨_,_,Tryz.underlying76,rfl,rfl,0,by kernel_rfl⟩
theorem Ky:ee af 111 66:=Tryz.underlying111
theorem Z66:dr af 66 (.slice none 0 0):=by unfold dr;kernel_rfl
theorem N66:(af.info? 66).map (·.size)=some 1:=by kernel_rfl
theorem I66:j6 af 66 1 24 (.slice none 0 0):=⟨by kernel_rfl,by kernel_rfl,by unfold dr;kernel_rfl,rfl,by decide⟩
structure XL (w:World) (h:jk) (s:oM) (V:List (List Span)):Prop where
 mp:RO 7 (Sg h.g) w s.pm s.ys
 sp:∀(n:Nat) (y:oV),s.ys[n]? =some y→vO w y (mH (gW h.g) (gH h.g) (et (V.getD n []) h.lv))
theorem XL.b0 {w0:World} {h:jk} {s:oM} {V:List (List Span)} (k:XL w0 h s V) {L:List dg}:∀w,St (bs w0) L w→XL w h s V:=fun w hw=>⟨k.mp.b0 w hw,fun n y hy=>(k.sp n y hy).b0 w hw⟩
structure RJ (h:jk) (s:oM) (V:List (List Span)) (r:Nat):Prop where
 g:dH h.g
 n:s.ys.length=s.Ms.length
 ar:∀(n:Nat) (y:oV),s.ys[n]? =some y→AR (gW h.g) (gH h.g) (V.getD n []) h.lv y∧y.l.length=s.Ms.getD n 0
 rc:h.rc=(r:Int)
 r8:r≤8
 ms:s.Ms.length≤1000
structure XI (h:jk) (V:List (List Span)) (r:Nat) (d:o8):Prop where
 g:dH h.g
 ar:∀(n:Nat) (y:uE),d.ds[n]? =some y→Ax (gW h.g) (gH h.g) (V.getD n []) h.lv y
 rc:h.rc=(r:Int)
 r8:r≤8
def Sb (h:jk) (r:Nat) (V:List (List Span)) (t:fo) (k:Nat):List Mv:=ju h.g (V.getD (t.fr+k) []) (V.getD (t.fr+k+1) []) h.lv (t.ar.getD k 0) (t.ar.getD (k+1) 0) r
def xK (h:jk) (r:Nat) (V:List (List Span)) (t:fo) (n:Nat):List (List Mv):=(List.range n).map (Sb h r V t)
theorem Pq {h:jk} {r:Nat} {V:List (List Span)} {t:fo} {n:Nat}:xK h r V t (n+1)=xK h r V t n++[Sb h r V t n]:=by unfold xK;rw[List.range_succ,bG];rfl
theorem Je {h:jk} {r:Nat} {V:List (List Span)} {t:fo} {k a b:Nat} (ha:t.ar[k]? =some a) (hb:t.ar[k+1]? =some b):Sb h r V t k=ju h.g (V.getD (t.fr+k) []) (V.getD (t.fr+k+1) []) h.lv a b r:=by
 unfold Sb;rw[mQ ha,mQ hb]
structure StY where
 rs:List (cG Mv)
 p:Option Addr
 c:Nat
theorem Sn (g:eo) (ya yb:oV) (v1 v2:List Span) (lv rc:Int) (i j r:Nat) (hrc:rc=(r:Int)) (aa bb:di) (hia:ya.l[i]? =some aa) (hjb:yb.l[j]? =some bb) (w:World) (hg:dH g) (h1:AR (gW g) (gH g) v1 lv ya) (h2:AR (gW g) (gH g) v2 lv yb) (ha:vO w ya (mH (gW g) (gH g) (et v1 lv))) (hb:vO w yb (mH (gW g) (gH g) (et v2 lv))) (hr:r≤8):
  Calls af 57 #[R6 g ya,.int .i64 (i:Int),R6 g yb,.int .i64 (j:Int),.int .i64 rc] w fun e w'=>∃y:B9,True∧e= .returned (.slice y.p (ju g v1 v2 lv i j r).length y.c)∧St (bs w) [own 72 2 y.p y.c ((ju g v1 v2 lv i j r).map eR)] w':=by
 subst hrc
 have em:ju g v1 v2 lv i j r=rp (gW g) (gH g) (aa.kr.map dw) (bb.kr.map dw) (mH (gW g) (gH g) (et v1 lv)) (mH (gW g) (gH g) (et v2 lv)) i j r:=by unfold ju;rw[yo h1 hia,yo h2 hjb]
 rw[em]
 exact Ip g ya yb _ _ i j r aa bb hia hjb w hg ha hb mR mR (tB h1 (al hia)) (tB h2 (al hjb)) hr
abbrev Zs (a:di):Value:=.agg #[.slice a.px.p a.px.l.length a.px.c,.slice a.kp a.kr.length a.kc,.int .i64 a.s.xl,.int .i64 a.s.xh,.int .i64 a.s.yl,.int .i64 a.s.yh,.int .i64 a.s.sl,.int .i64 a.s.sh]
theorem M8 (g:eo) (ya yb:uE) (v1 v2:List Span) (lv rc:Int) (i j r:Nat) (hrc:rc=(r:Int)) (aa bb:di) (hia:ya.l[i]? =some aa) (hjb:yb.l[j]? =some bb) (w:World) (hg:dH g) (h1:Ax (gW g) (gH g) v1 lv ya) (h2:Ax (gW g) (gH g) v2 lv yb) (ha:AL w ya.p ya.l) (hb:AL w yb.p yb.l) (hr:r≤8):
  Calls af 84 #[lL g,Zs aa,Zs bb,.int .i64 rc] w fun e w'=>∃y:B9,True∧e= .returned (.slice y.p (ju g v1 v2 lv i j r).length y.c)∧St (bs w) [own 174 2 y.p y.c ((ju g v1 v2 lv i j r).map eR)] w':=by
 subst hrc
 have har:=iM hg
 have em:ju g v1 v2 lv i j r=rp (gW g) (gH g) (aa.kr.map dw) (bb.kr.map dw) (mH (gW g) (gH g) (et v1 lv)) (mH (gW g) (gH g) (et v2 lv)) i j r:=by unfold ju;rw[Iz h1 hia,Iz h2 hjb]
 rw[em]
 have ma:=al hia
 have mb:=al hjb
 exact NX g aa bb _ _ i j r w hg (ha.kr aa ma) (hb.kr bb mb) (ha.px aa ma) (hb.px bb mb) (Nf h1 ma) (Nf h2 mb) ((Jr h1 har).px aa ma) ((Jr h2 har).px bb mb) (zx h1 hia) (zx h2 hjb) hr
theorem Ov (b:Nat) (h:jk) (s:oM) (V:List (List Span)) (r n:Nat) (t:cH) (w:World) (hb:Al w b h s) (hW:XL w h s V) (hA:RJ h s V r) (hI:iF s.E s.Ms (s.tk.map dG) s.of) (hnt:s.tk[n]? =some t):
 Calls af 44 #[.pointer (some ⟨b,0,none⟩),.int .i64 (n:Int)] w fun e w'=>∃y:StY,y.rs.map dw=xK h r V t.m (t.ar.length-1)∧e= .returned (.tuple #[.slice y.p y.rs.length y.c,.int .i64 0])∧St (bs w) [own 66 1 y.p y.c (y.rs.map lI),kZ 72 2 eR y.rs] w':=by
 have htm:t∈s.tk:=al hnt
 have htm2:t.m∈s.tk.map dG:=bw htm
 obtain⟨hp1,hp2,hp3⟩:=hI.pos htm2
 have hp1:0<t.ar.length:=hp1
 have hp2:t.fr+t.ar.length≤s.Ms.length:=hp2
 have hms:=hA.ms
 have hyn:=hA.n
 have hr8:=hA.r8
 have hti:=hb.ti t htm
 refine enter (vs:=[_,_]) (env:=[(0,_),(1,_)]) Ai rfl rfl rfl rfl ?_
 refine au (ax rfl<|ax rfl<|aq<|au (ag rfl<|ag rfl<|ah (bK (xs:=[_,_]) (vs:=[_,_]) C83 ⟨(.r rfl),(.r rfl),trivial⟩ (fun w2 hw=>Il b h s.la ⟨s.pm,s.ys.length,s.cm⟩ s.pt s.ct s.kd s.tk w2 (hb.b0 w2 hw).c (hb.b0 w2 hw).tk n t hnt)) rfl<|ag rfl<|ah (cU (.r rfl) rfl) rfl<|ah (cU (.r rfl) rfl) rfl<|aB rfl<|cJ (C:=#[_,_,_,_,_,_]) Qp rfl fun b1=>cu<|cq 0 (vs:=[_,_,_,_,_,_]) (C':=[_,_,_,_,_,_]) (L':=[_]) vU rfl rfl rfl rfl rfl rfl rfl rfl<|ax rfl<|aq<|av ?_))
 refine au (ag rfl<|VO.u rfl<|aq<|ay rfl (fun h17=>?_) (fun h17=>?_))
 · (exfalso;exact h17 rfl)
 ·
  refine aE (aj<|au (ax rfl<|aq<|av<|au (ax rfl<|aN ?_)))
  refine aj<|aD<|bS (α:=Nat×(List (cG Mv))×(Option Addr)×Nat) 0 (fun gx=>[(8,.slice gx.2.2.1 gx.2.1.length gx.2.2.2),(9,.int .i64 ((gx.1+1:Nat):Int))]) [(0,_),(6,_)] (fun gx=>[own 66 1 gx.2.2.1 gx.2.2.2 (gx.2.1.map lI),kZ 72 2 eR gx.2.1]) (fun gx=>gx.1+1≤t.ar.length∧gx.2.1.map dw=xK h r V t.m gx.1) (fun gx=>t.ar.length-gx.1) (0,[],none,0) (by exact⟨by omega,rfl⟩) (.c4 rfl rfl rfl rfl .nil) (fun _ h=>((h.qi 72 2 eR).fX 66 1)) ?_
  rintro ⟨k,rs,po,co⟩ ⟨hk,hrs⟩
  show VC _ _ _ _ _ ([(8,.slice po rs.length co),(9,.int .i64 ((k+1:Nat):Int))]++_) ([own 66 1 po co (rs.map lI),kZ 72 2 eR rs]++_) _ _
  dsimp only at hk hrs
  have hrl:rs.length=k:=by have z:=congrArg dv hrs;rw[ak]at z;rw[z];unfold xK;rw[ak,jO]
  refine av<|au (ag rfl<|bO (r:=2) vf rfl<|cL 2 iL rfl rfl ⟨_,rfl⟩ rfl<|ah (bE fk (.r rfl) rfl) rfl<|dK rfl<|aq<|ay rfl (fun h23=>?_) (fun h23=>?_))
  ·
   obtain⟨a1,ha1⟩:=du (l:=t.ar) (n:=k) (by omega)
   obtain⟨a2,ha2⟩:=du (l:=t.ar) (n:=k+1) (by omega)
   obtain⟨ya,hya⟩:=du (l:=s.ys) (n:=t.fr+k) (by omega)
   obtain⟨yb,hyb⟩:=du (l:=s.ys) (n:=t.fr+k+1) (by omega)
   have hr1:a1<ya.l.length:=by rw[(hA.ar _ ya hya).2];exact hI.q.qE t.m htm2 k a1 ha1
   have hr2:a2<yb.l.length:=by rw[(hA.ar _ yb hyb).2];exact hI.q.qE t.m htm2 (k+1) a2 ha2
   obtain⟨aa,haa⟩:=du (l:=ya.l) (n:=a1) hr1
   obtain⟨bb,hbb⟩:=du (l:=yb.l) (n:=a2) hr2
   refine aE (aj<|av<|aD<|VC.iI [[0,1,2],[0,1,2],[0,1,2],[1,2],[1,2]] [some 2,some 0,some 0,some 0,some 0,some 0,some 0,some 0,some 0,some 0,some 0,some 0,some 0,some 0,some 0,some 0,some 0,some 0,some 0,some 0,some 0,some 0,some 0,some 0,some 0,some 0,some 0,some 0,some 0,some 0,some 0,some 0,some 0,some 0,some 0,some 0,some 0,none,none,none,none] mixed (by kernel_rfl) rfl (cT rfl<|cT rfl<|aG (fun _ hJ=>cV (.r rfl)) rfl<|aG (fun _ hJ=>aP (r:=8) oW (.r rfl) rfl) rfl<|aG (fun _ hJ=>aC KD (.r rfl) (bj (bI (off:=8) hb.c ⟨_,rfl⟩))) rfl<|aG (fun _ hJ=>aP (r:=1) M7 (.r rfl) rfl) rfl<|aG (fun _ hJ=>aC O3 (.r rfl) (fun _ hw=>cN (hJ _ hw) 2 rfl ⟨_,rfl⟩)) rfl<|cT rfl<|aG (fun _ hJ=>LO.add (.r rfl) (.r rfl) (wi (by omega) (by omega))) rfl<|aG (fun _ hJ=>gz (.r rfl) (.r rfl) (wi (by omega) (by omega))) rfl<|aG (fun _ hJ=>bM A9 L8 hW.mp.sm (.r rfl) (.r rfl) (j:=t.fr+k) (by omega) (by omega)) rfl<|aG (fun _ hJ=>aX (vs:=[_,_,_,_,_,_,_]) Pj (.r rfl) (fun w hw=>aA (off:=0) ((fun w3 h3=>cY (hW.b0 w3 h3).mp hya) w (hJ _ hw)) ⟨_,rfl⟩) rfl) rfl<|aG (fun _ hJ=>aP (r:=2) vf (.r rfl) rfl) rfl<|aG (fun _ hJ=>aC iL (.r rfl) (fun _ hw=>cN (hJ _ hw) 2 rfl ⟨_,rfl⟩)) rfl<|cT rfl<|aG (fun _ hJ=>gz (.r rfl) (.r rfl) (wi (by omega) (by omega))) rfl<|aG (fun _ hJ=>bM fk N3 hti.a.sm (.r rfl) (.r rfl) (j:=k) (by omega) (by omega)) rfl<|aG (fun _ hJ=>aC O3 (.r rfl) (fun w hw=>aA (off:=0) ((fun w3 h3=>cY (((hb.b0 w3 h3).ti t htm).a) ha1) w (hJ _ hw)) ⟨_,rfl⟩)) rfl<|cT rfl<|aG (fun _ hJ=>cV (.r rfl)) rfl<|aG (fun _ hJ=>aP (r:=8) oW (.r rfl) rfl) rfl<|aG (fun _ hJ=>aC KD (.r rfl) (bj (bI (off:=8) hb.c ⟨_,rfl⟩))) rfl<|aG (fun _ hJ=>aP (r:=1) M7 (.r rfl) rfl) rfl<|aG (fun _ hJ=>aC O3 (.r rfl) (fun _ hw=>cN (hJ _ hw) 2 rfl ⟨_,rfl⟩)) rfl<|cT rfl<|aG (fun _ hJ=>LO.add (.r rfl) (.r rfl) (wi (by omega) (by omega))) rfl<|aG (fun _ hJ=>bM A9 L8 hW.mp.sm (.r rfl) (.r rfl) (j:=t.fr+k+1) (by omega) (by omega)) rfl<|aG (fun _ hJ=>aX (vs:=[_,_,_,_,_,_,_]) Pj (.r rfl) (fun w hw=>aA (off:=0) ((fun w3 h3=>cY (hW.b0 w3 h3).mp hyb) w (hJ _ hw)) ⟨_,rfl⟩) rfl) rfl<|aG (fun _ hJ=>aP (r:=2) vf (.r rfl) rfl) rfl<|aG (fun _ hJ=>aC iL (.r rfl) (fun _ hw=>cN (hJ _ hw) 2 rfl ⟨_,rfl⟩)) rfl<|cT rfl<|aG (fun _ hJ=>bM fk N3 hti.a.sm (.r rfl) (.r rfl) (j:=k+1) (by omega) (by omega)) rfl<|aG (fun _ hJ=>aC O3 (.r rfl) (fun w hw=>aA (off:=0) ((fun w3 h3=>cY (((hb.b0 w3 h3).ti t htm).a) ha2) w (hJ _ hw)) ⟨_,rfl⟩)) rfl<|cT rfl<|aG (fun _ hJ=>cV (.r rfl)) rfl<|aG (fun _ hJ=>aP (r:=6) TQ (.r rfl) rfl) rfl<|aG (fun _ hJ=>aC O3 (.r rfl) (bj (bI (off:=6) hb.c ⟨_,rfl⟩))) rfl<|dC<|dC<|dC<|dC<|fj) (az<|az<|az<|az<|az<|az<|az<|az<|az<|az<|az<|az<|az<|az<|az<|az<|az<|az<|az<|az<|az<|az<|az<|az<|az<|az<|az<|az<|az<|az<|az<|az<|az<|az<|az<|az<|az<|ga rfl<|cd (xs:=[_,_,_,_,_]) (vs:=[_,_,_,_,_]) C57 ⟨(.r rfl),(.r rfl),(.r rfl),(.r rfl),(.r rfl),trivial⟩ (fun w2 hw=>Sn h.g ya yb (V.getD (t.fr+k) []) (V.getD (t.fr+k+1) []) h.lv h.rc a1 a2 r hA.rc aa bb haa hbb w2 hA.g (hA.ar _ ya hya).1 (hA.ar _ yb hyb).1 ((hW.b0 w2 hw).sp _ ya hya) ((hW.b0 w2 hw).sp _ yb hyb) hr8) fun ym _=>⟨fun _ hw=>hw.gY [1,2,3] rfl,ga rfl<|eW (ps:=[(_,_)]) (vs:=[(_,_)]) (Z:=[_]) (C:=[_]) Ky Z66 N66 ⟨(.r rfl),trivial⟩ rfl rfl rfl rfl ⟨_,[_],[_],rfl,rfl,rfl,rfl,rfl⟩ fun b8=>⟨fun _ hw=>hw.gY [2,3,4] rfl,ga rfl<|eP ((⟨ym.p,ym.c,ju h.g (V.getD (t.fr+k) []) (V.getD (t.fr+k+1) []) h.lv a1 a2 r⟩:cG Mv)) 2 0 (fun R=>[_,_,R,_,_]) Ky Ky I66 (.r rfl) (.r rfl) rfl rfl rfl rfl rfl rfl rfl (fun _=>rfl) rfl (by omega) fun p39 c39=>⟨fun _ hw=>hw.gY [3,4] rfl,ga rfl<|aW (LO.as (.r rfl))<|⟨fun _ hw=>hw.gY [3,4] rfl,fB ?_⟩⟩⟩⟩))
   refine bB (aj<|aM (ag rfl<|da rfl rfl (by omega) (by omega) rfl<|ax rfl<|aN<|aZ fun a w ha hw=>⟨(k+1,(rs++[(⟨ym.p,ym.c,ju h.g (V.getD (t.fr+k) []) (V.getD (t.fr+k+1) []) h.lv a1 a2 r⟩:cG Mv)]),p39,c39),⟨by dsimp only;omega,by dsimp only;rw[bG,hrs,Pq,Je (t:=t.m) ha1 ha2];rfl⟩,(by dsimp only;omega),ha.sub (.c4 rfl rfl rfl rfl .nil),(by dsimp only;exact dq (L1:=[_,_,_]) [1,0,2] rfl rfl _ (St.wg (E:=72) (z:=2) (f:=eR) (rs:=rs) (x:=⟨ym.p,ym.c,ju h.g (V.getD (t.fr+k) []) (V.getD (t.fr+k+1) []) h.lv a1 a2 r⟩) (dq (L1:=own 72 2 ym.p ym.c ((ju h.g (V.getD (t.fr+k) []) (V.getD (t.fr+k+1) []) h.lv a1 a2 r).map eR)::kZ 72 2 eR rs::[_,_]) [1,3,2,4] rfl rfl _ hw)))⟩))
  ·
   have hke:k=t.ar.length-1:=by omega
   subst hke
   refine bU (aH (aH (cB (aj<|au (ag rfl<|ax rfl<|ax rfl<|aq<|be (dh (vs:=[_,_]) rfl ⟨rfl,rfl,trivial⟩ (fun w hw=>?_)))))))
   exact⟨⟨rs,po,co⟩,hrs,rfl,dq [0,1] rfl rfl _ hw⟩
theorem Rg (b:Nat) (h:jk) (s:oM) (n:Int) (w:World) (hb:Al w b h s) (hno:n<0∨(s.tk.length:Int)≤n):
 Calls af 44 #[.pointer (some ⟨b,0,none⟩),.int .i64 n] w fun e w'=>e= .returned (.tuple #[.slice none 0 0,.int .i64 4])∧St (bs w) [] w':=by
 refine enter (vs:=[_,_]) (env:=[(0,_),(1,_)]) Ai rfl rfl rfl rfl ?_
 refine au (ax rfl<|ax rfl<|aq<|au (ag rfl<|ag rfl<|ah (bK (xs:=[_,_]) (vs:=[_,_]) C83 ⟨(.r rfl),(.r rfl),trivial⟩ (fun w2 hw=>ME b h s.la ⟨s.pm,s.ys.length,s.cm⟩ s.pt s.ct s.kd s.tk w2 (hb.b0 w2 hw).c n hno)) rfl<|ag rfl<|ah (cU (.r rfl) rfl) rfl<|ah (cU (.r rfl) rfl) rfl<|aB rfl<|cJ (C:=#[_,_,_,_,_,_]) Qp rfl fun b1=>cu<|cq 0 (vs:=[_,_,_,_,_,_]) (C':=[_,_,_,_,_,_]) (L':=[_]) vU rfl rfl rfl rfl rfl rfl rfl rfl<|ax rfl<|aq<|av ?_))
 refine au (ag rfl<|VO.u rfl<|aq<|ay rfl (fun h17=>?_) (fun h17=>?_))
 ·
  refine au (ag rfl<|ax rfl<|ax rfl<|aq<|be (bA (dh (vs:=[_,_]) rfl ⟨rfl,rfl,trivial⟩ (fun w hw=>?_))))
  exact⟨rfl,hw.nil⟩
 · (exfalso;exact h17 (by decide))
theorem Jc:cP af 89 0 0:=⟨_,_,kY,rfl,rfl,4,by kernel_rfl⟩
theorem T4:cP af 89 2 6:=⟨_,_,kY,rfl,rfl,0,by kernel_rfl⟩
theorem C84:fh af 84:=⟨_,Tryz.func84,by decide,rfl⟩
theorem OT:ee af 114 118:=Tryz.underlying114
theorem acy:dr af 118 (.slice none 0 0):=by unfold dr;kernel_rfl
theorem Zj:(af.info? 118).map (·.size)=some 1:=by kernel_rfl
theorem abS:j6 af 118 1 24 (.slice none 0 0):=⟨by kernel_rfl,by kernel_rfl,by unfold dr;kernel_rfl,rfl,by decide⟩
theorem Ki (b:Nat) (h:jk) (d:o8) (E:List (List gF)) (Ms:List Nat) (tkm:List fo) (of:Nat×Nat→Option Nat) (hP:FB E Ms tkm of d) (V:List (List Span)) (r n:Nat) (hV:XI h V r d) (w:World) (hd:u0 w b h d) (hn:n<tkm.length):
 Calls af 45 #[.pointer (some ⟨b,0,none⟩),.int .i64 (n:Int)] w fun e w'=>∃y:StY,y.rs.map dw=xK h r V (tkm.getD n zT) ((tkm.getD n zT).ar.length-1)∧e= .returned (.tuple #[.slice y.p y.rs.length y.c,.int .i64 0])∧St (bs w) [own 118 1 y.p y.c (y.rs.map lI),kZ 174 2 eR y.rs] w':=by
 have hr8:=hV.r8
 have hpm:=hP.ms
 have hdl:=hP.A.n
 refine enter (vs:=[_,_]) (env:=[(0,_),(1,_)]) Aj rfl rfl rfl rfl ?_
 refine au (ax rfl<|ax rfl<|aq<|au (ag rfl<|aB rfl<|cd (xs:=[_]) (vs:=[_]) TA ⟨(.r rfl),trivial⟩ (fun w2 hw=>mI hP b h w2 (hd.b0 w2 hw)) fun y hy=>aB rfl<|aW (LO.as (.r rfl))<|aN ?_))
 have hyl:y.tk.length=tkm.length:=by have z:=congrArg dv hy;rw[ak]at z;exact z
 have hylen:=hP.len
 refine aj<|av<|au (ag rfl<|dK rfl<|ag rfl<|aK rfl (fun hg=>aS (.r rfl))<|aK rfl (fun hg=>aS (.r rfl))<|aK rfl (fun hg=>bE lR (.g hg rfl) rfl)<|aK rfl (fun hg=>iw (.g hg rfl) (.g hg rfl))<|ah (cD (.r rfl) (.r rfl) rfl rfl) rfl<|aq<|ay rfl (fun h19=>?_) (fun h19=>?_))
 · (exfalso;omega)
 ·
  obtain⟨xi,hxi⟩:=du (l:=y.tk) (n:=n) (by omega)
  have hxm:=al hxi
  have hti:tkm[n]? =some xi.m:=by rw[←hy,aI,hxi];rfl
  have htm2:=al hti
  obtain⟨p1,p2,p3⟩:=hP.I.pos htm2
  have p1:0<xi.ar.length:=p1
  have p2:xi.fr+xi.ar.length≤Ms.length:=p2
  rw[nv hti]
  refine aE (aj<|av<|VC.T3 (φ:=jR xi.ap xi.ar.length) (fun w hw=>(VP hw 1 rfl hxm).sm) fun hsm=>aM (ag rfl<|ag rfl<|ah (cy lR ov (fun _ hw=>(bL hw 0 rfl).some (by rw[ak])) (.r rfl) (.r rfl) rfl (by omega)) rfl<|ah (aX (vs:=[_,_,_,_,_,_]) Ej (.r rfl) (fun w hw=>aA (off:=0) (cO hw 0 rfl hxi) ⟨_,rfl⟩) rfl) rfl<|aB rfl<|cJ (C:=#[_,_,_,_,_,_]) Kt rfl fun b5=>cu<|cq 0 (vs:=[_,_,_,_,_,_]) (C':=[_,_,_,_,_,_]) (L':=[_,_,_,_,_]) ov rfl rfl rfl rfl rfl rfl rfl rfl<|aq<|au (ax rfl<|aN ?_)))
  refine aj<|av<|au (ax rfl<|aq<|aD<|bS (α:=Nat×(List (cG Mv))×(Option Addr)×Nat) 0 (fun gx=>[(8,.slice gx.2.2.1 gx.2.1.length gx.2.2.2),(9,.int .i64 (gx.1:Nat))]) [(0,_),(7,_)] (fun gx=>[own 118 1 gx.2.2.1 gx.2.2.2 (gx.2.1.map lI),kZ 174 2 eR gx.2.1]) (fun gx=>gx.1+1≤xi.ar.length∧gx.2.1.map dw=xK h r V xi.m gx.1) (fun gx=>xi.ar.length-gx.1) (0,[],none,0) (by exact⟨by omega,rfl⟩) (.c4 rfl rfl rfl rfl .nil) (fun _ h=>((h.qi 174 2 eR).fX 118 1)) ?_)
  rintro ⟨k,rs,po,co⟩ ⟨hk,hrs⟩
  show VC _ _ _ _ _ ([(8,.slice po rs.length co),(9,.int .i64 (k:Nat))]++_) ([own 118 1 po co (rs.map lI),kZ 174 2 eR rs]++_) _ _
  dsimp only at hk hrs
  have hrl:rs.length=k:=by have z:=congrArg dv hrs;rw[ak]at z;rw[z];unfold xK;rw[ak,jO]
  refine av<|au (ag rfl<|da rfl rfl (by omega) (by omega) rfl<|bO (r:=2) mN rfl<|cL 2 iL rfl rfl ⟨_,rfl⟩ rfl<|ah (bE fk (.r rfl) rfl) rfl<|dK rfl<|aq<|ay rfl (fun h29=>?_) (fun h29=>?_))
  ·
   obtain⟨a1,ha1⟩:=du (l:=xi.ar) (n:=k) (by omega)
   obtain⟨a2,ha2⟩:=du (l:=xi.ar) (n:=k+1) (by omega)
   obtain⟨ya,hya⟩:=du (l:=d.ds) (n:=xi.fr+k) (by omega)
   obtain⟨yb,hyb⟩:=du (l:=d.ds) (n:=xi.fr+k+1) (by omega)
   have hyam:=al hya
   have hybm:=al hyb
   have hr1:a1<ya.l.length:=by rw[hP.A.m _ ya hya];exact hP.I.q.qE xi.m htm2 k a1 ha1
   have hr2:a2<yb.l.length:=by rw[hP.A.m _ yb hyb];exact hP.I.q.qE xi.m htm2 (k+1) a2 ha2
   obtain⟨aa,haa⟩:=du (l:=ya.l) (n:=a1) hr1
   obtain⟨bb,hbb⟩:=du (l:=yb.l) (n:=a2) hr2
   refine aE (aj<|av<|aD<|VC.iI [[0,1,2,3,4,5,6],[0,1,2,3,4,5,6],[0,1,2,3,4,5,6],[1,2,3,4,5,6],[1,2,3,4,5,6]] [some 2,some 0,some 0,some 0,some 0,some 0,some 0,some 0,some 0,some 0,some 0,some 0,some 0,some 0,some 0,some 0,some 0,some 0,some 0,some 0,some 0,some 0,some 0,some 0,some 0,some 0,some 0,some 0,some 0,some 0,some 0,some 0,some 0,some 0,some 0,some 0,some 0,some 0,some 0,some 0,some 0,some 0,some 0,some 0,some 0,none,none,none,none] mixed (by kernel_rfl) rfl (cT rfl<|cT rfl<|aG (fun _ hJ=>cV (.r rfl)) rfl<|aG (fun _ hJ=>aP (r:=0) Jc (.r rfl) rfl) rfl<|aG (fun _ hJ=>aX (vs:=[_,_,_,_,_]) qw (.r rfl) (bj (bI (off:=0) hd.c ⟨_,rfl⟩)) rfl) rfl<|cT rfl<|aG (fun _ hJ=>cV (.r rfl)) rfl<|aG (fun _ hJ=>aP (r:=8) sn (.r rfl) rfl) rfl<|aG (fun _ hJ=>aC R7 (.r rfl) (bj (bI (off:=8) hd.c ⟨_,rfl⟩))) rfl<|aG (fun _ hJ=>aP (r:=1) sr (.r rfl) rfl) rfl<|aG (fun _ hJ=>aC O3 (.r rfl) (fun _ hw=>cN (hJ _ hw) 2 rfl ⟨_,rfl⟩)) rfl<|cT rfl<|aG (fun _ hJ=>LO.add (.r rfl) (.r rfl) (wi (by omega) (by omega))) rfl<|aG (fun _ hJ=>bM K3 F8 hd.ds.sm (.r rfl) (.r rfl) (j:=xi.fr+k) (by omega) (by omega)) rfl<|aG (fun _ hJ=>aC OB (.r rfl) (fun w hw=>aA (off:=0) ((fun w3 h3=>cY (hd.b0 w3 h3).ds hya) w (hJ _ hw)) ⟨_,rfl⟩)) rfl<|aG (fun _ hJ=>aP (r:=2) mN (.r rfl) rfl) rfl<|aG (fun _ hJ=>aC iL (.r rfl) (fun _ hw=>cN (hJ _ hw) 2 rfl ⟨_,rfl⟩)) rfl<|cT rfl<|aG (fun _ hJ=>bM fk N3 hsm (.r rfl) (.r rfl) (j:=k) (by omega) (by omega)) rfl<|aG (fun _ hJ=>aC O3 (.r rfl) (fun w hw=>aA (off:=0) ((fun w3 h3=>cY (VP h3 4 rfl hxm) ha1) w (hJ _ hw)) ⟨_,rfl⟩)) rfl<|aG (fun _ hJ=>bM yE Fm (hd.ar ya hyam).ar.sm (.r rfl) (.r rfl) rfl (by omega)) rfl<|aG (fun _ hJ=>aX (vs:=[_,_,_,_,_,_,_,_]) Ap (.r rfl) (fun w hw=>aA (off:=0) ((fun w3 h3=>cY ((hd.b0 w3 h3).ar ya hyam).ar haa) w (hJ _ hw)) ⟨_,rfl⟩) rfl) rfl<|cT rfl<|aG (fun _ hJ=>cV (.r rfl)) rfl<|aG (fun _ hJ=>aP (r:=8) sn (.r rfl) rfl) rfl<|aG (fun _ hJ=>aC R7 (.r rfl) (bj (bI (off:=8) hd.c ⟨_,rfl⟩))) rfl<|aG (fun _ hJ=>aP (r:=1) sr (.r rfl) rfl) rfl<|aG (fun _ hJ=>aC O3 (.r rfl) (fun _ hw=>cN (hJ _ hw) 2 rfl ⟨_,rfl⟩)) rfl<|cT rfl<|aG (fun _ hJ=>LO.add (.r rfl) (.r rfl) (wi (by omega) (by omega))) rfl<|aG (fun _ hJ=>LO.add (.r rfl) (.r rfl) (wi (by omega) (by omega))) rfl<|aG (fun _ hJ=>bM K3 F8 hd.ds.sm (.r rfl) (.r rfl) (j:=xi.fr+k+1) (by omega) (by omega)) rfl<|aG (fun _ hJ=>aC OB (.r rfl) (fun w hw=>aA (off:=0) ((fun w3 h3=>cY (hd.b0 w3 h3).ds hyb) w (hJ _ hw)) ⟨_,rfl⟩)) rfl<|aG (fun _ hJ=>aP (r:=2) mN (.r rfl) rfl) rfl<|aG (fun _ hJ=>aC iL (.r rfl) (fun _ hw=>cN (hJ _ hw) 2 rfl ⟨_,rfl⟩)) rfl<|cT rfl<|aG (fun _ hJ=>LO.add (.r rfl) (.r rfl) (wi (by omega) (by omega))) rfl<|aG (fun _ hJ=>bM fk N3 hsm (.r rfl) (.r rfl) (j:=k+1) (by omega) (by omega)) rfl<|aG (fun _ hJ=>aC O3 (.r rfl) (fun w hw=>aA (off:=0) ((fun w3 h3=>cY (VP h3 4 rfl hxm) ha2) w (hJ _ hw)) ⟨_,rfl⟩)) rfl<|aG (fun _ hJ=>bM yE Fm (hd.ar yb hybm).ar.sm (.r rfl) (.r rfl) rfl (by omega)) rfl<|aG (fun _ hJ=>aX (vs:=[_,_,_,_,_,_,_,_]) Ap (.r rfl) (fun w hw=>aA (off:=0) ((fun w3 h3=>cY ((hd.b0 w3 h3).ar yb hybm).ar hbb) w (hJ _ hw)) ⟨_,rfl⟩) rfl) rfl<|cT rfl<|aG (fun _ hJ=>cV (.r rfl)) rfl<|aG (fun _ hJ=>aP (r:=6) T4 (.r rfl) rfl) rfl<|aG (fun _ hJ=>aC O3 (.r rfl) (bj (bI (off:=6) hd.c ⟨_,rfl⟩))) rfl<|dC<|dC<|dC<|dC<|fj) (az<|az<|az<|az<|az<|az<|az<|az<|az<|az<|az<|az<|az<|az<|az<|az<|az<|az<|az<|az<|az<|az<|az<|az<|az<|az<|az<|az<|az<|az<|az<|az<|az<|az<|az<|az<|az<|az<|az<|az<|az<|az<|az<|az<|az<|ga rfl<|cd (xs:=[_,_,_,_]) (vs:=[_,_,_,_]) C84 ⟨(.r rfl),(.r rfl),(.r rfl),(.r rfl),trivial⟩ (fun w2 hw=>M8 h.g ya yb (V.getD (xi.fr+k) []) (V.getD (xi.fr+k+1) []) h.lv h.rc a1 a2 r hV.rc aa bb haa hbb w2 hV.g (hV.ar _ ya hya) (hV.ar _ yb hyb) ((hd.b0 w2 hw).ar ya hyam) ((hd.b0 w2 hw).ar yb hybm) hr8) fun ym _=>⟨fun _ hw=>hw.gY [1,2,3,4,5,6,7] rfl,ga rfl<|eW (ps:=[(_,_)]) (vs:=[(_,_)]) (Z:=[_]) (C:=[_]) OT acy Zj ⟨(.r rfl),trivial⟩ rfl rfl rfl rfl ⟨_,[_],[_],rfl,rfl,rfl,rfl,rfl⟩ fun b12=>⟨kJ (L1:=[_,_,_,_,_,_,_]) [2,3,4,5,6,7,8] rfl rfl rfl,ga rfl<|eP ((⟨ym.p,ym.c,ju h.g (V.getD (xi.fr+k) []) (V.getD (xi.fr+k+1) []) h.lv a1 a2 r⟩:cG Mv)) 2 0 (fun R=>[_,_,R,_,_,_,_,_,_]) OT OT abS (.r rfl) (.r rfl) rfl rfl rfl rfl rfl rfl rfl (fun _=>rfl) rfl (by omega) fun p47 c47=>⟨kJ (L1:=[_,_,_,_,_,_]) [3,4,5,6,7,8] rfl rfl rfl,ga rfl<|aW (LO.as (.r rfl))<|⟨kJ (L1:=[_,_,_,_,_,_]) [3,4,5,6,7,8] rfl rfl rfl,fB ?_⟩⟩⟩⟩))
   refine bB (aj<|aM (ag rfl<|da rfl rfl (by omega) (by omega) rfl<|ax rfl<|aN<|aZ fun a w ha hw=>⟨(k+1,(rs++[(⟨ym.p,ym.c,ju h.g (V.getD (xi.fr+k) []) (V.getD (xi.fr+k+1) []) h.lv a1 a2 r⟩:cG Mv)]),p47,c47),⟨by dsimp only;omega,by dsimp only;rw[bG,hrs,Pq,Je (t:=xi.m) ha1 ha2];rfl⟩,(by dsimp only;omega),ha.sub (.c4 rfl rfl rfl rfl .nil),(by dsimp only;exact dq (L1:=[_,_,_,_,_,_,_]) [1,0,2,3,4,5,6] rfl rfl _ (St.wg (E:=174) (z:=2) (f:=eR) (rs:=rs) (x:=⟨ym.p,ym.c,ju h.g (V.getD (xi.fr+k) []) (V.getD (xi.fr+k+1) []) h.lv a1 a2 r⟩) (dq (L1:=own 174 2 ym.p ym.c ((ju h.g (V.getD (xi.fr+k) []) (V.getD (xi.fr+k+1) []) h.lv a1 a2 r).map eR)::kZ 174 2 eR rs::[_,_,_,_,_,_]) [1,3,2,4,5,6,7,8] rfl rfl _ hw)))⟩))
  ·
   have hke:k=xi.ar.length-1:=by omega
   subst hke
   refine bU (aH (aH (cB (aj<|au (ag rfl<|ax rfl<|ax rfl<|aq<|be (dh (vs:=[_,_]) rfl ⟨rfl,rfl,trivial⟩ (fun w hw=>?_)))))))
   exact⟨⟨rs,po,co⟩,hrs,rfl,dq [0,1] rfl rfl _ hw⟩
theorem Ox (b:Nat) (h:jk) (d:o8) (E:List (List gF)) (Ms:List Nat) (tkm:List fo) (of:Nat×Nat→Option Nat) (hP:FB E Ms tkm of d) (n:Int) (w:World) (hd:u0 w b h d) (hn:¬(0≤n∧n<(tkm.length:Int))):
 Calls af 45 #[.pointer (some ⟨b,0,none⟩),.int .i64 n] w fun e w'=>e= .returned (.tuple #[.slice none 0 0,.int .i64 4])∧St (bs w) [] w':=by
 refine enter (vs:=[_,_]) (env:=[(0,_),(1,_)]) Aj rfl rfl rfl rfl ?_
 refine au (ax rfl<|ax rfl<|aq<|au (ag rfl<|aB rfl<|cd (xs:=[_]) (vs:=[_]) TA ⟨(.r rfl),trivial⟩ (fun w2 hw=>mI hP b h w2 (hd.b0 w2 hw)) fun y hy=>aB rfl<|aW (LO.as (.r rfl))<|aN ?_))
 have hyl:y.tk.length=tkm.length:=by have z:=congrArg dv hy;rw[ak]at z;exact z
 have hylen:=hP.len
 refine aj<|av<|au (ag rfl<|dK rfl<|ag rfl<|aK rfl (fun hg=>aS (.r rfl))<|aK rfl (fun hg=>aS (.r rfl))<|aK rfl (fun hg=>bE lR (.g hg rfl) rfl)<|aK rfl (fun hg=>iw (.g hg rfl) (.g hg rfl))<|ah (cD (.r rfl) (.r rfl) rfl rfl) rfl<|aq<|ay rfl (fun h19=>?_) (fun h19=>?_))
 ·
  refine au (ax rfl<|ax rfl<|aq<|be (bA (dh (vs:=[_,_]) rfl ⟨rfl,rfl,trivial⟩ (fun w hw=>?_))))
  exact⟨rfl,hw.nil⟩
 · (exfalso;omega)
def Q0 (h:jk) (r:Nat) (V:List (List Span)) (tkm:List fo) (n:Int):List (List Mv):=if 0≤n∧n<(tkm.length:Int) then xK h r V (tkm.getD n.toNat zT) ((tkm.getD n.toNat zT).ar.length-1) else[]
theorem Tx {h:jk} {r:Nat} {V:List (List Span)} {tkm:List fo} {k:Nat} (q:k<tkm.length):Q0 h r V tkm (k:Int)=xK h r V (tkm.getD k zT) ((tkm.getD k zT).ar.length-1):=by
 unfold Q0;rw[if_pos (by omega)];rfl
theorem TS {h:jk} {r:Nat} {V:List (List Span)} {tkm:List fo} {n:Int} (q:¬(0≤n∧n<(tkm.length:Int))):Q0 h r V tkm n=[]:=if_neg q
theorem Q7 (b:Nat) (h:jk) (s:oM) (V:List (List Span)) (r:Nat) (tkm:List fo) (hT:Y4 s tkm) (n:Int) (w:World) (hb:Al w b h s) (hW:XL w h s V) (hA:RJ h s V r):
  Calls af 44 #[.pointer (some ⟨b,0,none⟩),.int .i64 n] w fun e w'=>∃y:StY,y.rs.map dw=Q0 h r V tkm n∧e= .returned (.tuple #[.slice y.p y.rs.length y.c,.int .i64 (L4 tkm.length n)])∧St (bs w) [own 66 1 y.p y.c (y.rs.map lI),kZ 72 2 eR y.rs] w':=by
 have hl:s.tk.length=tkm.length:=by rw[←hT.m,ak]
 by_cases q:0≤n∧n<(tkm.length:Int)
 ·obtain⟨k,rfl⟩:∃k:Nat,n=k:=⟨n.toNat,by omega⟩
  obtain⟨t,ht⟩:=du (l:=s.tk) (n:=k) (by omega)
  have hI:=hT.I
  rw[←hT.m]at hI
  rw[Eb q,Tx (by omega)]
  have e:tkm.getD k zT=t.m:=by rw[←hT.m];exact MY ht
  rw[e]
  exact Ov b h s V r k t w hb hW hA hI ht
 ·refine(Rg b h s n w hb (by omega)).mono fun e w' ⟨h1,h2⟩=>⟨⟨[],none,0⟩,?_,?_,(h2.qi 72 2 eR).fX 66 1⟩
  ·rw[TS q];rfl
  ·rw[h1,Tv q];rfl
theorem Pv (b:Nat) (h:jk) (d:o8) (E:List (List gF)) (Ms:List Nat) (tkm:List fo) (of:Nat×Nat→Option Nat) (hP:FB E Ms tkm of d) (V:List (List Span)) (r:Nat) (hV:XI h V r d) (n:Int) (w:World) (hd:u0 w b h d):
  Calls af 45 #[.pointer (some ⟨b,0,none⟩),.int .i64 n] w fun e w'=>∃y:StY,y.rs.map dw=Q0 h r V tkm n∧e= .returned (.tuple #[.slice y.p y.rs.length y.c,.int .i64 (L4 tkm.length n)])∧St (bs w) [own 118 1 y.p y.c (y.rs.map lI),kZ 174 2 eR y.rs] w':=by
 by_cases q:0≤n∧n<(tkm.length:Int)
 ·obtain⟨k,rfl⟩:∃k:Nat,n=k:=⟨n.toNat,by omega⟩
  rw[Eb q,Tx (by omega)]
  exact Ki b h d E Ms tkm of hP V r k hV w hd (by omega)
 ·refine(Ox b h d E Ms tkm of hP n w hd q).mono fun e w' ⟨h1,h2⟩=>⟨⟨[],none,0⟩,?_,?_,(h2.qi 174 2 eR).fX 118 1⟩
  ·rw[TS q];rfl
  ·rw[h1,Tv q];rfl
theorem C39:fh af 39:=⟨_,Tryz.func39,by decide,rfl⟩
theorem YE:cP af 78 0 0:=⟨_,_,gD,rfl,rfl,0,by kernel_rfl⟩
theorem VH:cP af 107 0 0:=⟨_,_,gL,rfl,rfl,0,by kernel_rfl⟩
theorem Yz:cP af 78 1 1:=⟨_,_,gD,rfl,rfl,0,by kernel_rfl⟩
theorem Zw:cP af 78 2 2:=⟨_,_,gD,rfl,rfl,0,by kernel_rfl⟩
theorem V9:cP af 107 2 2:=⟨_,_,gL,rfl,rfl,0,by kernel_rfl⟩
theorem Yu:cP af 78 3 3:=⟨_,_,gD,rfl,rfl,0,by kernel_rfl⟩
theorem Y7:cP af 78 4 4:=⟨_,_,gD,rfl,rfl,0,by kernel_rfl⟩
theorem X7:cP af 78 5 5:=⟨_,_,gD,rfl,rfl,0,by kernel_rfl⟩
theorem Yn:cP af 78 6 6:=⟨_,_,gD,rfl,rfl,0,by kernel_rfl⟩
theorem Yy:cP af 78 7 7:=⟨_,_,gD,rfl,rfl,0,by kernel_rfl⟩
theorem Yo:cP af 78 8 8:=⟨_,_,gD,rfl,rfl,0,by kernel_rfl⟩
theorem C40:fh af 40:=⟨_,Tryz.func40,by decide,rfl⟩
theorem C41:fh af 41:=⟨_,Tryz.func41,by decide,rfl⟩
theorem C42:fh af 42:=⟨_,Tryz.func42,by decide,rfl⟩
theorem C43:fh af 43:=⟨_,Tryz.func43,by decide,rfl⟩
theorem C44:fh af 44:=⟨_,Ai,by decide,rfl⟩
theorem C45:fh af 45:=⟨_,Aj,by decide,rfl⟩
theorem O66:jJ af 66:=⟨⟨_,Tryz.underlying66,rfl⟩,by kernel_rfl⟩
theorem abY:jJ af 118:=⟨⟨_,Tryz.underlying118,rfl⟩,by kernel_rfl⟩
theorem C46:fh af 46:=⟨_,Tryz.func46,by decide,rfl⟩
theorem Vy (l m:List Mv) (h:l=m) (pa:Option Addr) (ca:Nat) (pb_:Option Addr) (cb:Nat) (w:World) (ha:RO 2 eR w pa l) (hb:RO 2 eR w pb_ m) (hn:l.length≤1000000):
  Calls af 46 #[.slice pa l.length ca,.slice pb_ m.length cb] w fun e w'=>e= .returned (.bool true)∧St (bs w) [] w':=by
 subst h;exact WT l pa ca pb_ cb w ha hb hn
theorem roM {β:Bs} {L:List dg} {w:World} (hw:St β L w) (i:Nat) {E:Nat} {rs:List (cG Mv)} (hi:L[i]? =some (kZ E 2 eR rs)) {x:cG Mv} (hx:x∈rs):RO 2 eR w x.p x.l:=
 gG (hw.inv i _ hi _ (bw (f:=fun x:cG Mv=>own E 2 x.p x.c (x.l.map eR)) hx))
theorem Rx {h:jk} {r:Nat} {V:List (List Span)} {tkm:List fo} {n:Int} (hr:r≤8):∀l,l∈Q0 h r V tkm n→l.length≤1000000:=fun l hl=>by
 unfold Q0 at hl
 split at hl
 ·obtain⟨k,_,rfl⟩:=List.mem_map.1 hl
  exact Sr hr
 ·cases hl
theorem Nt {h:jk} {r:Nat} {V:List (List Span)} {E:List (List gF)} {Ms:List Nat} {tkm:List fo} {of:Nat×Nat→Option Nat} {n:Int} (hI:iF E Ms tkm of) (hms:Ms.length≤1000):(Q0 h r V tkm n).length≤1000:=by
 unfold Q0
 split
 ·rename_i q
  obtain⟨t,ht⟩:=vc (tk:=tkm) (k:=n.toNat) (by omega)
  have h1:=hI.pos (al ht)
  rw[nv ht]
  unfold xK
  rw[ak,jO];omega
 ·exact aY _
theorem VI {l m:List cH} {tkm:List fo} (hl:l.map dG=tkm) (hm:m.map dG=tkm) {i:Nat} {x y:cH} (hx:l[i]? =some x) (hy:m[i]? =some y):x.bg=y.bg∧x.fr=y.fr∧x.ar=y.ar∧x.en=y.en∧x.pa=y.pa∧x.ch=y.ch:=by
 have h1:tkm[i]? =some x.m:=by rw[←hl,aI,hx];rfl
 have h2:tkm[i]? =some y.m:=by rw[←hm,aI,hy];rfl
 have e:x.m=y.m:=eI (h1.symm.trans h2)
 exact⟨congrArg fo.bg e,congrArg fo.fr e,congrArg fo.ar e,congrArg fo.en e,congrArg fo.pa e,congrArg fo.ch e⟩
theorem ZA {E:List (List gF)} {Ms:List Nat} {tkm:List fo} {of:Nat×Nat→Option Nat} (hI:iF E Ms tkm of) (hms:Ms.length≤1000) (hl:tkm.length≤30000) {t:fo} (ht:t∈tkm):t.ar.length≤1000000∧t.pa.length≤1000000∧t.ch.length≤1000000:=by
 obtain⟨k,hk,rfl⟩:=List.getElem_of_mem ht
 obtain⟨h1,h2,h3⟩:=hI.pos ht
 have h4:=hI.q.pa k _ (aw hk)
 have h5:=hI.q.ch k _ (aw hk)
 have h6:=yw hI k
 have h7:=x4 hI k
 unfold CO at h6;unfold B2 at h7
 rw[nv (aw hk)]at h6 h7
 omega
theorem Wx.of {E:List (List gF)} {Ms:List Nat} {tk:List cH} {of:Nat×Nat→Option Nat} (hI:iF E Ms (tk.map dG) of) (hms:Ms.length≤1000) (hl:tk.length≤30000):∀t,t∈tk→Wx t:=fun t ht=>by
 obtain⟨h1,h2,h3⟩:=ZA hI hms (by rw[ak];exact hl) (bw ht)
 exact⟨by have:t.ar.length≤1000000:=h1;omega,by have:t.pa.length≤1000000:=h2;omega,by have:t.ch.length≤1000000:=h3;omega⟩
theorem VU (b:Nat) (h:jk) (s:oM) (V:List (List Span)) (r:Nat) (tkm:List fo) (hT:Y4 s tkm) (hA:RJ h s V r) (bd:Nat) (d:o8) (hP:FB s.E s.Ms tkm s.of d) (hV:XI h V r d) (hK:∀j,2≤j→j≤7→s.kd j=cK s.E.flatten (j:Int)) (w:World) (hb:Al w b h s) (hW:XL w h s V) (hd:u0 w bd h d):
 Calls af 11 #[.pointer (some ⟨b,0,none⟩),.pointer (some ⟨bd,0,none⟩)] w fun e w'=>e= .returned (.bool true)∧St (bs w) [] w':=by
 have hl:s.tk.length=tkm.length:=by rw[←hT.m,ak]
 have hI2:=hT.I
 rw[←hT.m]at hI2
 have htb:=Wx.of hI2 hA.ms hT.len
 have hnm:=hA.n
 have hpl:=@R5 s.Ms
 have hTl:=hT.len
 have k2:s.kd 2=cK s.E.flatten 2:=hK 2 (by decide) (by decide)
 have k3:s.kd 3=cK s.E.flatten 3:=hK 3 (by decide) (by decide)
 have k4:s.kd 4=cK s.E.flatten 4:=hK 4 (by decide) (by decide)
 have k5:s.kd 5=cK s.E.flatten 5:=hK 5 (by decide) (by decide)
 have k6:s.kd 6=cK s.E.flatten 6:=hK 6 (by decide) (by decide)
 have k7:s.kd 7=cK s.E.flatten 7:=hK 7 (by decide) (by decide)
 refine enter (vs:=[_,_]) (env:=[(0,_),(1,_)]) Tryz.func11 rfl rfl rfl rfl ?_
 refine au (ax rfl<|aq<|au (ag rfl<|aB rfl<|cd (xs:=[_]) (vs:=[_]) C23 ⟨(.r rfl),trivial⟩ (fun w2 hw=>wm b h s.la ⟨s.pm,s.ys.length,s.cm⟩ s.pt s.ct s.kd s.tk w2 (hb.b0 w2 hw).c (hb.b0 w2 hw).tk (hb.b0 w2 hw).ti htb (by omega)) fun ya hya=>ag rfl<|aB rfl<|cd (xs:=[_]) (vs:=[_]) TA ⟨(.r rfl),trivial⟩ (fun w2 hw=>mI hP bd h w2 (hd.b0 w2 hw)) fun y hy=>aB rfl<|aW (LO.as (.r rfl))<|aB rfl<|aW (LO.as (.r rfl))<|aN ?_))
 have hyl:y.tk.length=tkm.length:=by have z:=congrArg dv hy;rw[ak]at z;exact z
 have hyal:ya.tk.length=tkm.length:=by have z:=congrArg dv (hya.trans hT.m);rw[ak]at z;exact z
 refine aj<|au (ag rfl<|ah (bK (xs:=[_]) (vs:=[_]) C24 ⟨(.r rfl),trivial⟩ (fun w2 hw=>Du b h s.la ⟨s.pm,s.ys.length,s.cm⟩ s.pt s.ct s.kd s.tk w2 (hb.b0 w2 hw).c s.of (hb.b0 w2 hw).of (WR s.Ms) KY (Vv hT.I))) rfl<|ag rfl<|ah (bK (xs:=[_]) (vs:=[_]) C39 ⟨(.r rfl),trivial⟩ (fun w2 hw=>NU bd h d s.E s.Ms tkm s.of hP w2 (hd.b0 w2 hw))) rfl<|aB rfl<|cJ (C:=#[_,_,_,_,_,_,_,_,_]) Z78 rfl fun b9=>aB rfl<|cJ (C:=#[_,_,_,_,_,_,_,_,_]) Wm rfl fun b10=>cu<|cq 1 (vs:=[_,_,_,_,_,_,_,_,_]) (C':=[_,_,_,_,_,_,_,_,_]) (L':=[_,_,_,_,_,_,_,_,_,_]) N78 rfl rfl rfl rfl rfl rfl rfl rfl<|cu<|cq 0 (vs:=[_,_,_,_,_,_,_,_,_]) (C':=[_,_,_,_,_,_,_,_,_]) (L':=[_,_,_,_,_,_,_,_,_,_]) WQ rfl rfl rfl rfl rfl rfl rfl rfl<|aq<|av<|au (ag rfl<|ah (bE tY (.r rfl) rfl) rfl<|ag rfl<|ah (bE lR (.r rfl) rfl) rfl<|VO.u rfl<|ag rfl<|aK rfl (fun hg=>aP (r:=0) YE (.r rfl) rfl)<|aK rfl (fun hg=>aC O3 (.g hg rfl) (aF 1 rfl ⟨_,rfl⟩))<|aK rfl (fun hg=>aP (r:=0) VH (.r rfl) rfl)<|aK rfl (fun hg=>aC O3 (.g hg rfl) (aF 0 rfl ⟨_,rfl⟩))<|aK rfl (fun hg=>gN (.g hg rfl) (.g hg rfl))<|ah (cD (.r rfl) (.r rfl) rfl rfl) rfl<|ag rfl<|aK rfl (fun hg=>aP (r:=1) Yz (.r rfl) rfl)<|aK rfl (fun hg=>aC O3 (.g hg rfl) (aF 1 rfl ⟨_,rfl⟩))<|aK rfl (fun hg=>aP (r:=1) F3 (.r rfl) rfl)<|aK rfl (fun hg=>aC O3 (.g hg rfl) (aF 0 rfl ⟨_,rfl⟩))<|aK rfl (fun hg=>gN (.g hg rfl) (.g hg rfl))<|ah (cD (.r rfl) (.r rfl) rfl rfl) rfl<|ag rfl<|aK rfl (fun hg=>aP (r:=2) Zw (.r rfl) rfl)<|aK rfl (fun hg=>aC O3 (.g hg rfl) (aF 1 rfl ⟨_,rfl⟩))<|aK rfl (fun hg=>aP (r:=2) V9 (.r rfl) rfl)<|aK rfl (fun hg=>aC O3 (.g hg rfl) (aF 0 rfl ⟨_,rfl⟩))<|aK rfl (fun hg=>gN (.g hg rfl) (.g hg rfl))<|ah (cD (.r rfl) (.r rfl) rfl rfl) rfl<|ag rfl<|aK rfl (fun hg=>aP (r:=3) Yu (.r rfl) rfl)<|aK rfl (fun hg=>aC O3 (.g hg rfl) (aF 1 rfl ⟨_,rfl⟩))<|aK rfl (fun hg=>aP (r:=3) F6 (.r rfl) rfl)<|aK rfl (fun hg=>aC O3 (.g hg rfl) (aF 0 rfl ⟨_,rfl⟩))<|aK rfl (fun hg=>gN (.g hg rfl) (.g hg rfl))<|ah (cD (.r rfl) (.r rfl) rfl rfl) rfl<|ag rfl<|aK rfl (fun hg=>aP (r:=4) Y7 (.r rfl) rfl)<|aK rfl (fun hg=>aC O3 (.g hg rfl) (aF 1 rfl ⟨_,rfl⟩))<|aK rfl (fun hg=>aP (r:=4) Ft (.r rfl) rfl)<|aK rfl (fun hg=>aC O3 (.g hg rfl) (aF 0 rfl ⟨_,rfl⟩))<|aK rfl (fun hg=>gN (.g hg rfl) (.g hg rfl))<|ah (cD (.r rfl) (.r rfl) rfl rfl) rfl<|ag rfl<|aK rfl (fun hg=>aP (r:=5) X7 (.r rfl) rfl)<|aK rfl (fun hg=>aC O3 (.g hg rfl) (aF 1 rfl ⟨_,rfl⟩))<|aK rfl (fun hg=>aP (r:=5) E5 (.r rfl) rfl)<|aK rfl (fun hg=>aC O3 (.g hg rfl) (aF 0 rfl ⟨_,rfl⟩))<|aK rfl (fun hg=>gN (.g hg rfl) (.g hg rfl))<|ah (cD (.r rfl) (.r rfl) rfl rfl) rfl<|ag rfl<|aK rfl (fun hg=>aP (r:=6) Yn (.r rfl) rfl)<|aK rfl (fun hg=>aC O3 (.g hg rfl) (aF 1 rfl ⟨_,rfl⟩))<|aK rfl (fun hg=>aP (r:=6) FQ (.r rfl) rfl)<|aK rfl (fun hg=>aC O3 (.g hg rfl) (aF 0 rfl ⟨_,rfl⟩))<|aK rfl (fun hg=>gN (.g hg rfl) (.g hg rfl))<|ah (cD (.r rfl) (.r rfl) rfl rfl) rfl<|ag rfl<|aK rfl (fun hg=>aP (r:=7) Yy (.r rfl) rfl)<|aK rfl (fun hg=>aC O3 (.g hg rfl) (aF 1 rfl ⟨_,rfl⟩))<|aK rfl (fun hg=>aP (r:=7) Fq (.r rfl) rfl)<|aK rfl (fun hg=>aC O3 (.g hg rfl) (aF 0 rfl ⟨_,rfl⟩))<|aK rfl (fun hg=>gN (.g hg rfl) (.g hg rfl))<|ah (cD (.r rfl) (.r rfl) rfl rfl) rfl<|ag rfl<|aK rfl (fun hg=>aP (r:=8) Yo (.r rfl) rfl)<|aK rfl (fun hg=>aC O3 (.g hg rfl) (aF 1 rfl ⟨_,rfl⟩))<|aK rfl (fun hg=>aP (r:=8) Fh (.r rfl) rfl)<|aK rfl (fun hg=>aC O3 (.g hg rfl) (aF 0 rfl ⟨_,rfl⟩))<|aK rfl (fun hg=>gN (.g hg rfl) (.g hg rfl))<|ah (cD (.r rfl) (.r rfl) rfl rfl) rfl<|aN ?_))
 refine aj<|ay rfl (fun h92=>?_) (fun h92=>?_)
 · (exfalso;(have hq:(⟨s.pm,s.ys.length,s.cm⟩:B1).nm=s.ys.length:=rfl;omega))
 ·
  refine aE (aj<|av<|au (ax rfl<|aq<|aD<|bS (α:=Nat) 0 (fun gx=>[(9,.int .i64 ((gx:Int)-1))]) [(0,_),(1,_),(5,_),(6,_)] (fun gx=>[]) (fun gx=>gx≤tkm.length+2) (fun gx=>tkm.length+2-gx) 0 (by exact aY _) (.c4 rfl rfl rfl rfl (.cons rfl .nil)) (fun _ h=>h) ?_))
  rintro k hk
  refine av<|au (ag rfl<|ag rfl<|ah (bE tY (.r rfl) rfl) rfl<|ah (LO.le (.r rfl) (.r rfl)) rfl<|aq<|ay rfl (fun h96=>?_) (fun h96=>?_))
  ·
   refine aE (aj<|av<|aD<|au (ag rfl<|ag rfl<|aB rfl<|cd (xs:=[_,_]) (vs:=[_,_]) C40 ⟨(.r rfl),(.r rfl),trivial⟩ (fun w2 hw=>Vj b h s tkm hT _ w2 (hb.b0 w2 hw)) fun y1 hy1=>aB rfl<|aW (aS (.r rfl))<|aB rfl<|aW (cU (.r rfl) rfl)<|aB rfl<|aW (cU (.r rfl) rfl)<|aB rfl<|aW (LO.as (.r rfl))<|aB rfl<|aW (LO.as (.r rfl))<|aq<|av ?_))
   refine aM (ag rfl<|ag rfl<|aB rfl<|cd (xs:=[_,_]) (vs:=[_,_]) C41 ⟨(.r rfl),(.r rfl),trivial⟩ (fun w2 hw=>RT bd h d s.E s.Ms tkm s.of hP _ w2 (hd.b0 w2 hw)) fun y2 hy2=>aB rfl<|aW (aS (.r rfl))<|aB rfl<|aW (cU (.r rfl) rfl)<|aB rfl<|aW (cU (.r rfl) rfl)<|aB rfl<|aW (LO.as (.r rfl))<|aB rfl<|aW (LO.as (.r rfl))<|aq<|av<|au (ag rfl<|ag rfl<|ah (bK (xs:=[_,_]) (vs:=[_,_]) Qk ⟨(.r rfl),(.r rfl),trivial⟩ (fun w2 hw=>nG y1.l y2.l y1.p y1.c y2.p y2.c w2 (fK hw 1 rfl) (fK hw 0 rfl) (by have:=hy1.len hT.I;omega))) rfl<|ah (LO.not (.r rfl)) rfl<|ag rfl<|aK rfl (fun hg=>aS (.r rfl))<|aK rfl (fun hg=>aS (.r rfl))<|aK rfl (fun hg=>gN (.g hg rfl) (.g hg rfl))<|ah (cD (.r rfl) (.r rfl) rfl rfl) rfl<|aq<|ay rfl (fun h119=>?_) (fun h119=>?_)))
   · (exfalso;(have e12:=hy1.eq hy2;simp [e12]at h119))
   ·
    refine aE (aj<|au (ag rfl<|ag rfl<|aB rfl<|cd (xs:=[_,_]) (vs:=[_,_]) C42 ⟨(.r rfl),(.r rfl),trivial⟩ (fun w2 hw=>Pc b h s tkm hT _ w2 (hb.b0 w2 hw)) fun y3 hy3=>aB rfl<|aW (aS (.r rfl))<|aB rfl<|aW (cU (.r rfl) rfl)<|aB rfl<|aW (cU (.r rfl) rfl)<|aB rfl<|aW (LO.as (.r rfl))<|aB rfl<|aW (LO.as (.r rfl))<|aq<|au (ag rfl<|ag rfl<|aB rfl<|cd (xs:=[_,_]) (vs:=[_,_]) C43 ⟨(.r rfl),(.r rfl),trivial⟩ (fun w2 hw=>KG bd h d s.E s.Ms tkm s.of hP _ w2 (hd.b0 w2 hw)) fun y4 hy4=>aB rfl<|aW (aS (.r rfl))<|aB rfl<|aW (cU (.r rfl) rfl)<|aB rfl<|aW (cU (.r rfl) rfl)<|aB rfl<|aW (LO.as (.r rfl))<|aB rfl<|aW (LO.as (.r rfl))<|aq ?_)))
    refine av<|au (ag rfl<|ag rfl<|ah (bK (xs:=[_,_]) (vs:=[_,_]) Qk ⟨(.r rfl),(.r rfl),trivial⟩ (fun w2 hw=>nG y3.l y4.l y3.p y3.c y4.p y4.c w2 (fK hw 1 rfl) (fK hw 0 rfl) (by have:=hy3.len hT.I;omega))) rfl<|ah (LO.not (.r rfl)) rfl<|ag rfl<|aK rfl (fun hg=>aS (.r rfl))<|aK rfl (fun hg=>aS (.r rfl))<|aK rfl (fun hg=>gN (.g hg rfl) (.g hg rfl))<|ah (cD (.r rfl) (.r rfl) rfl rfl) rfl<|aq<|ay rfl (fun h140=>?_) (fun h140=>?_))
    · (exfalso;(have e34:=hy3.eq hy4;simp [e34]at h140))
    ·
     refine aE (aj<|au (ag rfl<|ag rfl<|aB rfl<|cd (xs:=[_,_]) (vs:=[_,_]) C44 ⟨(.r rfl),(.r rfl),trivial⟩ (fun w2 hw=>Q7 b h s V r tkm hT _ w2 (hb.b0 w2 hw) (hW.b0 w2 hw) hA) fun y5 hy5=>aB rfl<|aW (aS (.r rfl))<|aB rfl<|aW (cU (.r rfl) rfl)<|aB rfl<|aW (cU (.r rfl) rfl)<|aB rfl<|aW (LO.as (.r rfl))<|aB rfl<|aW (LO.as (.r rfl))<|aq<|au (ag rfl<|ag rfl<|aB rfl<|cd (xs:=[_,_]) (vs:=[_,_]) C45 ⟨(.r rfl),(.r rfl),trivial⟩ (fun w2 hw=>Pv bd h d s.E s.Ms tkm s.of hP V r hV _ w2 (hd.b0 w2 hw)) fun y6 hy6=>aB rfl<|aW (aS (.r rfl))<|aB rfl<|aW (cU (.r rfl) rfl)<|aB rfl<|aW (cU (.r rfl) rfl)<|aB rfl<|aW (LO.as (.r rfl))<|aB rfl<|aW (LO.as (.r rfl))<|aN ?_)))
     have h56:y5.rs.map dw=y6.rs.map dw:=hy5.trans hy6.symm
     have h56l:y5.rs.length=y6.rs.length:=by have z:=congrArg dv h56;rw[ak,ak]at z;exact z
     have h5n:y5.rs.length≤1000:=by have z:=congrArg dv hy5;rw[ak]at z;rw[z];exact Nt hT.I hA.ms
     refine aj<|av<|au (ag rfl<|ah (bE Ky (.r rfl) rfl) rfl<|ag rfl<|ah (bE OT (.r rfl) rfl) rfl<|VO.u rfl<|ag rfl<|aK rfl (fun hg=>aS (.r rfl))<|aK rfl (fun hg=>aS (.r rfl))<|aK rfl (fun hg=>gN (.g hg rfl) (.g hg rfl))<|ah (cD (.r rfl) (.r rfl) rfl rfl) rfl<|aq<|ay rfl (fun h162=>?_) (fun h162=>?_))
     · (exfalso;omega)
     ·
      refine aE (aj<|av<|au (ax rfl<|aq<|aD<|bS (α:=Nat) 0 (fun gx=>[(16,.int .i64 (gx:Nat))]) [(0,_),(1,_),(5,_),(6,_),(9,_),(14,_),(15,_)] (fun gx=>[]) (fun gx=>gx≤y5.rs.length) (fun gx=>y5.rs.length-gx) 0 (by exact aY _) (.c4 rfl rfl rfl rfl (.c4 rfl rfl rfl rfl .nil)) (fun _ h=>h) ?_))
      rintro j hj
      refine av<|au (ag rfl<|ag rfl<|ah (bE Ky (.r rfl) rfl) rfl<|dK rfl<|aq<|ay rfl (fun h166=>?_) (fun h166=>?_))
      ·
       obtain⟨x5,h5x⟩:=du (l:=y5.rs) (n:=j) (by omega)
       obtain⟨x6,h6x⟩:=du (l:=y6.rs) (n:=j) (by omega)
       have e56:x5.l=x6.l:=by have z:=congrArg (fun l=>l[j]?) h56;rw[aI,aI,h5x,h6x]at z;exact eI z
       have hl5:x5.l.length≤1000000:=Rx hA.r8 x5.l (by rw[←hy5];exact bw (al h5x))
       refine aE (aj<|av<|aD<|av<|gj mixed (eT rfl<|eT rfl<|bl (cy Ky N66 (fun _ hw=>(bL hw 2 rfl).some (by rw[ak])) (.r rfl) (.r rfl) rfl (by omega)) rfl<|bl (aC O66 (.r rfl) (fun w hw=>aA (off:=0) (cO hw 2 rfl h5x) ⟨_,rfl⟩)) rfl<|eT rfl<|eT rfl<|bl (cy OT Zj (fun _ hw=>(bL hw 0 rfl).some (by rw[ak])) (.r rfl) (.r rfl) rfl (by omega)) rfl<|bl (aC abY (.r rfl) (fun w hw=>aA (off:=0) (cO hw 0 rfl h6x) ⟨_,rfl⟩)) rfl<|bl (bK (xs:=[_,_]) (vs:=[_,_]) C46 ⟨(.r rfl),(.r rfl),trivial⟩ (fun w2 hw=>Vy x5.l x6.l e56 x5.p x5.c x6.p x6.c w2 (roM hw 3 rfl (al h5x)) (roM hw 1 rfl (al h6x)) hl5)) rfl<|bl (LO.not (.r rfl)) rfl<|LL.nil) (by kernel_rfl)<|aj<|ay rfl (fun h178=>?_) (fun h178=>?_))
       · (exfalso;exact h178 rfl)
       ·
        refine aE (bB (aj<|aM (ag rfl<|da rfl rfl (by omega) (by omega) rfl<|ax rfl<|aN<|aZ fun a w ha hw=>⟨j+1,(by omega),(by omega),ha.sub (.c4 rfl rfl rfl rfl (.c4 rfl rfl rfl rfl .nil)),hw⟩)))
      ·
       refine bU (aH (aH (cB (aj<|av<|au (ag rfl<|dK rfl<|ag rfl<|aK rfl (fun hg=>aS (.r rfl))<|aK rfl (fun hg=>aS (.r rfl))<|aK rfl (fun hg=>bE tY (.g hg rfl) rfl)<|aK rfl (fun hg=>LO.eq (.g hg rfl) (.g hg rfl))<|ah (cD (.r rfl) (.r rfl) rfl rfl) rfl<|aq<|ay rfl (fun h186=>?_) (fun h186=>?_))))))
       ·
        refine bU (aH (cB (aj<|aM (ag rfl<|da rfl rfl (by omega) (by omega) rfl<|ax rfl<|aN<|aZ fun a w ha hw=>⟨k+1,(by omega),(by omega),ha.sub (.cons (congrArg (fun z=>some (Value.int .i64 z)) (by push_cast;omega)) (.c4 rfl rfl rfl rfl .nil)),hw.gY [8,9,10,11,12,13,14,15,16,17] rfl⟩))))
       ·
        obtain⟨nn,hnn⟩:∃n:Nat,k=n+1:=⟨k-1,by omega⟩
        have hnl:nn<tkm.length:=by omega
        obtain⟨xa,hxa⟩:=du (l:=ya.tk) (n:=nn) (by omega)
        obtain⟨xk,hxk⟩:=du (l:=y.tk) (n:=nn) (by omega)
        have hxam:=al hxa
        have hxkm:=al hxk
        obtain⟨e1,e2,e3,e4,e5,e6⟩:=VI (hya.trans hT.m) hy hxa hxk
        obtain⟨hbar,hbpa,hbch⟩:=ZA hT.I hA.ms (by omega) (t:=xa.m) (by rw[←hya.trans hT.m];exact bw hxam)
        refine aE (aj<|av<|gj mixed (eT rfl<|eT rfl<|bl (cy tY vU (fun _ hw=>(bL hw 14 rfl).some (by rw[ak])) (.r rfl) (.r rfl) (j:=nn) (by omega) (by omega)) rfl<|bl (aP TV (.r rfl) rfl) rfl<|bl (aC O3 (.r rfl) (fun w hw=>aA (off:=0) (cO hw 14 rfl hxa) ⟨_,rfl⟩)) rfl<|eT rfl<|eT rfl<|bl (cy lR ov (fun _ hw=>(bL hw 10 rfl).some (by rw[ak])) (.r rfl) (.r rfl) (j:=nn) (by omega) (by omega)) rfl<|bl (aP MN (.r rfl) rfl) rfl<|bl (aC O3 (.r rfl) (fun w hw=>aA (off:=0) (cO hw 10 rfl hxk) ⟨_,rfl⟩)) rfl<|bl (gN (.r rfl) (.r rfl)) rfl<|eT rfl<|cW rfl (fun hg=>aS (.r rfl))<|cW rfl (fun hg=>aS (.r rfl))<|cW rfl (fun hg=>cy tY vU (fun _ hw=>(bL hw 14 rfl).some (by rw[ak])) (.g hg rfl) (.g hg rfl) (j:=nn) (by omega) (by omega))<|cW rfl (fun hg=>aP M7 (.g hg rfl) rfl)<|cW rfl (fun hg=>aC O3 (.g hg rfl) (fun w hw=>aA (off:=1) (cO hw 14 rfl hxa) ⟨_,rfl⟩))<|cW rfl (fun hg=>aS (.r rfl))<|cW rfl (fun hg=>aS (.r rfl))<|cW rfl (fun hg=>cy lR ov (fun _ hw=>(bL hw 10 rfl).some (by rw[ak])) (.g hg rfl) (.g hg rfl) (j:=nn) (by omega) (by omega))<|cW rfl (fun hg=>aP sr (.g hg rfl) rfl)<|cW rfl (fun hg=>aC O3 (.g hg rfl) (fun w hw=>aA (off:=1) (cO hw 10 rfl hxk) ⟨_,rfl⟩))<|cW rfl (fun hg=>gN (.g hg rfl) (.g hg rfl))<|bl (cD (.r rfl) (.r rfl) rfl rfl) rfl<|eT rfl<|cW rfl (fun hg=>aS (.r rfl))<|cW rfl (fun hg=>aS (.r rfl))<|cW rfl (fun hg=>cy tY vU (fun _ hw=>(bL hw 14 rfl).some (by rw[ak])) (.g hg rfl) (.g hg rfl) (j:=nn) (by omega) (by omega))<|cW rfl (fun hg=>aP Ou (.g hg rfl) rfl)<|cW rfl (fun hg=>aC O3 (.g hg rfl) (fun w hw=>aA (off:=3) (cO hw 14 rfl hxa) ⟨_,rfl⟩))<|cW rfl (fun hg=>aS (.r rfl))<|cW rfl (fun hg=>aS (.r rfl))<|cW rfl (fun hg=>cy lR ov (fun _ hw=>(bL hw 10 rfl).some (by rw[ak])) (.g hg rfl) (.g hg rfl) (j:=nn) (by omega) (by omega))<|cW rfl (fun hg=>aP E4 (.g hg rfl) rfl)<|cW rfl (fun hg=>aC O3 (.g hg rfl) (fun w hw=>aA (off:=3) (cO hw 10 rfl hxk) ⟨_,rfl⟩))<|cW rfl (fun hg=>gN (.g hg rfl) (.g hg rfl))<|bl (cD (.r rfl) (.r rfl) rfl rfl) rfl<|eT rfl<|cW rfl (fun hg=>aS (.r rfl))<|cW rfl (fun hg=>aS (.r rfl))<|cW rfl (fun hg=>cy tY vU (fun _ hw=>(bL hw 14 rfl).some (by rw[ak])) (.g hg rfl) (.g hg rfl) (j:=nn) (by omega) (by omega))<|cW rfl (fun hg=>aP vf (.g hg rfl) rfl)<|cW rfl (fun hg=>aC iL (.g hg rfl) (fun w hw=>aA (off:=2) (cO hw 14 rfl hxa) ⟨_,rfl⟩))<|cW rfl (fun hg=>aS (.r rfl))<|cW rfl (fun hg=>aS (.r rfl))<|cW rfl (fun hg=>cy lR ov (fun _ hw=>(bL hw 10 rfl).some (by rw[ak])) (.g hg rfl) (.g hg rfl) (j:=nn) (by omega) (by omega))<|cW rfl (fun hg=>aP mN (.g hg rfl) rfl)<|cW rfl (fun hg=>aC iL (.g hg rfl) (fun w hw=>aA (off:=2) (cO hw 10 rfl hxk) ⟨_,rfl⟩))<|cW rfl (fun hg=>bK (xs:=[_,_]) (vs:=[_,_]) Qk ⟨(.g hg rfl),(.g hg rfl),trivial⟩ (fun w2 hw=>nG xa.ar xk.ar xa.ap xa.ac xk.ap xk.ac w2 (VP hw 15 rfl hxam) (VP hw 11 rfl hxkm) hbar))<|cW rfl (fun hg=>LO.not (.g hg rfl))<|bl (cD (.r rfl) (.r rfl) rfl rfl) rfl<|eT rfl<|cW rfl (fun hg=>aS (.r rfl))<|cW rfl (fun hg=>aS (.r rfl))<|cW rfl (fun hg=>cy tY vU (fun _ hw=>(bL hw 14 rfl).some (by rw[ak])) (.g hg rfl) (.g hg rfl) (j:=nn) (by omega) (by omega))<|cW rfl (fun hg=>aP IU (.g hg rfl) rfl)<|cW rfl (fun hg=>aC iL (.g hg rfl) (fun w hw=>aA (off:=4) (cO hw 14 rfl hxa) ⟨_,rfl⟩))<|cW rfl (fun hg=>aS (.r rfl))<|cW rfl (fun hg=>aS (.r rfl))<|cW rfl (fun hg=>cy lR ov (fun _ hw=>(bL hw 10 rfl).some (by rw[ak])) (.g hg rfl) (.g hg rfl) (j:=nn) (by omega) (by omega))<|cW rfl (fun hg=>aP Ct (.g hg rfl) rfl)<|cW rfl (fun hg=>aC iL (.g hg rfl) (fun w hw=>aA (off:=4) (cO hw 10 rfl hxk) ⟨_,rfl⟩))<|cW rfl (fun hg=>bK (xs:=[_,_]) (vs:=[_,_]) Qk ⟨(.g hg rfl),(.g hg rfl),trivial⟩ (fun w2 hw=>nG xa.pa xk.pa xa.pp xa.pc xk.pp xk.pc w2 (Zo hw 16 rfl hxam) (Zo hw 12 rfl hxkm) hbpa))<|cW rfl (fun hg=>LO.not (.g hg rfl))<|bl (cD (.r rfl) (.r rfl) rfl rfl) rfl<|eT rfl<|cW rfl (fun hg=>aS (.r rfl))<|cW rfl (fun hg=>aS (.r rfl))<|cW rfl (fun hg=>cy tY vU (fun _ hw=>(bL hw 14 rfl).some (by rw[ak])) (.g hg rfl) (.g hg rfl) (j:=nn) (by omega) (by omega))<|cW rfl (fun hg=>aP AQ (.g hg rfl) rfl)<|cW rfl (fun hg=>aC iL (.g hg rfl) (fun w hw=>aA (off:=5) (cO hw 14 rfl hxa) ⟨_,rfl⟩))<|cW rfl (fun hg=>aS (.r rfl))<|cW rfl (fun hg=>aS (.r rfl))<|cW rfl (fun hg=>cy lR ov (fun _ hw=>(bL hw 10 rfl).some (by rw[ak])) (.g hg rfl) (.g hg rfl) (j:=nn) (by omega) (by omega))<|cW rfl (fun hg=>aP zB (.g hg rfl) rfl)<|cW rfl (fun hg=>aC iL (.g hg rfl) (fun w hw=>aA (off:=5) (cO hw 10 rfl hxk) ⟨_,rfl⟩))<|cW rfl (fun hg=>bK (xs:=[_,_]) (vs:=[_,_]) Qk ⟨(.g hg rfl),(.g hg rfl),trivial⟩ (fun w2 hw=>nG xa.ch xk.ch xa.cp xa.cc xk.cp xk.cc w2 (ZB hw 17 rfl hxam) (ZB hw 13 rfl hxkm) hbch))<|cW rfl (fun hg=>LO.not (.g hg rfl))<|bl (cD (.r rfl) (.r rfl) rfl rfl) rfl<|LL.nil) (by kernel_rfl)<|aj<|ay rfl (fun h265=>?_) (fun h265=>?_))
        · (exfalso;(simp [e1,e2,e3,e4,e5,e6]at h265))
        ·
         refine aE (bB (aj<|aM (ag rfl<|da rfl rfl (by omega) (by omega) rfl<|ax rfl<|aN<|aZ fun a w ha hw=>⟨k+1,(by omega),(by omega),ha.sub (.cons (congrArg (fun z=>some (Value.int .i64 z)) (by push_cast;omega)) (.c4 rfl rfl rfl rfl .nil)),hw.gY [8,9,10,11,12,13,14,15,16,17] rfl⟩)))
  ·
   refine bU (aH (aH (cB (aj<|au (ax rfl<|aq<|be (VE.s rfl rfl (fun w hw=>?_)))))))
   exact⟨rfl,hw.nil⟩
theorem C35:fh af 35:=⟨_,Tryz.func35,by decide,rfl⟩
theorem Ze {l:List Int} {n:Nat} (h:n<l.length):l[n]? =some (l.getD n 0):=by rw[List.getD_eq_getElem?_getD,aw h];rfl
def ug (b:Nat) (h:jk) (d:o8):List dg:=[gq b (.cells (YJ h d).toArray 89),own 3 1 d.tp d.tc (d.ti.map iC),own 101 1 d.ap d.ac (d.ds.map dsC),own 42 1 d.ep d.ec (d.es.map esC)]
def qv.DR (y:qv):List dg:=[own 104 3 y.p y.c (y.l.map db.cells),bV (y.l.map db.fR),bV (y.l.map db.tR)]
theorem Pt {w:World} {y:qv} (k:∀r,r∈y.DR→r.inv w):EP w y.p y.l where
 ev:=gh (k (own 104 3 y.p y.c (y.l.map db.cells)) (by unfold qv.DR;simp))
 f:=fun e he=>gh ((k (bV (y.l.map db.fR)) (by unfold qv.DR;simp)).1 (db.fR e) (bw he))
 t:=fun e he=>gh ((k (bV (y.l.map db.tR)) (by unfold qv.DR;simp)).1 (db.tR e) (bw he))
theorem KC (g:eo) (ya yb:uE) (v1 v2:List Span) (lv rc:Int) (r:Nat) (hrc:rc=(r:Int)) (w:World) (hg:dH g) (h1:Ax (gW g) (gH g) v1 lv ya) (h2:Ax (gW g) (gH g) v2 lv yb) (ha:AL w ya.p ya.l) (hb:AL w yb.p yb.l):
  Calls af 37 #[lL g,.slice ya.p ya.l.length ya.c,.slice yb.p yb.l.length yb.c,.int .i64 rc] w fun e w'=>∃y:qv,Oo (gW g) (gH g) r (mH (gW g) (gH g) (et v1 lv)) (mH (gW g) (gH g) (et v2 lv)) ya.l.length yb.l.length (y.l.map dD)∧e= .returned (.slice y.p y.l.length y.c)∧St (bs w) y.DR w':=by
 subst hrc
 have har:=iM hg
 obtain⟨ld,hld⟩:=Ym (Yc (gW g) (gH g) r (mH (gW g) (gH g) (et v1 lv)) (mH (gW g) (gH g) (et v2 lv)))
 refine(KM g ya.l yb.l ya.p ya.c yb.p yb.c r (tT (gW g) r ya yb) _ ld w hg ha hb (Jr h1 har) (Jr h2 har) (Jj h1) (Jj h2) (fun i j a b ha hb=>Pw ha hb) (WZ h1 h2 hld)).mono fun e w' ⟨y,h3,h4,h5⟩=>⟨y,⟨ld,hld,h3⟩,h4,h5⟩
theorem WV (b:Nat) (h:jk) (d:o8) (la:Int) (hL:0<d.ti.length→d.ti.getD (d.ti.length-1) 0=la) (hL0:d.ti.length=0→la= -1) (hN:d.ti.length≤6) (time:Int) (g:eo) (vs:List Span) (pv:Option Addr) (cv:Nat) (w:World) (hd:u0 w b h d) (hv:fL w pv vs) (hne:kH h la d.ti.length time g vs≠0):
 Calls af 9 #[.pointer (some ⟨b,0,none⟩),.int .i64 time,im g pv vs.length cv] w fun e w'=>e= .returned (.tuple #[.slice none 0 0,.int .i64 (kH h la d.ti.length time g vs)])∧St (bs w) [] w':=by
 refine enter (vs:=[_,_,_]) (env:=[(0,_),(1,_),(2,_)]) Tryz.func9 rfl rfl rfl rfl ?_
 refine au (aB rfl<|c8 (C:=#[_,_,_,_,_,_]) rfl rfl fun b1=>ax rfl<|ax rfl<|aq<|au (ah (aX (vs:=[_,_,_,_,_,_]) oy (.r rfl) (aF 0 rfl ⟨_,rfl⟩) rfl) rfl<|ah (bK (xs:=[_]) (vs:=[_]) C35 ⟨(.r rfl),trivial⟩ (fun w2 hw=>tW ⟨g,vs⟩ pv cv w2 (hv.b0 w2 hw))) rfl<|ax rfl<|aq<|av ?_))
 refine au (ag rfl<|VO.u rfl<|aq<|ay rfl (fun h15=>?_) (fun h15=>?_))
 ·
  refine au (ag rfl<|ax rfl<|ax rfl<|aq<|be (bA (dh (vs:=[_,_]) rfl ⟨rfl,rfl,trivial⟩ (fun w hw=>?_))))
  refine⟨?_,hw.nil⟩
  refine congrArg (fun z=>bT (.tuple #[.slice none 0 0,.int .i64 z])) ?_
  first |exact Qo h15|exact Qq h15 h22|exact Qs h15 h22 h30|exact Qm h15 h22 h30 h37a|(exfalso;omega)
 ·
  refine aE (aj<|au (ag rfl<|ah (cV (.r rfl)) rfl<|bO (r:=7) uM rfl<|ah (aC iL (.r rfl) (bj (bI (off:=7) hd.c ⟨_,rfl⟩))) rfl<|ah (bE fk (.r rfl) rfl) rfl<|ax rfl<|aq<|av<|aD<|av ?_))
  refine gj mixed (bl (aP (r:=0) lO (.r rfl) rfl) rfl<|bl (aX (vs:=[_,_,_,_,_]) qw (.r rfl) (aF 0 rfl ⟨_,rfl⟩) rfl) rfl<|eT rfl<|bl (cV (.r rfl)) rfl<|bl (aP (r:=0) Jc (.r rfl) rfl) rfl<|bl (aX (vs:=[_,_,_,_,_]) qw (.r rfl) (bj (bI (off:=0) hd.c ⟨_,rfl⟩)) rfl) rfl<|bl (LO.Qr («as» :=[_,_,_,_,_]) (bs:=[_,_,_,_,_]) J5 (.r rfl) (.r rfl) rfl rfl) rfl<|bl (LO.as (.r rfl)) rfl<|LL.nil) (by kernel_rfl)<|aj<|ay rfl (fun h22=>?_) (fun h22=>?_)
  ·
   refine au (ax rfl<|ax rfl<|aq<|be (VE.mq (bA (dh (vs:=[_,_]) rfl ⟨rfl,rfl,trivial⟩ (fun w hw=>?_)))))
   refine⟨?_,hw.nil⟩
   refine congrArg (fun z=>bT (.tuple #[.slice none 0 0,.int .i64 z])) ?_
   first |exact Qo h15|exact Qq h15 h22|exact Qs h15 h22 h30|exact Qm h15 h22 h30 h37a|(exfalso;omega)
  ·
   refine au (ag rfl<|dK rfl<|ag rfl<|aK rfl (fun hg=>aS (.r rfl))<|aK rfl (fun hg=>gu (.g hg rfl) (.r rfl))<|ah (cD (.r rfl) (.r rfl) rfl rfl) rfl<|ax rfl<|aq<|ay rfl (fun h30=>?_) (fun h30=>?_))
   ·
    refine au (ax rfl<|ax rfl<|aq<|be (VE.mq (bA (dh (vs:=[_,_]) rfl ⟨rfl,rfl,trivial⟩ (fun w hw=>?_)))))
    refine⟨?_,hw.nil⟩
    refine congrArg (fun z=>bT (.tuple #[.slice none 0 0,.int .i64 z])) ?_
    first |exact Qo h15|exact Qq h15 h22|exact Qs h15 h22 h30|exact Qm h15 h22 h30 h37a|(exfalso;omega)
   ·
    refine au (ag rfl<|ah (gu (.r rfl) (.r rfl)) rfl<|ag rfl<|bh rfl (fun hg=>aS (.r rfl))<|bh rfl (fun hg=>aS (.r rfl))<|bh rfl (fun hg=>cV (.g hg rfl))<|bh rfl (fun hg=>aP (r:=7) uM (.g hg rfl) rfl)<|bh rfl (fun hg=>aC iL (.g hg rfl) (bj (bI (off:=7) hd.c ⟨_,rfl⟩)))<|bh rfl (fun hg=>aS (.r rfl))<|bh rfl (fun hg=>gz (.g hg rfl) (.r rfl) (wi (by omega) (by omega)))<|bh rfl (fun hg=>bM fk N3 hd.ti.sm (.g hg rfl) (.g hg rfl) (j:=d.ti.length-1) (by simp at hg;omega) (by simp at hg;omega))<|bh rfl (fun hg=>aC O3 (.g hg rfl) (fun w hw=>aA (off:=0) ((fun w3 h3=>cY (hd.b0 w3 h3).ti (Ze (n:=d.ti.length-1) (by simp at hg;omega))) w hw) ⟨_,rfl⟩))<|bh rfl (fun hg=>LO.le (.g hg rfl) (.g hg rfl))<|ah (LO.qc (.r rfl) rfl rfl (.r rfl)) rfl<|ax rfl<|aq<|ay rfl (fun h37=>?_) (fun h37=>?_))
    ·
     have h37a:time≤la:=by have z:=hL (by omega);omega
     refine au (ax rfl<|ax rfl<|aq<|be (VE.mq (bA (dh (vs:=[_,_]) rfl ⟨rfl,rfl,trivial⟩ (fun w hw=>?_)))))
     refine⟨?_,hw.nil⟩
     refine congrArg (fun z=>bT (.tuple #[.slice none 0 0,.int .i64 z])) ?_
     first |exact Qo h15|exact Qq h15 h22|exact Qs h15 h22 h30|exact Qm h15 h22 h30 h37a|(exfalso;omega)
    ·
     have h37b:¬time≤la:=fun z=>by rcases Nat.eq_zero_or_pos d.ti.length with q|q;have:=hL0 q;omega;exact h37 ⟨by omega,by rw[hL q];exact z⟩
     refine au (ag rfl<|ah (iw (.r rfl) (.r rfl)) rfl<|ax rfl<|aq<|ay rfl (fun h52=>?_) (fun h52=>?_))
     ·
      refine au (ax rfl<|ax rfl<|aq<|be (VE.mq (bA (dh (vs:=[_,_]) rfl ⟨rfl,rfl,trivial⟩ (fun w hw=>?_)))))
      refine⟨?_,hw.nil⟩
      refine congrArg (fun z=>bT (.tuple #[.slice none 0 0,.int .i64 z])) ?_
      first |exact Qo h15|exact Qq h15 h22|exact Qs h15 h22 h30|exact Qm h15 h22 h30 h37a|(exfalso;omega)
     · (exfalso;exact hne (ad6 h15 h22 h30 h37b (by omega)))
theorem Yq:cP af 89 1 5:=⟨_,_,kY,rfl,rfl,0,by kernel_rfl⟩
theorem C36:fh af 36:=⟨_,Tryz.func36,by decide,rfl⟩
theorem C37:fh af 37:=⟨_,Tryz.func37,by decide,rfl⟩
theorem YB:dr af 101 (.slice none 0 0):=by unfold dr;kernel_rfl
theorem Zc:j6 af 101 1 24 (.slice none 0 0):=⟨by kernel_rfl,by kernel_rfl,by unfold dr;kernel_rfl,rfl,by decide⟩
theorem N86:(af.info? 86).map (·.size)=some 1:=by kernel_rfl
theorem Z42:dr af 42 (.slice none 0 0):=by unfold dr;kernel_rfl
theorem I42:j6 af 42 1 24 (.slice none 0 0):=⟨by kernel_rfl,by kernel_rfl,by unfold dr;kernel_rfl,rfl,by decide⟩
theorem N87:(af.info? 87).map (·.size)=some 1:=by kernel_rfl
structure DnY where
 d:o8
 yN:uE
 ev:qv
 X:List dg
structure DnP (h:jk) (V:List (List Span)) (vs:List Span) (r:Nat) (time:Int) (d:o8) (y:DnY):Prop where
 ar:Ax (gW h.g) (gH h.g) vs h.lv y.yN
 ti:y.d.ti=d.ti++[time]
 ds:y.d.ds=d.ds++[y.yN]
 es:y.d.es=d.es++[y.ev]
 YH:d.ti.length=0→y.ev.l=[]
 ev:∀n yP,d.ti.length=n+1→d.ds[n]? =some yP→Oo (gW h.g) (gH h.g) r (mH (gW h.g) (gH h.g) (et (V.getD n []) h.lv)) (mH (gW h.g) (gH h.g) (et vs h.lv)) yP.l.length y.yN.l.length (y.ev.l.map dD)
 rd:∀w:World,(∀r,r∈y.X→r.inv w)→EP w y.ev.p y.ev.l
theorem yS {β:Bs} {R A B:List dg} {w:World} (h:St β (R++A++B) w):St β (R++[bV A,bV B]) w:=by
 have h1:St β (B++(R++A)) w:=h.perm (ji)
 have h2:=fJ (Rs:=B) (L:=R++A) h1
 have h3:St β (A++(R++[bV B])) w:=h2.perm (by
  have p1:(bV B::(R++A)).Perm ((R++A)++[bV B]):=(ji (l₁:=[bV B]) (l₂:=R++A))
  have p2:((R++A)++[bV B]).Perm (A++(R++[bV B])):=by
   rw[←dk]
   exact List.Perm.append_right _ ji
  exact p1.trans p2)
 have h4:=fJ (Rs:=A) (L:=R++[bV B]) h3
 exact h4.perm (by
  have p1:(bV A::(R++[bV B])).Perm (R++(bV A::[bV B])):=iu.symm
  exact p1)
theorem Ru (b:Nat) (h:jk) (d:o8) (la:Int) (hL:0<d.ti.length→d.ti.getD (d.ti.length-1) 0=la) (hL0:d.ti.length=0→la= -1) (hN:d.ti.length≤6) (V:List (List Span)) (r:Nat) (time:Int) (vs:List Span) (pv:Option Addr) (cv:Nat) (w:World) (hh:Has w (ug b h d)) (hvv:∀{L:List dg} {v:World},St ⟨w,mG (ug b h d)⟩ L v→fL v pv vs) (hal:∀{L:List dg} {v:World},St ⟨w,mG (ug b h d)⟩ L v→∀y,y∈d.ds→AL v y.p y.l) (hdn:d.ds.length=d.ti.length) (hen:d.es.length=d.ti.length) (hV:XI h V r d) (hok:kH h la d.ti.length time h.g vs=0) (hlv:1≤h.lv∧h.lv≤1073741824):
 Calls af 9 #[.pointer (some ⟨b,0,none⟩),.int .i64 time,.agg #[.int .i64 h.g.x,.int .i64 h.g.y,.int .i64 h.g.size,.int .i64 h.g.wide,.int .i64 h.g.high,.slice pv vs.length cv]] w fun e w'=>∃y:DnY,DnP h V vs r time d y∧e= .returned (.tuple #[.slice y.ev.p y.ev.l.length y.ev.c,.int .i64 0])∧St ⟨w,mG (ug b h d)⟩ (ug b h y.d++[bV (y.yN.R 159),bV y.X]) w':=by
 obtain⟨hfd,_,ht0,ht1,hla,hn48⟩:=El hok
 obtain⟨hg,hlen,hsk,_,_⟩:=oO (lT (lv:=h.lv) hfd hlv.1 hlv.2)
 have har:=iM hg
 have hvl:vs.length=gW h.g*gH h.g:=AS hg hlen
 have hv:=hvv hh.enter
 refine oL (vs:=[_,_,_]) (env:=[(0,_),(1,_),(2,_)]) hh.enter Tryz.func9 rfl rfl rfl rfl ?_
 refine au (aB rfl<|c8 (C:=#[_,_,_,_,_,_]) rfl rfl fun b5=>ax rfl<|ax rfl<|aq<|au (ah (aX (vs:=[_,_,_,_,_,_]) oy (.r rfl) (aF 0 rfl ⟨_,rfl⟩) rfl) rfl<|ah (bK (xs:=[_]) (vs:=[_]) C35 ⟨(.r rfl),trivial⟩ (fun w2 hw=>tW ⟨h.g,vs⟩ pv cv w2 (hvv hw))) rfl<|ax rfl<|aq<|av ?_))
 refine au (ag rfl<|VO.u rfl<|aq<|ay rfl (fun h15=>?_) (fun h15=>?_))
 · (exfalso;exact h15 hfd)
 ·
  refine aE (aj<|au (ag rfl<|ah (cV (.r rfl)) rfl<|bO (r:=7) uM rfl<|cL 1 iL rfl rfl ⟨_,rfl⟩ rfl<|ah (bE fk (.r rfl) rfl) rfl<|ax rfl<|aq<|av<|aD<|av ?_))
  refine gj mixed (bl (aP (r:=0) lO (.r rfl) rfl) rfl<|bl (aX (vs:=[_,_,_,_,_]) qw (.r rfl) (aF 0 rfl ⟨_,rfl⟩) rfl) rfl<|eT rfl<|bl (cV (.r rfl)) rfl<|bl (aP (r:=0) Jc (.r rfl) rfl) rfl<|bl (aX (vs:=[_,_,_,_,_]) qw (.r rfl) (aF 1 rfl ⟨_,rfl⟩) rfl) rfl<|bl (LO.Qr («as» :=[_,_,_,_,_]) (bs:=[_,_,_,_,_]) J5 (.r rfl) (.r rfl) rfl rfl) rfl<|bl (LO.as (.r rfl)) rfl<|LL.nil) (by kernel_rfl)<|aj<|ay rfl (fun h22=>?_) (fun h22=>?_)
  · (exfalso;exact h22 rfl)
  ·
   refine au (ag rfl<|dK rfl<|ag rfl<|aK rfl (fun hg=>aS (.r rfl))<|aK rfl (fun hg=>gu (.g hg rfl) (.r rfl))<|ah (cD (.r rfl) (.r rfl) rfl rfl) rfl<|ax rfl<|aq<|ay rfl (fun h30=>?_) (fun h30=>?_))
   · (exfalso;omega)
   ·
    refine au (ag rfl<|ah (gu (.r rfl) (.r rfl)) rfl<|ag rfl<|bh rfl (fun hg=>aS (.r rfl))<|bh rfl (fun hg=>aS (.r rfl))<|bh rfl (fun hg=>cV (.g hg rfl))<|bh rfl (fun hg=>aP (r:=7) uM (.g hg rfl) rfl)<|bh rfl (fun hg=>aC iL (.g hg rfl) (aF 1 rfl ⟨_,rfl⟩))<|bh rfl (fun hg=>aS (.r rfl))<|bh rfl (fun hg=>gz (.g hg rfl) (.r rfl) (wi (by omega) (by omega)))<|bh rfl (fun hg=>cy fk N3 (fun _ hw=>(bL hw 2 rfl).some (by rw[ak])) (.g hg rfl) (.g hg rfl) (j:=d.ti.length-1) (by simp at hg;omega) (by simp at hg;omega))<|bh rfl (fun hg=>aC O3 (.g hg rfl) (fun w hw=>aA (off:=0) (cO hw 2 rfl (Ze (n:=d.ti.length-1) (by simp at hg;omega))) ⟨_,rfl⟩))<|bh rfl (fun hg=>LO.le (.g hg rfl) (.g hg rfl))<|ah (LO.qc (.r rfl) rfl rfl (.r rfl)) rfl<|ax rfl<|aq<|ay rfl (fun h37=>?_) (fun h37=>?_))
    · (exfalso;(have z:=hL (by omega);omega))
    ·
     refine au (ag rfl<|ah (iw (.r rfl) (.r rfl)) rfl<|ax rfl<|aq<|ay rfl (fun h52=>?_) (fun h52=>?_))
     · (exfalso;omega)
     ·
      refine aE (bB (aj<|av<|VC.iI [[0,1,2,3,4],[0,1,2,3,4],[0,1,2,3,4]] [some 0,some 0,some 0,some 0,some 0,none,none] mixed (by kernel_rfl) rfl (aG (fun _ hJ=>aX (vs:=[_,_,_,_,_,_]) oy (.r rfl) (fun _ hw=>cN (hJ _ hw) 0 rfl ⟨_,rfl⟩) rfl) rfl<|cT rfl<|aG (fun _ hJ=>cV (.r rfl)) rfl<|aG (fun _ hJ=>aP (r:=5) Yq (.r rfl) rfl) rfl<|aG (fun _ hJ=>aC O3 (.r rfl) (fun _ hw=>cN (hJ _ hw) 1 rfl ⟨_,rfl⟩)) rfl<|dC<|dC<|fj) (az<|az<|az<|az<|az<|ga rfl<|cd (xs:=[_,_]) (vs:=[_,_]) C36 ⟨(.r rfl),(.r rfl),trivial⟩ (fun w2 hw=>Nq h.g vs pv cv h.lv w2 hg hvl hsk (hvv hw)) fun yN hyA=>⟨fun _ hw=>hw.gY [3,4,5,6,7] rfl,ga rfl<|aW (LO.as (.r rfl))<|⟨fun _ hw=>hw.gY [3,4,5,6,7] rfl,fB ?_⟩⟩)))
      refine aj<|au (ax rfl<|aq<|av<|au (ag rfl<|ah (gu (.r rfl) (.r rfl)) rfl<|aN ?_))
      refine aj<|ay rfl (fun h62=>?_) (fun h62=>?_)
      ·
       obtain⟨yP,hyP⟩:=du (l:=d.ds) (n:=d.ds.length-1) (by omega)
       have hyPm:=al hyP
       refine VC.iI [[0,1,2,3,4,5,6,7],[0,1,2,3,4,5,6,7],[0,1,2,3,4,5,6,7]] [some 0,some 0,some 0,some 0,some 0,some 0,some 0,some 0,some 0,some 0,some 0,some 0,some 0,some 0,some 0,some 0,some 0,none,none] mixed (by kernel_rfl) rfl (cT rfl<|aG (fun _ hJ=>cV (.r rfl)) rfl<|aG (fun _ hJ=>aP (r:=0) Jc (.r rfl) rfl) rfl<|aG (fun _ hJ=>aX (vs:=[_,_,_,_,_]) qw (.r rfl) (fun _ hw=>cN (hJ _ hw) 4 rfl ⟨_,rfl⟩) rfl) rfl<|cT rfl<|aG (fun _ hJ=>cV (.r rfl)) rfl<|aG (fun _ hJ=>aP (r:=8) sn (.r rfl) rfl) rfl<|aG (fun _ hJ=>aC R7 (.r rfl) (fun _ hw=>cN (hJ _ hw) 4 rfl ⟨_,rfl⟩)) rfl<|cT rfl<|aG (fun _ hJ=>gz (.r rfl) (.r rfl) (wi (by omega) (by omega))) rfl<|aG (fun _ hJ=>cy K3 F8 (fun _ hw=>(bL (hJ _ hw) 6 rfl).some (by rw[ak])) (.r rfl) (.r rfl) (j:=d.ds.length-1) (by omega) (by omega)) rfl<|aG (fun _ hJ=>aC OB (.r rfl) (fun w hw=>aA (off:=0) (cO (hJ _ hw) 6 rfl hyP) ⟨_,rfl⟩)) rfl<|cT rfl<|cT rfl<|aG (fun _ hJ=>cV (.r rfl)) rfl<|aG (fun _ hJ=>aP (r:=6) T4 (.r rfl) rfl) rfl<|aG (fun _ hJ=>aC O3 (.r rfl) (fun _ hw=>cN (hJ _ hw) 4 rfl ⟨_,rfl⟩)) rfl<|dC<|dC<|fj) (az<|az<|az<|az<|az<|az<|az<|az<|az<|az<|az<|az<|az<|az<|az<|az<|az<|ga rfl<|cd (xs:=[_,_,_,_]) (vs:=[_,_,_,_]) C37 ⟨(.r rfl),(.r rfl),(.r rfl),(.r rfl),trivial⟩ (fun w2 hw=>KC h.g yP yN (V.getD (d.ds.length-1) []) vs h.lv h.rc r hV.rc w2 hg (hV.ar _ yP hyP) hyA (hal hw yP hyPm) (AL.gM hw hyA 0 1 2 rfl rfl rfl)) fun ev hev=>⟨kJ (L1:=[_,_,_,_,_,_,_,_]) [3,4,5,6,7,8,9,10] rfl rfl rfl,ga rfl<|aW (LO.as (.r rfl))<|⟨kJ (L1:=[_,_,_,_,_,_,_,_]) [3,4,5,6,7,8,9,10] rfl rfl rfl,fB ?_⟩⟩)
       refine aj<|au (ag rfl<|ag rfl<|ah (cV (.r rfl)) rfl<|bO (r:=7) uM rfl<|cL 7 iL rfl rfl ⟨_,rfl⟩ rfl<|ag rfl<|aB rfl<|eW (ps:=[(_,_)]) (vs:=[(_,_)]) (Z:=[_]) (C:=[_]) fk Z3 N3 ⟨(.r rfl),trivial⟩ rfl rfl rfl rfl ⟨_,[_],[_],rfl,rfl,rfl,rfl,rfl⟩ fun b18=>aB rfl<|eP (time) 9 0 (fun R=>[_,_,_,_,_,_,_,_,_,R,_,_]) fk fk I3 (.r rfl) (.r rfl) rfl rfl rfl rfl rfl rfl rfl (fun _=>rfl) rfl (by omega) fun p7 c7=>ah (cV (.r rfl)) rfl<|bO (r:=7) uM rfl<|cu<|cq 8 (vs:=[_]) (C':=[_,_,_,_,_,_,_,_,_,_]) (L':=[_,_,_,_,_,_,_,_,_,_,_,_]) qL rfl rfl rfl rfl rfl rfl rfl rfl<|aq<|au (ag rfl<|ag rfl<|ah (cV (.r rfl)) rfl<|bO (r:=8) sn rfl<|cL 8 R7 rfl rfl ⟨_,rfl⟩ rfl<|ag rfl<|aB rfl<|eW (ps:=[(_,_)]) (vs:=[(_,_)]) (Z:=[_]) (C:=[_]) K3 YB F8 ⟨(.r rfl),trivial⟩ rfl rfl rfl rfl ⟨_,[_],[_],rfl,rfl,rfl,rfl,rfl⟩ fun b20=>aB rfl<|eP (yN) 11 0 (fun R=>[_,_,_,_,_,_,_,_,_,_,_,R,_]) K3 K3 Zc (.r rfl) (.r rfl) rfl rfl rfl rfl rfl rfl rfl (fun _=>rfl) rfl (by omega) fun p7 c7=>ah (cV (.r rfl)) rfl<|bO (r:=8) sn rfl<|cu<|cq 9 (vs:=[_]) (C':=[_,_,_,_,_,_,_,_,_,_]) (L':=[_,_,_,_,_,_,_,_,_,_,_,_,_]) N86 rfl rfl rfl rfl rfl rfl rfl rfl<|aq ?_))
       refine au (ag rfl<|ag rfl<|ah (cV (.r rfl)) rfl<|bO (r:=9) sk rfl<|cL 9 SF rfl rfl ⟨_,rfl⟩ rfl<|ag rfl<|aB rfl<|eW (ps:=[(_,_)]) (vs:=[(_,_)]) (Z:=[_]) (C:=[_]) J1 Z42 Ug ⟨(.r rfl),trivial⟩ rfl rfl rfl rfl ⟨_,[_],[_],rfl,rfl,rfl,rfl,rfl⟩ fun b22=>aB rfl<|eP (ev) 13 0 (fun R=>[_,_,_,_,_,_,_,_,_,_,_,_,_,R]) J1 J1 I42 (.r rfl) (.r rfl) rfl rfl rfl rfl rfl rfl rfl (fun _=>rfl) rfl (by omega) fun p7 c7=>ah (cV (.r rfl)) rfl<|bO (r:=9) sk rfl<|cu<|cq 10 (vs:=[_]) (C':=[_,_,_,_,_,_,_,_,_,_]) (L':=[_,_,_,_,_,_,_,_,_,_,_,_,_,_]) N87 rfl rfl rfl rfl rfl rfl rfl rfl<|aq<|au (ag rfl<|ax rfl<|ax rfl<|aq<|be (dh (vs:=[_,_]) rfl ⟨rfl,rfl,trivial⟩ (fun w hw=>?_))))
       have hs:=dq (L1:=[_,_,_,_,_,_,_,_,_,_]) [10,11,12,13,6,7,8,3,4,5] rfl rfl _ hw
       refine⟨⟨⟨d.ti++[time],_,_,d.ds++[yN],_,_,d.es++[ev],_,_⟩,yN,ev,ev.DR⟩,⟨hyA,rfl,rfl,rfl,fun z=>by omega,fun n yP2 hn2 hy2=>?_,fun w k=>Pt k⟩,rfl,yS (R:=[_,_,_,_]) (A:=[_,_,_]) (B:=[_,_,_]) hs⟩
       obtain rfl:n=d.ds.length-1:=by omega
       rw[hyP]at hy2
       have hyy:=eI hy2
       subst hyy
       exact hev
      ·
       refine aE (aj<|au (ag rfl<|ag rfl<|ah (cV (.r rfl)) rfl<|bO (r:=7) uM rfl<|cL 4 iL rfl rfl ⟨_,rfl⟩ rfl<|ag rfl<|aB rfl<|eW (ps:=[(_,_)]) (vs:=[(_,_)]) (Z:=[_]) (C:=[_]) fk Z3 N3 ⟨(.r rfl),trivial⟩ rfl rfl rfl rfl ⟨_,[_],[_],rfl,rfl,rfl,rfl,rfl⟩ fun b24=>aB rfl<|eP (time) 6 0 (fun R=>[_,_,_,_,_,_,R,_,_]) fk fk I3 (.r rfl) (.r rfl) rfl rfl rfl rfl rfl rfl rfl (fun _=>rfl) rfl (by omega) fun p7 c7=>ah (cV (.r rfl)) rfl<|bO (r:=7) uM rfl<|cu<|cq 5 (vs:=[_]) (C':=[_,_,_,_,_,_,_,_,_,_]) (L':=[_,_,_,_,_,_,_,_,_]) qL rfl rfl rfl rfl rfl rfl rfl rfl<|aq<|au (ag rfl<|ag rfl<|ah (cV (.r rfl)) rfl<|bO (r:=8) sn rfl<|cL 5 R7 rfl rfl ⟨_,rfl⟩ rfl<|ag rfl<|aB rfl<|eW (ps:=[(_,_)]) (vs:=[(_,_)]) (Z:=[_]) (C:=[_]) K3 YB F8 ⟨(.r rfl),trivial⟩ rfl rfl rfl rfl ⟨_,[_],[_],rfl,rfl,rfl,rfl,rfl⟩ fun b26=>aB rfl<|eP (yN) 8 0 (fun R=>[_,_,_,_,_,_,_,_,R,_]) K3 K3 Zc (.r rfl) (.r rfl) rfl rfl rfl rfl rfl rfl rfl (fun _=>rfl) rfl (by omega) fun p7 c7=>ah (cV (.r rfl)) rfl<|bO (r:=8) sn rfl<|cu<|cq 6 (vs:=[_]) (C':=[_,_,_,_,_,_,_,_,_,_]) (L':=[_,_,_,_,_,_,_,_,_,_]) N86 rfl rfl rfl rfl rfl rfl rfl rfl<|aq ?_)))
       refine au (ag rfl<|ag rfl<|ah (cV (.r rfl)) rfl<|bO (r:=9) sk rfl<|cL 6 SF rfl rfl ⟨_,rfl⟩ rfl<|ag rfl<|aB rfl<|eW (ps:=[(_,_)]) (vs:=[(_,_)]) (Z:=[_]) (C:=[_]) J1 Z42 Ug ⟨(.r rfl),trivial⟩ rfl rfl rfl rfl ⟨_,[_],[_],rfl,rfl,rfl,rfl,rfl⟩ fun b28=>aB rfl<|eP ((⟨[],none,0⟩:qv)) 10 0 (fun R=>[_,_,_,_,_,_,_,_,_,_,R]) J1 J1 I42 (.r rfl) (.r rfl) rfl rfl rfl rfl rfl rfl rfl (fun _=>rfl) rfl (by omega) fun p7 c7=>ah (cV (.r rfl)) rfl<|bO (r:=9) sk rfl<|cu<|cq 7 (vs:=[_]) (C':=[_,_,_,_,_,_,_,_,_,_]) (L':=[_,_,_,_,_,_,_,_,_,_,_]) N87 rfl rfl rfl rfl rfl rfl rfl rfl<|aq<|au (ag rfl<|ax rfl<|ax rfl<|aq<|be (dh (vs:=[_,_]) rfl ⟨rfl,rfl,trivial⟩ (fun w hw=>?_))))
       have hs:=dq (L1:=[_,_,_,_,_,_,_]) [7,8,9,10,3,4,5] rfl rfl _ hw
       refine⟨⟨⟨d.ti++[time],_,_,d.ds++[yN],_,_,d.es++[(⟨[],none,0⟩:qv)],_,_⟩,yN,(⟨[],none,0⟩:qv),[]⟩,⟨hyA,rfl,rfl,rfl,fun z=>rfl,fun n yP2 hn2 hy2=>by omega,fun w k=>x8 w⟩,rfl,yS (R:=[_,_,_,_]) (A:=[_,_,_]) (B:=[]) hs⟩
theorem B89:fU af 89 [(0,5),(5,1),(6,1),(7,1),(8,1),(9,1)] [.int .i64 0,.int .i64 0,.int .i64 0,.int .i64 0,.int .i64 0,.int .i64 0,.int .i64 0,.slice none 0 0,.slice none 0 0,.slice none 0 0]:=fU.mk fun _=>by kernel_rfl
def d0:o8:=⟨[],none,0,[],none,0,[],none,0⟩
theorem db0 {β:Bs} {L:List dg} {w:World} {b:Nat} {h:jk} (hw:St β (gq b (.cells (YJ h d0).toArray 89)::L) w):St β (ug b h d0++L) w:=by
 have h1:=((hw.fX 42 1).fX 101 1).fX 3 1
 exact h1.perm (iu (l₁:=[_,_,_]))
theorem Fj (g:eo) (lv rc:Int) (w:World) (hne:mO g lv rc≠0):
 Calls af 6 #[lL g,.int .i64 lv,.int .i64 rc] w fun e w'=>e= .returned (.tuple #[.pointer none,.int .i64 (mO g lv rc)])∧St (bs w) [] w':=by
 refine enter (vs:=[_,_,_]) (env:=[(0,_),(1,_),(2,_)]) Tryz.func6 rfl rfl rfl rfl ?_
 refine au (aB rfl<|c8 (C:=#[_,_,_,_,_]) rfl rfl fun b1=>ax rfl<|ax rfl<|aq<|au (ah (aX (vs:=[_,_,_,_,_]) qw (.r rfl) (aF 0 rfl ⟨_,rfl⟩) rfl) rfl<|ah (bK (xs:=[_]) (vs:=[_]) C26 ⟨(.r rfl),trivial⟩ (fun w _=>rq g w)) rfl<|ax rfl<|aq<|av ?_))
 refine au (ag rfl<|VO.u rfl<|aq<|ay rfl (fun h12=>?_) (fun h12=>?_))
 ·
  refine au (ag rfl<|ax rfl<|ax rfl<|aq<|be (bA (dh (vs:=[_,_]) rfl ⟨rfl,rfl,trivial⟩ (fun w hw=>?_))))
  refine⟨?_,hw.nil⟩
  refine congrArg (fun z=>bT (.tuple #[.pointer none,.int .i64 z])) ?_
  first |exact bE1 h12|exact bE2 h12 (by first |omega|(simp at h27;omega))
 ·
  refine aE (aj<|av<|au (ag rfl<|dK rfl<|ag rfl<|aK rfl (fun hg=>aS (.r rfl))<|aK rfl (fun hg=>gu (.g hg rfl) (.r rfl))<|ah (cD (.r rfl) (.r rfl) rfl rfl) rfl<|ag rfl<|aK rfl (fun hg=>aS (.r rfl))<|aK rfl (fun hg=>LO.lt (.g hg rfl) (.r rfl))<|ah (cD (.r rfl) (.r rfl) rfl rfl) rfl<|ag rfl<|aK rfl (fun hg=>aS (.r rfl))<|aK rfl (fun hg=>gu (.g hg rfl) (.r rfl))<|ah (cD (.r rfl) (.r rfl) rfl rfl) rfl<|aq<|ay rfl (fun h27=>?_) (fun h27=>?_)))
  ·
   refine au (ax rfl<|ax rfl<|aq<|be (bA (dh (vs:=[_,_]) rfl ⟨rfl,rfl,trivial⟩ (fun w hw=>?_))))
   refine⟨?_,hw.nil⟩
   refine congrArg (fun z=>bT (.tuple #[.pointer none,.int .i64 z])) ?_
   first |exact bE1 h12|exact bE2 h12 (by first |omega|(simp at h27;omega))
  · (exfalso;exact hne (bE3 h12 (by first |omega|(simp at h27;omega))))
theorem C2 (g:eo) (lv rc:Int) (w:World) (hok:mO g lv rc=0):
 Calls af 6 #[lL g,.int .i64 lv,.int .i64 rc] w fun e w'=>∃b:Nat,True∧e= .returned (.tuple #[.pointer (some ⟨b,0,none⟩),.int .i64 0])∧St (bs w) [gq b (.cells (YJ ⟨g,lv,rc,0⟩ d0).toArray 89)] w':=by
 refine enter (vs:=[_,_,_]) (env:=[(0,_),(1,_),(2,_)]) Tryz.func6 rfl rfl rfl rfl ?_
 refine au (aB rfl<|c8 (C:=#[_,_,_,_,_]) rfl rfl fun b1=>ax rfl<|ax rfl<|aq<|au (ah (aX (vs:=[_,_,_,_,_]) qw (.r rfl) (aF 0 rfl ⟨_,rfl⟩) rfl) rfl<|ah (bK (xs:=[_]) (vs:=[_]) C26 ⟨(.r rfl),trivial⟩ (fun w _=>rq g w)) rfl<|ax rfl<|aq<|av ?_))
 refine au (ag rfl<|VO.u rfl<|aq<|ay rfl (fun h12=>?_) (fun h12=>?_))
 · (exfalso;exact h12 (by have z:=yX hok;unfold kP;rw[if_pos z.1]))
 ·
  refine aE (aj<|av<|au (ag rfl<|dK rfl<|ag rfl<|aK rfl (fun hg=>aS (.r rfl))<|aK rfl (fun hg=>gu (.g hg rfl) (.r rfl))<|ah (cD (.r rfl) (.r rfl) rfl rfl) rfl<|ag rfl<|aK rfl (fun hg=>aS (.r rfl))<|aK rfl (fun hg=>LO.lt (.g hg rfl) (.r rfl))<|ah (cD (.r rfl) (.r rfl) rfl rfl) rfl<|ag rfl<|aK rfl (fun hg=>aS (.r rfl))<|aK rfl (fun hg=>gu (.g hg rfl) (.r rfl))<|ah (cD (.r rfl) (.r rfl) rfl rfl) rfl<|aq<|ay rfl (fun h27=>?_) (fun h27=>?_)))
  · (exfalso;have z:=yX hok;first |omega|(simp at h27;omega))
  ·
   refine aE (aj<|au (ah (aX (vs:=[_,_,_,_,_]) qw (.r rfl) (aF 0 rfl ⟨_,rfl⟩) rfl) rfl<|ag rfl<|ag rfl<|ah (LO.bd (ps:=[(_,_),(_,_),(_,_)]) (vs:=[(_,_),(_,_),(_,_)]) (C:=[_,_,_,_,_,_,_,_,_,_]) B89 ⟨(.r rfl),(.r rfl),(.r rfl),trivial⟩ rfl ⟨_,[_,_,_,_,_],[_,_,_,_,_,_,_,_,_,_],rfl,rfl,rfl,rfl,⟨_,[_],[_,_,_,_,_,_,_,_,_,_],rfl,rfl,rfl,rfl,⟨_,[_],[_,_,_,_,_,_,_,_,_,_],rfl,rfl,rfl,rfl,rfl⟩⟩⟩) rfl<|aB rfl<|c8 (C:=#[_,_,_,_,_,_,_,_,_,_]) rfl rfl fun b2=>aB rfl<|aW (LO.as (.r rfl))<|ax rfl<|aq<|be (dh (vs:=[_,_]) rfl ⟨rfl,rfl,trivial⟩ (fun w hw=>?_))))
   exact⟨b2,trivial,rfl,dq [0] rfl rfl _ hw⟩
theorem O8 {l m:List gF} {j:Int}:cK (l++m) j=cK l j+cK m j:=by unfold cK;rw[List.filter_append,aJ];push_cast;rfl
theorem MS:∀{es:List gF} {kd:Nat→Int} {j:Nat},(∀e,e∈es→0≤e.kd)→x9 kd es j=kd j+cK es j
 |[],kd,j,h=>by show kd j=kd j+0;omega
 |e::es,kd,j,h=>by
  have ih:=MS (es:=es) (kd:=KR kd e.kd.toNat) (j:=j) (fun x hx=>h x (List.mem_cons_of_mem _ hx))
  have h0:=h e List.mem_cons_self
  have e1:x9 kd (e::es) j=x9 (KR kd e.kd.toNat) es j:=rfl
  have e2:cK (e::es) (j:Int)=cK [e] j+cK es j:=O8 (l:=[e])
  rw[e1,ih,e2]
  unfold KR cK
  by_cases q:j=e.kd.toNat
  ·rw[if_pos q,List.filter_cons_of_pos (by exact decide_eq_true (by omega))]
   show kd j+1+_=kd j+(((0+1:Nat):Int)+_);omega
  ·rw[if_neg q,List.filter_cons_of_neg (by rw[decide_eq_true_eq];omega)]
   show kd j+_=kd j+(((0:Nat):Int)+_);omega
structure Qu (h:jk) (r N:Nat) (s:oM) (V:List (List Span)):Prop where
 A:RJ h s V r
 I:iF s.E s.Ms (s.tk.map dG) s.of
 G:re s.E s.Ms
 n:s.Ms.length=N
 v:V.length=N
 mb:∀m,m∈s.Ms→m≤4096
 tk:s.tk.length≤4096*N
 kb:∀j,0≤s.kd j∧s.kd j≤10000*N
 K:∀j:Nat,2≤j→j≤7→s.kd j=cK s.E.flatten j
 la:N=0→s.la= -1
def nxS (N:Nat) (evs:List gF) (m:Nat) (tk:List fo) (of:Nat×Nat→Option Nat):List fo×(Nat×Nat→Option Nat):=
 if N=0 then ib 0 [] (tk,of) m else ib N evs (tk.map (jU N evs),r6 (N-1) evs of) m
structure U8 where
 s:oM
 ev:List db
 p:Option Addr
 c:Nat
 X:List dg
 R:List dg
structure AjO (h:jk) (r N:Nat) (time:Int) (vs:List Span) (s:oM) (V:List (List Span)) (y:U8):Prop where
 P:Qu h r (N+1) y.s (V++[vs])
 la:y.s.la=time
 ys:∃yN,y.s.ys=s.ys++[yN]∧∀w:World,(∀r,r∈y.X→r.inv w)→vO w yN (mH (gW h.g) (gH h.g) (et vs h.lv))
 E:y.s.E=s.E++[y.ev.map dD]
 Ms:y.s.Ms=s.Ms++[nP h.g vs h.lv]
 YH:N=0→y.ev=[]
 ev:∀n,N=n+1→Oo (gW h.g) (gH h.g) r (mH (gW h.g) (gH h.g) (et (V.getD n []) h.lv)) (mH (gW h.g) (gH h.g) (et vs h.lv)) (nP h.g (V.getD n []) h.lv) (nP h.g vs h.lv) (y.ev.map dD)
 tk:(y.s.tk.map dG,y.s.of)=nxS N (y.ev.map dD) (nP h.g vs h.lv) (s.tk.map dG) s.of
 kd:y.s.kd=x9 s.kd (y.ev.map dD)
structure AjP (h:jk) (r N:Nat) (time:Int) (g:eo) (vs:List Span) (s:oM) (V:List (List Span)) (y:U8):Prop where
 rd:∀w:World,(∀r,r∈y.R→r.inv w)→EP w y.p y.ev
 no:kH h s.la N time g vs≠0→y.s=s∧y.ev=[]
 ok:kH h s.la N time g vs=0→AjO h r N time vs s V y
theorem IB {β:Bs} {A B C:List dg} {w:World} (h:St β (A++B++C) w):St β [bV A,bV B,bV C] w:=fJ (Rs:=A) (L:=[bV B,bV C]) (yS h)
theorem M1 {w:World} {y:oV} {of:List Int} {W H:Nat} {vs:List Span} {lv:Int} (hp:AR W H vs lv y) (k:∀r,r∈y.R of→r.inv w):vO w y of where
 ar:=gh (k (own 60 8 y.p y.c (y.l.map di.cells)) (by unfold oV.R;simp))
 kr:=fun a ha=>⟨gG ((k (bV (y.l.map di.kR)) (by unfold oV.R;simp)).1 _ (bw (f:=di.kR) ha)),fun x hx=>by
  have h:=k (kZ 3 1 nC y.ks) (by unfold oV.R;simp) _ (bw (f:=fun x:cG Nat=>own 3 1 x.p x.c (x.l.map nC)) (hp.kr a ha x hx))
  refine⟨?_,gG h⟩
  have:=h.1
  rwa [ak]at this⟩
 of:=gh (k (own 3 1 y.po y.co (of.map iC)) (by unfold oV.R;simp))
theorem F7 {V:List (List Span)} {vs:List Span} {n:Nat} (h:n<V.length):(V++[vs]).getD n []=V.getD n []:=pC h
theorem Ff {V:List (List Span)} {vs:List Span} {n:Nat} (h:n=V.length):(V++[vs]).getD n []=vs:=by subst h;exact ki
theorem RJ.add {h:jk} {s s2:oM} {V:List (List Span)} {vs:List Span} {r:Nat} {yN:oV} (hA:RJ h s V r) (hv:V.length=s.Ms.length) (e1:s2.ys=s.ys++[yN]) (e2:s2.Ms=s.Ms++[nP h.g vs h.lv]) (hy:AR (gW h.g) (gH h.g) vs h.lv yN) (hN:s.Ms.length≤999):RJ h s2 (V++[vs]) r:=by
 refine⟨hA.g,by rw[e1,e2,aJ,aJ,hA.n];rfl,fun n y hn=>?_,hA.rc,hA.r8,by rw[e2,aJ];show _+1≤1000;omega⟩
 rw[e1]at hn
 rw[e2]
 have hl:=(an.1 hn).1
 rw[aJ,bu,hA.n]at hl
 by_cases q:n<s.Ms.length
 ·rw[aV (by rw[hA.n];exact q)]at hn
  rw[F7 (by omega),nD q]
  exact hA.ar n y hn
 ·have e:n=s.Ms.length:=by omega
  subst e
  rw[bJ (by rw[hA.n];exact cg _),hA.n,Nat.sub_self]at hn
  have:=eI hn
  subst this
  rw[Ff hv.symm,ki]
  exact⟨hy,Jb hy⟩
theorem Uf (b:Nat) (h:jk) (s:oM) (V:List (List Span)) (r N:Nat) (time:Int) (g:eo) (vs:List Span) (pv:Option Addr) (cv:Nat) (w:World) (hh:Has w [bV (s.F b h)]) (hvv:∀{L:List dg} {v:World},St ⟨w,mG [bV (s.F b h)]⟩ L v→fL v pv vs) (hsp:∀{L:List dg} {v:World},St ⟨w,mG [bV (s.F b h)]⟩ L v→∀(n:Nat) (y:oV),s.ys[n]? =some y→vO v y (mH (gW h.g) (gH h.g) (et (V.getD n []) h.lv))) (hP:Qu h r N s V) (hN:N≤6) (hlv:1≤h.lv∧h.lv≤1073741824) (hb:fG w ⟨b,0,none⟩ (uO h s.la ⟨s.pm,s.ys.length,s.cm⟩ s.pt s.tk.length s.ct s.kd)):
  Calls af 8 #[.pointer (some ⟨b,0,none⟩),.int .i64 time,.agg #[.int .i64 g.x,.int .i64 g.y,.int .i64 g.size,.int .i64 g.wide,.int .i64 g.high,.slice pv vs.length cv]] w fun e w'=>∃y:U8,AjP h r N time g vs s V y∧e= .returned (.tuple #[.slice y.p y.ev.length y.c,.int .i64 (kH h s.la N time g vs)])∧St ⟨w,mG [bV (s.F b h)]⟩ [bV (y.s.F b h),bV y.X,bV y.R] w':=by
 have hys:s.ys.length=N:=by rw[hP.A.n,hP.n]
 have hF:Has w (s.F b h):=by
  have z:=Has.Tw (R:=[]) hh
  rw[ew]at z
  exact z
 by_cases hok:kH h s.la N time g vs=0
 ·obtain⟨_,rfl,_⟩:=El hok
  have hle:gW h.g*gH h.g≤4096:=iM hP.A.g
  have hnP:nP h.g vs h.lv≤4096:=Ih hle
  have hfp:mG [bV (s.F b h)]=mG (s.F b h):=If
  rw[hfp]at hvv hsp ⊢
  have htk:=hP.tk
  by_cases hN0:N=0
  ·subst hN0
   have hy0:s.ys=[]:=eV hys
   have hMs:s.Ms=[]:=eV hP.n
   have hE:s.E=[]:=eV (by rw[hP.I.q.len,hMs];rfl)
   have hV:V=[]:=eV hP.v
   have eF:s.F b h=tI b h s.la s.pm s.cm [] s.pt s.ct s.kd s.tk s.of:=by unfold oM.F;rw[hy0]
   refine(TF b h s.la s.pm s.cm s.pt s.ct s.kd s.tk s.of time vs pv cv w (by rw[←eF];exact hF) (fun hs=>hvv (by rw[eF];exact hs)) hok hlv (by omega)).mono fun e w' ⟨y,⟨h1,h2,h3⟩,h4,h5⟩=>?_
   have hn:=Jb h1
   have hi0:iF [] [] (s.tk.map dG) s.of:=by rw[←hE, ←hMs];exact hP.I
   have hq:=(iW.first (m:=y.yN.l.length) hi0).zp (N:=0) rfl (fun z=>absurd z (Nat.lt_irrefl 0)) y.yN.l.length (cg _)
   rw[show([[]]:List (List gF)).getD 0 []=[]from rfl, ←h2]at hq
   have hinv:iF [[]] [y.yN.l.length] (y.tk.map dG) y.of:=iW.done (N:=0) hq rfl
   refine⟨⟨⟨time,y.pm,y.cm,[y.yN],y.pt,y.ct,s.kd,y.tk,y.of,[[]],[y.yN.l.length],y.yN,vs,[]⟩,[],none,0,y.yN.R (mH (gW h.g) (gH h.g) (et vs h.lv)),[]⟩,⟨fun w k=>x8 w,fun z=>absurd hok z,fun _=>?_⟩,by rw[h4,hok];rfl,?_⟩
   ·refine⟨⟨?_,hinv,⟨fun n hn=>by have:n+1<1:=hn;omega⟩,rfl,by rw[hV];rfl,fun n hn=>by have:n=y.yN.l.length:=bW.1 hn;omega,by show y.tk.length≤_;omega,fun j=>by have:=hP.kb j;show 0≤s.kd j∧s.kd j≤_;omega,fun j j2 j7=>?_,fun z=>absurd z (kW 0)⟩,rfl,⟨y.yN,by rw[hy0];rfl,fun w k=>M1 h1 k⟩,by rw[hE];rfl,by rw[hMs,hn];rfl,fun _=>rfl,fun n z=>by omega,by unfold nxS;rw[if_pos rfl, ←hn];exact h2,rfl⟩
    ·exact RJ.add hP.A (by rw[hV,hMs];rfl) (by rw[hy0];rfl) (by rw[hMs,hn];rfl) h1 (by rw[hMs];exact aY _)
    ·have:=hP.K j j2 j7
     rw[hE]at this
     exact this
   ·rw[←eF]at h5
    exact IB (C:=[]) (by rw[ew];exact h5)
  ·obtain⟨n,rfl⟩:∃n,N=n+1:=⟨N-1,by omega⟩
   obtain⟨yP,hyP⟩:=du (l:=s.ys) (n:=n) (by omega)
   obtain⟨l2,l3⟩:=hP.A.ar n yP hyP
   refine(Tt b h s.la s.pm s.cm s.ys s.pt s.ct s.kd s.tk s.of time vs pv cv w hF hvv (by rw[hys];exact hok) hlv (by omega) n r hys (by omega) yP hyP (V.getD n []) l2 (fun hs=>hsp hs n yP hyP) s.E s.Ms hP.I hP.n l3.symm hP.A.rc hP.A.r8 (fun j=>by have:=hP.kb j;omega)).mono fun e w' ⟨y,hy,h4,h5⟩=>?_
   have hn:=Jb hy.ar
   have hnp:=Jb l2
   have hev:=hy.ev
   rw[hnp,hn]at hev
   have hg:=hev.Kf
   have hgs:iq (s.Ms.getD n 0) (nP h.g vs h.lv) (y.ev.l.map dD):=by rw[←l3,hnp];exact hg
   have hN2:(s.Ms++[nP h.g vs h.lv]).length=(n+1)+1:=by rw[aJ,hP.n];rfl
   have hEl:(s.E++[y.ev.l.map dD]).getD (n+1) []=y.ev.l.map dD:=by
    have e:n+1=s.E.length:=by rw[hP.I.q.len,hP.n]
    rw[e];exact ki
   have hM1:(s.Ms++[nP h.g vs h.lv]).getD n 0=s.Ms.getD n 0:=nD (by rw[hP.n];omega)
   have hM2:(s.Ms++[nP h.g vs h.lv]).getD (n+1) 0=nP h.g vs h.lv:=by
    have e:n+1=s.Ms.length:=hP.n.symm
    rw[e];exact ki
   have hq0:=iW.change (m:=nP h.g vs h.lv) hP.I hP.n hgs
   have hgb:0<n+1→iq ((s.Ms++[nP h.g vs h.lv]).getD (n+1-1) 0) ((s.Ms++[nP h.g vs h.lv]).getD (n+1) 0) ((s.E++[y.ev.l.map dD]).getD (n+1) []):=fun _=>by
    rw[hM2,hEl,show n+1-1=n from rfl,hM1];exact hgs
   have hq:=hq0.zp (N:=n+1) hN2 hgb (nP h.g vs h.lv) (by rw[hM2];exact cg _)
   rw[hEl]at hq
   have htrk:=hy.K1
   rw[hn]at htrk
   rw[←htrk]at hq
   have hinv:iF (s.E++[y.ev.l.map dD]) (s.Ms++[nP h.g vs h.lv]) (y.tk.map dG) y.of:=iW.done (N:=n+1) (by rw[hM2];exact hq) hN2
   have hevl:=hg.Q9
   rw[ak]at hevl
   have hnv:nP h.g (V.getD n []) h.lv≤4096:=Ih hle
   have hyl:=hy.len
   have hk0:∀e,e∈y.ev.l.map dD→0≤e.kd:=fun e he=>by rw[(hg.kd e he).1];have:=(DQ e.f.length e.t.length).1;omega
   refine⟨⟨⟨time,y.pm,y.cm,s.ys++[y.yN],y.pt,y.ct,y.kd,y.tk,y.of,s.E++[y.ev.l.map dD],s.Ms++[nP h.g vs h.lv],y.yN,vs,[]⟩,y.ev.l,y.ev.p,y.ev.c,y.yN.R (mH (gW h.g) (gH h.g) (et vs h.lv)),y.ev.R⟩,⟨fun w k=>Sh k,fun z=>absurd hok z,fun _=>?_⟩,by rw[h4,hok],?_⟩
   ·refine⟨⟨?_,hinv,OK hP.G hP.n hP.I.q.len hgs,hN2,by rw[aJ,hP.v];rfl,fun k hk=>?_,by show y.tk.length≤_;omega,fun j=>?_,fun j j2 j7=>?_,fun z=>absurd z (kW _)⟩,rfl,⟨y.yN,rfl,fun w k=>M1 hy.ar k⟩,rfl,rfl,fun z=>absurd z (kW n),fun m hm=>?_,?_,hy.kd⟩
    ·exact RJ.add hP.A (by rw[hP.v,hP.n]) rfl rfl hy.ar (by rw[hP.n];omega)
    ·rcases bQ.1 hk with z|z
     ·exact hP.mb k z
     ·have:=bW.1 z;omega
    ·have hz:=FU (es:=y.ev.l.map dD) (kd:=s.kd) (B:=10000*((n+1:Nat):Int)) (fun j=>hP.kb j) j
     show 0≤y.kd j∧y.kd j≤_
     rw[hy.kd]
     rw[ak]at hz
     omega
    ·show y.kd j=_
     rw[hy.kd,MS hk0,hP.K j j2 j7]
     show _=cK (s.E++[y.ev.l.map dD]).flatten j
     rw[List.flatten_append,O8]
     simp
    ·have:m=n:=by omega
     subst this
     exact hev
    ·unfold nxS
     rw[if_neg (kW n)]
     exact htrk
   ·exact IB (A:=tI b h time y.pm y.cm (s.ys++[y.yN]) y.pt y.ct y.kd y.tk y.of) (by rw[dk];exact h5)
 ·have hne:kH h s.la (⟨s.pm,s.ys.length,s.cm⟩:B1).nm time g vs≠0:=by show kH h s.la s.ys.length time g vs≠0;rw[hys];exact hok
  have hs0:Calls af 8 #[.pointer (some ⟨b,0,none⟩),.int .i64 time,.agg #[.int .i64 g.x,.int .i64 g.y,.int .i64 g.size,.int .i64 g.wide,.int .i64 g.high,.slice pv vs.length cv]] w _:=TR b h s.la ⟨s.pm,s.ys.length,s.cm⟩ s.pt s.tk.length s.ct s.kd time g vs pv cv w hb (hvv hh.enter) hne
  refine hs0.mono fun e w' ⟨h1,h2⟩=>⟨⟨s,[],none,0,[],[]⟩,⟨fun w k=>x8 w,fun _=>⟨rfl,rfl⟩,fun z=>absurd z hok⟩,?_,?_⟩
  ·rw[h1]
   show bT (.tuple #[.slice none 0 0,.int .i64 (kH h s.la s.ys.length time g vs)])=_
   rw[hys];rfl
  ·have h3:St ⟨w,mG [bV (s.F b h)]⟩ ([]++[bV (s.F b h)]) w':=hh.enter.call h2
   exact((fJ (Rs:=[]) (fJ (Rs:=[]) h3)).perm (by
    have:[bV [],bV [],bV (s.F b h)].Perm [bV (s.F b h),bV [],bV []]:=iu (l₁:=[_,_])
    exact this))
theorem V0 {W H:Nat} {w:World} {T:Nat} {y:uE} {vs:List Span} {lv:Int} (hp:Ax W H vs lv y) (k:∀r,r∈y.R T→r.inv w):AL w y.p y.l where
 ar:=gh (k (own T 8 y.p y.c (y.l.map di.cells)) (by unfold uE.R;simp))
 px:=fun a ha=>by
  have h1:a.px∈y.rs:=by rw[←hp.px];exact bw ha
  exact gG (k (kZ 3 1 nC y.rs) (by unfold uE.R;simp) _ (bw (f:=fun x:cG Nat=>own 3 1 x.p x.c (x.l.map nC)) h1))
 kr:=fun a ha=>by
  have hb:=(k (bV (L5 y.l)) (by unfold uE.R;simp)).1
  have h1:=hb _ (yq ha).1
  have h2:=hb _ (yq ha).2
  exact⟨gG h1,fun x hx=>by
   have h3:=h2 _ (bw (f:=fun x:cG Nat=>own 3 1 x.p x.c (x.l.map nC)) hx)
   refine⟨?_,gG h3⟩
   have:=h3.1
   rwa [ak]at this⟩
structure YS where
 d:o8
 yN:uE
 ev:qv
 X:List dg
 R:List dg
structure RjP (h:jk) (r:Nat) (la time:Int) (g:eo) (vs:List Span) (V:List (List Span)) (d:o8) (y:YS):Prop where
 rd:∀w:World,(∀r,r∈y.R→r.inv w)→EP w y.ev.p y.ev.l
 no:kH h la d.ti.length time g vs≠0→y.d=d∧y.ev.l=[]
 ok:kH h la d.ti.length time g vs=0→DnP h V vs r time d ⟨y.d,y.yN,y.ev,y.R⟩∧∀w:World,(∀r,r∈y.X→r.inv w)→AL w y.yN.p y.yN.l
theorem VQ (b:Nat) (h:jk) (d:o8) (la:Int) (hL:0<d.ti.length→d.ti.getD (d.ti.length-1) 0=la) (hL0:d.ti.length=0→la= -1) (hN:d.ti.length≤6) (V:List (List Span)) (r:Nat) (time:Int) (g:eo) (vs:List Span) (pv:Option Addr) (cv:Nat) (w:World) (hh:Has w [bV (ug b h d)]) (hvv:∀{L:List dg} {v:World},St ⟨w,mG [bV (ug b h d)]⟩ L v→fL v pv vs) (hal:∀{L:List dg} {v:World},St ⟨w,mG [bV (ug b h d)]⟩ L v→∀y,y∈d.ds→AL v y.p y.l) (hdn:d.ds.length=d.ti.length) (hen:d.es.length=d.ti.length) (hV:XI h V r d) (hlv:1≤h.lv∧h.lv≤1073741824) (hd:u0 w b h d):
  Calls af 9 #[.pointer (some ⟨b,0,none⟩),.int .i64 time,.agg #[.int .i64 g.x,.int .i64 g.y,.int .i64 g.size,.int .i64 g.wide,.int .i64 g.high,.slice pv vs.length cv]] w fun e w'=>∃y:YS,RjP h r la time g vs V d y∧e= .returned (.tuple #[.slice y.ev.p y.ev.l.length y.ev.c,.int .i64 (kH h la d.ti.length time g vs)])∧St ⟨w,mG [bV (ug b h d)]⟩ [bV (ug b h y.d),bV y.X,bV y.R] w':=by
 have hF:Has w (ug b h d):=by
  have z:=Has.Tw (R:=[]) hh
  rw[ew]at z
  exact z
 by_cases hok:kH h la d.ti.length time g vs=0
 ·obtain⟨_,rfl,_⟩:=El hok
  have hfp:mG [bV (ug b h d)]=mG (ug b h d):=If
  rw[hfp]at hvv hal ⊢
  refine(Ru b h d la hL hL0 hN V r time vs pv cv w hF hvv hal hdn hen hV hok hlv).mono fun e w' ⟨y,h1,h2,h3⟩=>⟨⟨y.d,y.yN,y.ev,y.yN.R 159,y.X⟩,⟨h1.rd,fun z=>absurd hok z,fun _=>⟨h1,fun w k=>V0 h1.ar k⟩⟩,by rw[h2,hok],?_⟩
  exact fJ (Rs:=ug b h y.d) (L:=[bV (y.yN.R 159),bV y.X]) h3
 ·refine(WV b h d la hL hL0 hN time g vs pv cv w hd (hvv hh.enter) hok).mono fun e w' ⟨h1,h2⟩=>⟨⟨d,⟨[],none,0,[]⟩,⟨[],none,0⟩,[],[]⟩,⟨fun w k=>x8 w,fun _=>⟨rfl,rfl⟩,fun z=>absurd z hok⟩,?_,?_⟩
  ·rw[h1];rfl
  ·have h3:St ⟨w,mG [bV (ug b h d)]⟩ ([]++[bV (ug b h d)]) w':=hh.enter.call h2
   exact((fJ (Rs:=[]) (fJ (Rs:=[]) h3)).perm (by
    have:[bV [],bV [],bV (ug b h d)].Perm [bV (ug b h d),bV [],bV []]:=iu (l₁:=[_,_])
    exact this))
theorem Al.XO {w:World} {b:Nat} {h:jk} {s:oM} (k:∀r,r∈s.F b h→r.inv w):Al w b h s where
 c:=by
  have z:=k (gq b (.cells (uO h s.la ⟨s.pm,s.ys.length,s.cm⟩ s.pt s.tk.length s.ct s.kd).toArray 85)) (by unfold oM.F tI;simp)
  have y:=dQ z
  simpa using y
 tk:=gh (k (own 76 6 s.pt s.ct (s.tk.map cH.cells)) (by unfold oM.F tI;simp))
 ti:=fun t ht=>⟨gh ((k (bV (s.tk.map cH.aR)) (by unfold oM.F tI;simp)).1 _ (bw (f:=cH.aR) ht)),gh ((k (bV (s.tk.map cH.pR)) (by unfold oM.F tI;simp)).1 _ (bw (f:=cH.pR) ht)),gh ((k (bV (s.tk.map cH.cR)) (by unfold oM.F tI;simp)).1 _ (bw (f:=cH.cR) ht))⟩
 of:=k (jr Ay vZ h.bm (qK s.of)) (by unfold oM.F tI;simp)
theorem MK {w:World} {b:Nat} {h:jk} {s:oM} (k:∀r,r∈s.F b h→r.inv w):RO 7 (Sg h.g) w s.pm s.ys:=gh (k (own 92 7 s.pm s.cm (s.ys.map (Sg h.g))) (by unfold oM.F tI;simp))
theorem u0.mk' {w:World} {b:Nat} {h:jk} {d:o8} (k:∀r,r∈ug b h d→r.inv w) (ka:∀y,y∈d.ds→AL w y.p y.l) (ke:∀y,y∈d.es→EP w y.p y.l):u0 w b h d where
 c:=by
  have z:=k (gq b (.cells (YJ h d).toArray 89)) (by unfold ug;simp)
  have y:=dQ z
  simpa using y
 ti:=gh (k (own 3 1 d.tp d.tc (d.ti.map iC)) (by unfold ug;simp))
 ds:=gh (k (own 101 1 d.ap d.ac (d.ds.map dsC)) (by unfold ug;simp))
 es:=gh (k (own 42 1 d.ep d.ec (d.es.map esC)) (by unfold ug;simp))
 ar:=ka
 ev:=ke
structure WB (h:jk) (r:Nat) (s:oM) (V:List (List Span)) (d:o8):Prop where
 P:FB s.E s.Ms (s.tk.map dG) s.of d
 V:XI h V r d
 L:0<d.ti.length→d.ti.getD (d.ti.length-1) 0=s.la
 L0:d.ti.length=0→s.la= -1
theorem TY {g:eo} {vs:List Span} {lv:Int} {y:uE} (h:Ax (gW g) (gH g) vs lv y):y.l.length=nP g vs lv:=by
 have:=congrArg dv h.m
 rw[ak]at this
 rw[this];unfold kL nP;rw[ak]
theorem KL.of {n m:Nat} {y:qv} (h:iq n m (y.l.map dD)) (hn:n≤4096) (hm:m≤4096):KL y:=by
 have h1:=h.Q9
 rw[ak]at h1
 exact⟨by omega,fun e he=>by have z:e.f.length≤n:=(h.Ot (bw (f:=dD) he)).1;omega,fun e he=>by have z:e.t.length≤m:=(h.Ot (bw (f:=dD) he)).2;omega⟩
theorem WB.add {h:jk} {r N:Nat} {s:oM} {V:List (List Span)} {d:o8} {vs:List Span} {time:Int} {ya:U8} {yd:DnY} (hl:WB h r s V d) (hp:Qu h r N s V) (hN:N≤6) (ha:AjO h r N time vs s V ya) (hd:DnP h V vs r time d yd):WB h r ya.s (V++[vs]) yd.d∧ya.ev.map dD=yd.ev.m:=by
 have hle:gW h.g*gH h.g≤4096:=iM hp.A.g
 have hdl:d.ds.length=N:=by rw[hl.P.A.n,hp.n]
 have htl:d.ti.length=N:=by rw[hl.P.ti,hp.n]
 have hel:d.es.length=N:=by have:=hp.I.q.len;rw[←hl.P.ev,ak]at this;rw[this,hp.n]
 have hyN:yd.yN.l.length=nP h.g vs h.lv:=TY hd.ar
 have hnP:nP h.g vs h.lv≤4096:=Ih hle
 have eev:ya.ev.map dD=yd.ev.m:=by
  by_cases q:N=0
  ·rw[ha.YH q];unfold qv.m;rw[hd.YH (by omega)]
  ·obtain⟨n,rfl⟩:∃n,N=n+1:=⟨N-1,by omega⟩
   obtain⟨yP,hyP⟩:=du (l:=d.ds) (n:=n) (by omega)
   have z:=hd.ev n yP htl hyP
   rw[hyN,TY (hl.V.ar n yP hyP)]at z
   exact Oy (ha.ev n rfl) z
 have hB:KL yd.ev:=by
  by_cases q:N=0
  ·have e0:=hd.YH (by omega)
   exact⟨by rw[e0];exact aY _,fun e he=>(by rw[e0]at he;cases he),fun e he=>(by rw[e0]at he;cases he)⟩
  ·obtain⟨n,rfl⟩:∃n,N=n+1:=⟨N-1,by omega⟩
   have z:=(ha.ev n rfl).Kf
   rw[eev]at z
   exact KL.of z (Ih hle) hnP
 have hP2:=ha.P
 refine⟨⟨⟨hP2.I,?_,?_,hP2.A.ms,⟨?_,?_,?_⟩,?_,hP2.G,?_,hP2.mb⟩,⟨hl.V.g,?_,hl.V.rc,hl.V.r8⟩,?_,?_⟩,eev⟩
 ·rw[hd.es,bG,hl.P.ev,ha.E,eev];rfl
 ·intro y hy
  rw[hd.es]at hy
  rcases bQ.1 hy with z|z
  ·exact hl.P.B y z
  ·rw[bW.1 z];exact hB
 ·rw[hd.ds,ha.Ms,aJ,aJ,hl.P.A.n];rfl
 ·intro n y hy
  rw[hd.ds]at hy
  rw[ha.Ms]
  have hyl:=(an.1 hy).1
  rw[aJ,bu]at hyl
  by_cases q:n<d.ds.length
  ·rw[aV q]at hy
   rw[nD (by rw[hp.n];omega)]
   exact hl.P.A.m n y hy
  ·rw[bJ (by omega),show n-d.ds.length=0 by omega]at hy
   have:=eI hy
   subst this
   rw[show n=s.Ms.length by rw[hp.n];omega,ki]
   exact hyN
 ·intro n y hy
  rw[hd.ds]at hy
  have hym:=al hy
  rcases bQ.1 hym with z|z
  ·obtain⟨k,hk⟩:=List.mem_iff_getElem?.1 z
   exact hl.P.A.b k y hk
  ·rw[bW.1 z,hyN];exact hnP
 ·rw[ak];have:=hP2.tk;omega
 ·rw[hd.ti,aJ,hP2.n,htl];rfl
 ·intro n y hy
  rw[hd.ds]at hy
  have hyl:=(an.1 hy).1
  rw[aJ,bu]at hyl
  by_cases q:n<d.ds.length
  ·rw[aV q]at hy
   rw[F7 (by rw[hp.v];omega)]
   exact hl.V.ar n y hy
  ·rw[bJ (by omega),show n-d.ds.length=0 by omega]at hy
   have:=eI hy
   subst this
   rw[Ff (by rw[hp.v];omega)]
   exact hd.ar
 ·intro _
  rw[hd.ti,ha.la,aJ,bu,Nat.add_sub_cancel]
  exact ki
 ·intro z
  rw[hd.ti,aJ]at z
  simp at z
def L3 (h:jk) (y:Wa):jk:={ h with bm:=y.bm }
def Qj (s:oM) (y:Wa):oM:={ s with pm:=y.pm,cm:=y.cm,pt:=y.pt,ct:=y.ct,tk:=y.tk }
theorem U4 (b:Nat) (h:jk) (s:oM) (V:List (List Span)) (r N:Nat) (w:World) (k:∀r,r∈s.F b h→r.inv w) (hP:Qu h r N s V) (hN:N≤6):
  Calls af 7 #[.pointer (some ⟨b,0,none⟩)] w fun e w'=>∃y:Wa,y.tk.map dG=s.tk.map dG∧e= .returned (.pointer (some ⟨y.b,0,none⟩))∧St (bs w) [bV ((Qj s y).F y.b (L3 h y))] w':=by
 have htk:=hP.tk
 have hms:=hP.A.ms
 refine(VM b h s w (Al.XO k) (MK k) (by rw[hP.A.n];omega) (Wx.of hP.I hms (by omega)) (by omega)).mono fun e w' ⟨y,h1,h2,h3⟩=>⟨y,h1,h2,?_⟩
 exact fJ (Rs:=(Qj s y).F y.b (L3 h y)) (L:=[]) (by rw[ew];exact h3)
theorem Qu.cp {h:jk} {r N:Nat} {s:oM} {V:List (List Span)} {y:Wa} (hP:Qu h r N s V) (hy:y.tk.map dG=s.tk.map dG):Qu (L3 h y) r N (Qj s y) V where
 A:=⟨hP.A.g,hP.A.n,hP.A.ar,hP.A.rc,hP.A.r8,hP.A.ms⟩
 I:=by show iF s.E s.Ms (y.tk.map dG) s.of;rw[hy];exact hP.I
 G:=hP.G
 n:=hP.n
 v:=hP.v
 mb:=hP.mb
 tk:=by have z:=congrArg dv hy;rw[ak,ak]at z;show y.tk.length≤_;rw[z];exact hP.tk
 kb:=hP.kb
 K:=hP.K
 la:=hP.la
theorem WB.cp {h:jk} {r:Nat} {s:oM} {V:List (List Span)} {d:o8} {y:Wa} (hl:WB h r s V d) (hy:y.tk.map dG=s.tk.map dG):WB (L3 h y) r (Qj s y) V d where
 P:=by show FB s.E s.Ms (y.tk.map dG) s.of d;rw[hy];exact hl.P
 V:=⟨hl.V.g,hl.V.ar,hl.V.rc,hl.V.r8⟩
 L:=hl.L
 L0:=hl.L0
theorem Qu.bk {h:jk} {r N:Nat} {s:oM} {V:List (List Span)} (hP:Qu h r N s V) (hN:N≤7):Y4 s (s.tk.map dG):=⟨rfl,hP.I,by have:=hP.tk;omega⟩
structure L9 (h:jk) (r i N:Nat) (s:oM) (V:List (List Span)) (XA:List dg) (d:o8) (XD:List dg):Prop where
 le:N≤i
 P:Qu h r N s V
 xa:∀w:World,(∀r,r∈XA→r.inv w)→∀(n:Nat) (y:oV),s.ys[n]? =some y→vO w y (mH (gW h.g) (gH h.g) (et (V.getD n []) h.lv))
 D:WB h r s V d
 xd:∀w:World,(∀r,r∈XD→r.inv w)→(∀y,y∈d.ds→AL w y.p y.l)∧∀y,y∈d.es→EP w y.p y.l
structure WI where
 t:Int
 g:eo
 p:Option Addr
 c:Nat
 vs:List Span
abbrev WM (x:WI):List Value:=[.int .i64 x.t,.int .i64 x.g.x,.int .i64 x.g.y,.int .i64 x.g.size,.int .i64 x.g.wide,.int .i64 x.g.high,.slice x.p x.vs.length x.c]
theorem Jn {h:jk} {r i N:Nat} {s:oM} {V:List (List Span)} {XA:List dg} {d:o8} {XD:List dg} {time:Int} {g:eo} {vs:List Span} {ya:U8} {yd:YS} (hi:L9 h r i N s V XA d XD) (hN:i≤6) (ha:AjP h r N time g vs s V ya) (hd:RjP h r s.la time g vs V d yd) (ht:d.ti.length=N):
  ∃N2 V2,L9 h r (i+1) N2 ya.s V2 (XA++ya.X) yd.d (XD++(yd.X++yd.R))∧ya.ev.map dD=yd.ev.m∧N2≤7∧(N2=N∧V2=V∧kH h s.la N time g vs≠0∨N2=N+1∧V2=V++[vs]∧kH h s.la N time g vs=0):=by
 have hNi:=hi.le
 by_cases q:kH h s.la N time g vs=0
 ·have ao:=ha.ok q
  obtain⟨dn,hal⟩:=hd.ok (by rw[ht];exact q)
  obtain⟨hl,he⟩:=hi.D.add hi.P (by omega) ao dn
  obtain⟨yN,hys,hsp⟩:=ao.ys
  refine⟨N+1,V++[vs],⟨by omega,ao.P,fun w k n y hy=>?_,hl,fun w k=>?_⟩,he,by omega,.inr ⟨rfl,rfl,q⟩⟩
  ·rw[hys]at hy
   have hyl:=(an.1 hy).1
   rw[aJ,bu]at hyl
   have hyn:s.ys.length=N:=by rw[hi.P.A.n,hi.P.n]
   by_cases c:n<s.ys.length
   ·rw[aV c]at hy
    rw[F7 (by rw[hi.P.v];omega)]
    exact hi.xa w (fun r hr=>k r (dt _ hr)) n y hy
   ·rw[bJ (by omega),show n-s.ys.length=0 by omega]at hy
    have:=eI hy
    subst this
    rw[Ff (by rw[hi.P.v];omega)]
    exact hsp w (fun r hr=>k r (fe _ hr))
  ·obtain⟨h1,h2⟩:=hi.xd w (fun r hr=>k r (dt _ hr))
   have e1:yd.d.ds=d.ds++[yd.yN]:=dn.ds
   have e2:yd.d.es=d.es++[yd.ev]:=dn.es
   refine⟨fun y hy=>?_,fun y hy=>?_⟩
   ·rw[e1]at hy
    rcases bQ.1 hy with z|z
    ·exact h1 y z
    ·rw[bW.1 z];exact hal w (fun r hr=>k r (fe _ (dt _ hr)))
   ·rw[e2]at hy
    rcases bQ.1 hy with z|z
    ·exact h2 y z
    ·rw[bW.1 z];exact hd.rd w (fun r hr=>k r (fe _ (fe _ hr)))
 ·obtain⟨e1,e2⟩:=ha.no q
  obtain⟨e3,e4⟩:=hd.no (by rw[ht];exact q)
  refine⟨N,V,⟨by omega,by rw[e1];exact hi.P,fun w k=>by rw[e1];exact hi.xa w (fun r hr=>k r (dt _ hr)),by rw[e1,e3];exact hi.D,fun w k=>by rw[e3];exact hi.xd w (fun r hr=>k r (dt _ hr))⟩,by rw[e2];unfold qv.m;rw[e4],by omega,.inl ⟨rfl,rfl,q⟩⟩
theorem SH {h:jk} {r i N:Nat} {s:oM} {V:List (List Span)} {XA:List dg} {d:o8} {XD:List dg} {time:Int} {g:eo} {vs:List Span} {yc:Wa} {ya:U8} {yd:YS} (hi:L9 h r i N s V XA d XD) (hN:i≤6) (hy:yc.tk.map dG=s.tk.map dG) (ha:AjP (L3 h yc) r N time g vs (Qj s yc) V ya) (hd:RjP h r s.la time g vs V d yd) (ht:d.ti.length=N):
  ∃N2 V2,L9 (L3 h yc) r (i+1) N2 ya.s V2 (XA++ya.X) yd.d (XD++(yd.X++yd.R))∧ya.ev.map dD=yd.ev.m∧N2≤7∧(N2=N∧V2=V∧kH h s.la N time g vs≠0∨N2=N+1∧V2=V++[vs]∧kH h s.la N time g vs=0):=
 Jn (h:=L3 h yc) (s:=Qj s yc) ⟨hi.le,hi.P.cp hy,hi.xa,hi.D.cp hy,hi.xd⟩ hN ha ⟨hd.rd,hd.no,fun q=>⟨⟨(hd.ok q).1.ar,(hd.ok q).1.ti,(hd.ok q).1.ds,(hd.ok q).1.es,(hd.ok q).1.YH,(hd.ok q).1.ev,(hd.ok q).1.rd⟩,(hd.ok q).2⟩⟩ ht
theorem MM (b:Nat) (h:jk) (r i N:Nat) (s:oM) (V:List (List Span)) (XA:List dg) (bd:Nat) (d:o8) (XD:List dg) (hi:L9 h r i N s V XA d XD) (hN:N≤7) (w:World) (kF:∀r,r∈s.F b h→r.inv w) (kX:∀r,r∈XA→r.inv w) (kD:∀r,r∈ug bd h d→r.inv w) (kE:∀r,r∈XD→r.inv w):
  Calls af 11 #[.pointer (some ⟨b,0,none⟩),.pointer (some ⟨bd,0,none⟩)] w fun e w'=>e= .returned (.bool true)∧St (bs w) [] w':=
 VU b h s V r (s.tk.map dG) (hi.P.bk hN) hi.P.A bd d hi.D.P hi.D.V hi.P.K w (Al.XO kF) ⟨MK kF,hi.xa w kX⟩ (u0.mk' kD (hi.xd w kE).1 (hi.xd w kE).2)
theorem Nn {la:List db} {y:qv} (pa:Option Addr) (ca:Nat) (w:World) (ha:EP w pa la) (hb:EP w y.p y.l) (hE:la.map dD=y.m) (hB:KL y):Calls af 10 #[.slice pa la.length ca,.slice y.p y.l.length y.c] w fun e w'=>e= .returned (.bool true)∧St (bs w) [] w':=by
 have hl:la.length=y.l.length:=by have z:=congrArg dv hE;unfold qv.m at z;rw[ak,ak]at z;exact z
 refine Wv la y.l pa ca y.p y.c w ha hb hE (by rw[hl];exact hB.n) (fun e he=>?_)
 have hm:e.m∈y.l.map dD:=by have z:y.l.map dD=la.map dD:=hE.symm;rw[z];exact bw he
 obtain⟨e2,h1,h2⟩:=List.mem_map.1 hm
 have f1:e2.f=e.f:=congrArg gF.f h2
 have f2:e2.t=e.t:=congrArg gF.t h2
 exact⟨by rw[←f1];exact hB.f e2 h1,by rw[←f2];exact hB.t e2 h1⟩
end Go.Proofs.YtgemekpofpoopaaGreat
