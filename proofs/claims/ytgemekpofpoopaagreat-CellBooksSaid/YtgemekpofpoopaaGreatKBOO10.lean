/-
  CellBooks.
  CellBooks, whatever is handed.
  What a reading says of the law's arguments.
-/
import Derived.Test.YtgemekpofpoopaaGreatKBOO09
open Go.Proofs.Tryz renaming prog→af,underlying24→od,underlying37→q9,func3→tH
open Nat renaming zero_le→aY
open Go.SL.VC renaming q→au,seq→av,cond→ay,skip→aE
open Go.SL.VO renaming h→aB,a→ax,n→aq,m→ag,l→ah,gf→aK
open Go.SL.LO renaming len→bE,call→bK,fT→aX,ex→cU,mv→aS,iy→bM,fa→aP,jZ→cD
open Go.SL.VE renaming dB→bA,aU→aj
open Go.SL.HO renaming lo→aW
open Go.Proofs.YtgemekpofpoopaaGreat.RO renaming jX→cY
open Go.SL.LX renaming m→cT,l→aG
open Go.SL.HX renaming s→az
open Go.SL.St renaming fz→iH
open Go.SL.LL renaming l→bl
open List renaming mem_append→bQ

set_option linter.unusedSimpArgs false
set_option maxRecDepth 20000
set_option maxHeartbeats 8000000
namespace Go.Proofs.YtgemekpofpoopaaGreat
open Go.SL Go.Proofs Go.sM Go.Cell
set_option linter.unusedVariables false
theorem ML:ee af 24 37:=od
theorem C4:fh af 4:=⟨_,Tryz.func4,by decide,rfl⟩
theorem C6:fh af 6:=⟨_,Tryz.func6,by decide,rfl⟩
theorem W4:(af.info? 37).map (·.size)=some 7:=by kernel_rfl
theorem IK:cP af 37 1 1:=⟨_,_,q9,rfl,rfl,5,by kernel_rfl⟩
theorem C7:fh af 7:=⟨_,Tryz.func7,by decide,rfl⟩
theorem N0:cP af 37 0 0:=⟨_,_,q9,rfl,rfl,0,by kernel_rfl⟩
theorem C9:fh af 9:=⟨_,Tryz.func9,by decide,rfl⟩
theorem C10:fh af 10:=⟨_,Tryz.func10,by decide,rfl⟩
theorem C11:fh af 11:=⟨_,Tryz.func11,by decide,rfl⟩
theorem C12:fh af 12:=⟨_,Tryz.func12,by decide,rfl⟩
theorem C13:fh af 13:=⟨_,Tryz.func13,by decide,rfl⟩
theorem zi {β:Bs} {X XA L:List dg} {w:World} (h:St β (bV X::bV XA::L) w):St β (bV (XA++X)::L) w:=St.Cj (St.uk h)
theorem R4 {h:jk} {r i N:Nat} {s:oM} {V:List (List Span)} {XA:List dg} {d:o8} {XD:List dg} {time:Int} {g:eo} {vs:List Span} {ya:U8} {yd:YS} (hi:L9 h r i N s V XA d XD) (hN:i≤6) (ha:AjP h r N time g vs s V ya) (hd:RjP h r s.la time g vs V d yd) (ht:d.ti.length=N):KL yd.ev:=by
 have hNi:=hi.le
 by_cases q:kH h s.la N time g vs=0
 ·obtain⟨dn,hal⟩:=hd.ok (by rw[ht];exact q)
  obtain⟨hl,he⟩:=hi.D.add hi.P (by omega) (ha.ok q) dn
  have e2:yd.d.es=d.es++[yd.ev]:=dn.es
  exact hl.P.B yd.ev (by rw[show(⟨yd.d,yd.yN,yd.ev,yd.R⟩:DnY).d.es=yd.d.es from rfl,e2];simp)
 ·obtain⟨e3,e4⟩:=hd.no (by rw[ht];exact q)
  exact⟨by rw[e4];exact aY _,fun e he=>(by rw[e4]at he;cases he),fun e he=>(by rw[e4]at he;cases he)⟩
theorem L9.zero {g:eo} {lv rc:Int} {bm r:Nat} (hg:dH g) (hr:rc=(r:Int)) (h8:r≤8):L9 ⟨g,lv,rc,bm⟩ r 0 0 (bk0 ⟨g,lv,rc,bm⟩) [] [] d0 [] where
 le:=Nat.le_refl _
 P:=⟨⟨hg,rfl,fun n y hn=>(by cases hn),hr,h8,aY _⟩,iF.zero,⟨fun n hn=>absurd hn (Nat.not_lt_zero _)⟩,rfl,rfl,fun m hm=>(by cases hm),aY _,fun j=>⟨Int.le_refl _,Int.le_refl _⟩,fun j _ _=>rfl,fun _=>rfl⟩
 xa:=fun w _ n y hn=>(by cases hn)
 D:=⟨⟨iF.zero,rfl,fun y hy=>(by cases hy),aY _,⟨rfl,fun n y hn=>(by cases hn),fun n y hn=>(by cases hn)⟩,aY _,⟨fun n hn=>absurd hn (Nat.not_lt_zero _)⟩,rfl,fun m hm=>(by cases hm)⟩,⟨hg,fun n y hn=>(by cases hn),hr,h8⟩,fun z=>absurd z (Nat.lt_irrefl 0),fun _=>rfl⟩
 xd:=fun w _=>⟨fun y hy=>(by cases hy),fun y hy=>(by cases hy)⟩
theorem KW (g:eo) (lv rc:Int) (w:World) (hok:mO g lv rc=0):Calls af 5 #[lL g,.int .i64 lv,.int .i64 rc] w fun e w'=>∃y:Nat×Nat,True∧e= .returned (.tuple #[.pointer (some ⟨y.1,0,none⟩),.int .i64 0])∧St (bs w) [bV ((bk0 ⟨g,lv,rc,y.2⟩).F y.1 ⟨g,lv,rc,y.2⟩)] w':=by
 refine(yY g lv rc w hok).mono fun e w' ⟨y,_,h2,h3⟩=>⟨y,trivial,h2,?_⟩
 have h1:=St.Cq (St.Cq ((St.Cq (h3.fX 76 6)).fX 92 7))
 have h4:=dq (L1:=[_,_,_,_,_,_,_]) [5,4,3,6,2,1,0] rfl rfl _ h1
 exact St.bV (Rs:=(bk0 ⟨g,lv,rc,y.2⟩).F y.1 ⟨g,lv,rc,y.2⟩) (L:=[]) (by rw[List.append_nil];exact h4)
theorem Gd (g:eo) (lv rc:Int) (bm:Nat) (w:World) (hok:mO g lv rc=0):Calls af 6 #[lL g,.int .i64 lv,.int .i64 rc] w fun e w'=>∃b:Nat,True∧e= .returned (.tuple #[.pointer (some ⟨b,0,none⟩),.int .i64 0])∧St (bs w) [bV (ug b ⟨g,lv,rc,bm⟩ d0)] w':=by
 refine(C2 g lv rc w hok).mono fun e w' ⟨b,_,h2,h3⟩=>⟨b,trivial,h2,?_⟩
 exact St.bV (Rs:=ug b ⟨g,lv,rc,bm⟩ d0) (L:=[]) (db0 (h:=⟨g,lv,rc,bm⟩) h3)
theorem L9.tn {h:jk} {r i N:Nat} {s:oM} {V:List (List Span)} {XA:List dg} {d:o8} {XD:List dg} (hi:L9 h r i N s V XA d XD):d.ti.length=N∧d.ds.length=d.ti.length∧d.es.length=d.ti.length:=by
 have h1:=hi.D.P.ti
 have h2:=hi.P.n
 have h3:=hi.D.P.A.n
 have h4:=hi.P.I.q.len
 rw[←hi.D.P.ev,List.length_map]at h4
 omega
theorem DM (g:eo) (lv rc:Int) (l:List WI) (pl:Option Addr) (cl:Nat) (nn mm:Int) (w:World) (hl:RO 7 WM w pl l) (hls:∀x,x∈l→fL w x.p x.vs) (hrn: -9223372036854775808≤nn∧nn≤9223372036854775807) (hlen:6<l.length):
 Calls af 3 #[lL g,.int .i64 lv,.int .i64 rc,.slice pl l.length cl,.int .i64 nn,.int .i64 mm] w fun e w'=>e= .returned (.bool true)∧St (bs w) [] w':=by
 refine enter (vs:=[_,_,_,_,_,_]) (env:=[(0,_),(1,_),(2,_),(3,_),(4,_),(5,_)]) tH rfl rfl rfl rfl ?_
 refine au (aB rfl<|HO.box (C:=#[_,_,_,_,_]) rfl rfl fun b1=>ax rfl<|aq<|av<|au (ag rfl<|ah (bE ML (.r rfl) rfl) rfl<|ah (LO.gt (.r rfl) (.r rfl)) rfl<|aq ?_))
 refine ay rfl (fun h29=>?_) (fun h29=>?_)
 ·
  refine au (ah (bK (xs:=[]) (vs:=[]) C4 trivial (fun w2 _=>x3 w2)) rfl<|ax rfl<|aq<|VC.ret (bA (VE.s rfl rfl (fun w hw=>?_))))
  exact⟨rfl,hw.nil⟩
 · (exfalso;omega)
theorem Ed (g:eo) (lv rc:Int) (l:List WI) (pl:Option Addr) (cl:Nat) (nn mm:Int) (w:World) (hl:RO 7 WM w pl l) (hls:∀x,x∈l→fL w x.p x.vs) (hrn: -9223372036854775808≤nn∧nn≤9223372036854775807) (hlen:l.length≤6) (hne:mO g lv rc≠0):
 Calls af 3 #[lL g,.int .i64 lv,.int .i64 rc,.slice pl l.length cl,.int .i64 nn,.int .i64 mm] w fun e w'=>e= .returned (.bool true)∧St (bs w) [] w':=by
 refine enter (vs:=[_,_,_,_,_,_]) (env:=[(0,_),(1,_),(2,_),(3,_),(4,_),(5,_)]) tH rfl rfl rfl rfl ?_
 refine au (aB rfl<|HO.box (C:=#[_,_,_,_,_]) rfl rfl fun b1=>ax rfl<|aq<|av<|au (ag rfl<|ah (bE ML (.r rfl) rfl) rfl<|ah (LO.gt (.r rfl) (.r rfl)) rfl<|aq ?_))
 refine ay rfl (fun h29=>?_) (fun h29=>?_)
 · (exfalso;omega)
 ·
  refine aE (aj<|au (ah (aX (vs:=[_,_,_,_,_]) qw (.r rfl) (aF 0 rfl ⟨_,rfl⟩) rfl) rfl<|ag rfl<|ag rfl<|ah (bK (xs:=[_,_,_]) (vs:=[_,_,_]) C5 ⟨(.r rfl),(.r rfl),(.r rfl),trivial⟩ (fun w2 _=>Lb g lv rc w2 hne)) rfl<|ag rfl<|ah (cU (.r rfl) rfl) rfl<|ah (cU (.r rfl) rfl) rfl<|ax rfl<|ax rfl<|aq<|au (ah (aX (vs:=[_,_,_,_,_]) qw (.r rfl) (aF 0 rfl ⟨_,rfl⟩) rfl) rfl<|ag rfl<|ag rfl<|ah (bK (xs:=[_,_,_]) (vs:=[_,_,_]) C6 ⟨(.r rfl),(.r rfl),(.r rfl),trivial⟩ (fun w2 _=>Fj g lv rc w2 hne)) rfl<|ag rfl<|ah (cU (.r rfl) rfl) rfl<|ah (cU (.r rfl) rfl) rfl<|ax rfl<|ax rfl<|aq ?_)))
  refine av<|au (ag rfl<|ag rfl<|VO.u rfl<|aq<|ay rfl (fun h47=>?_) (fun h47=>?_))
  · (exfalso;exact h47 rfl)
  ·
   refine aE (aj<|av<|au (ag rfl<|VO.u rfl<|aq<|ay rfl (fun h49=>?_) (fun h49=>?_)))
   ·
    refine au (ah (bK (xs:=[]) (vs:=[]) C4 trivial (fun w2 _=>x3 w2)) rfl<|ax rfl<|aq<|VC.ret (bA (VE.s rfl rfl (fun w hw=>?_))))
    exact⟨rfl,hw.nil⟩
   · (exfalso;exact h49 hne)
theorem CX (g:eo) (lv rc:Int) (l:List WI) (pl:Option Addr) (cl:Nat) (nn mm:Int) (w:World) (hl:RO 7 WM w pl l) (hls:∀x,x∈l→fL w x.p x.vs) (hrn: -9223372036854775808≤nn∧nn≤9223372036854775807) (hlen:l.length≤6) (hok:mO g lv rc=0):
 Calls af 3 #[lL g,.int .i64 lv,.int .i64 rc,.slice pl l.length cl,.int .i64 nn,.int .i64 mm] w fun e w'=>e= .returned (.bool true)∧St (bs w) [] w':=by
 obtain⟨hgr,hlv1,hlv2,hrc0,hrc8⟩:=yX hok
 obtain⟨r,hr⟩:∃r:Nat,rc=(r:Int):=⟨rc.toNat,by omega⟩
 have hr8:r≤8:=by omega
 refine enter (vs:=[_,_,_,_,_,_]) (env:=[(0,_),(1,_),(2,_),(3,_),(4,_),(5,_)]) tH rfl rfl rfl rfl ?_
 refine au (aB rfl<|HO.box (C:=#[_,_,_,_,_]) rfl rfl fun b1=>ax rfl<|aq<|av<|au (ag rfl<|ah (bE ML (.r rfl) rfl) rfl<|ah (LO.gt (.r rfl) (.r rfl)) rfl<|aq ?_))
 refine ay rfl (fun h29=>?_) (fun h29=>?_)
 · (exfalso;omega)
 ·
  refine aE (aj<|au (ah (aX (vs:=[_,_,_,_,_]) qw (.r rfl) (aF 0 rfl ⟨_,rfl⟩) rfl) rfl<|ag rfl<|ag rfl<|aB rfl<|HO.eS (xs:=[_,_,_]) (vs:=[_,_,_]) C5 ⟨(.r rfl),(.r rfl),(.r rfl),trivial⟩ (fun w2 _=>KW g lv rc w2 hok) fun yb _=>aB rfl<|aW (aS (.r rfl))<|aB rfl<|aW (cU (.r rfl) rfl)<|aB rfl<|aW (cU (.r rfl) rfl)<|aB rfl<|aW (LO.as (.r rfl))<|aB rfl<|aW (LO.as (.r rfl))<|aq<|au (ah (aX (vs:=[_,_,_,_,_]) qw (.r rfl) (aF 1 rfl ⟨_,rfl⟩) rfl) rfl<|ag rfl<|ag rfl<|aB rfl<|HO.eS (xs:=[_,_,_]) (vs:=[_,_,_]) C6 ⟨(.r rfl),(.r rfl),(.r rfl),trivial⟩ (fun w2 _=>Gd g lv rc yb.2 w2 hok) fun bd _=>aB rfl<|aW (aS (.r rfl))<|aB rfl<|aW (cU (.r rfl) rfl)<|aB rfl<|aW (cU (.r rfl) rfl)<|aB rfl<|aW (LO.as (.r rfl))<|aB rfl<|aW (LO.as (.r rfl))<|aq ?_)))
  refine av<|au (ag rfl<|ag rfl<|VO.u rfl<|aq<|ay rfl (fun h47=>?_) (fun h47=>?_))
  · (exfalso;exact h47 rfl)
  ·
   refine aE (aj<|av<|au (ag rfl<|VO.u rfl<|aq<|ay rfl (fun h49=>?_) (fun h49=>?_)))
   · (exfalso;exact h49 rfl)
   ·
    obtain⟨h,hh⟩:∃h:jk,h=⟨g,lv,rc,yb.2⟩:=⟨_,rfl⟩
    rw[←hh]
    have hlv:1≤h.lv∧h.lv≤1073741824:=by rw[hh];exact⟨hlv1,hlv2⟩
    refine aE (aj<|av<|au (ax rfl<|aq<|VC.block<|VC.perm [1,0,2] rfl ?_))
    refine VC.eg (α:=Nat×Nat×oM×(List (List Span))×(List dg)×o8×(List dg)) 2 (fun gx=>[(17,.int .i64 (gx.1:Nat))]) [(3,_),(4,_),(5,_),(13,_),(15,_)] (fun gx=>[bV (gx.2.2.1.F yb.1 h),bV gx.2.2.2.2.1,bV (ug bd h gx.2.2.2.2.2.1),bV gx.2.2.2.2.2.2]) (fun gx=>gx.1≤l.length∧L9 h r gx.1 gx.2.1 gx.2.2.1 gx.2.2.2.1 gx.2.2.2.2.1 gx.2.2.2.2.2.1 gx.2.2.2.2.2.2) (fun gx=>l.length-gx.1) (0,0,(bk0 h),[],[],d0,[]) (by exact⟨aY _,by rw[hh];exact L9.zero hgr hr hr8⟩) (.c4 rfl rfl rfl rfl (.cons rfl (.cons rfl .nil))) (fun _ h=>((St.bV (Rs:=[]) (St.bV (Rs:=[]) h))).gY [2,0,3,1,4] rfl) ?_
    rintro ⟨i,N,s,V,XA,d,XD⟩ ⟨hi,hLw⟩
    show VC _ _ _ _ _ ([(17,.int .i64 (i:Nat))]++_) ([bV (s.F yb.1 h),bV XA,bV (ug bd h d),bV XD]++_) _ _
    dsimp only at hi hLw
    obtain⟨ht1,ht2,ht3⟩:=hLw.tn
    have hNi:=hLw.le
    refine av<|au (ag rfl<|ag rfl<|ah (bE ML (.r rfl) rfl) rfl<|VO.t rfl<|aq<|ay rfl (fun h54=>?_) (fun h54=>?_))
    ·
     obtain⟨x,hx⟩:=du (l:=l) (n:=i) (by omega)
     have hxm:=List.mem_of_getElem? hx
     refine aE (aj<|av<|VC.block<|av<|au (ag rfl<|ag rfl<|ah (bM ML W4 hl.sm (.r rfl) (.r rfl) rfl (by omega)) rfl<|VO.f IK rfl<|VO.f lN rfl<|ah (LO.ld zH (.r rfl) (fun w hw=>aA (off:=6) ((fun w3 h3=>cY (hl.b0 w3 h3) hx) w hw) ⟨_,rfl⟩)) rfl<|ah (bE xq (.r rfl) rfl) rfl<|ah (LO.gt (.r rfl) (.r rfl)) rfl<|aq ?_))
     refine ay rfl (fun h64=>?_) (fun h64=>?_)
     ·
      refine au (ah (bK (xs:=[]) (vs:=[]) C4 trivial (fun w2 _=>x3 w2)) rfl<|ax rfl<|aq<|VC.ret (bA (VE.mq (bA (bA (VE.mq (bA (VE.s rfl rfl (fun w hw=>?_)))))))))
      exact⟨rfl,hw.nil⟩
     ·
      refine aE (aj<|au (ag rfl<|aB rfl<|HO.eS (xs:=[_]) (vs:=[_]) C7 ⟨(.r rfl),trivial⟩ (fun w2 hw=>U4 yb.1 h s V r N w2 (hw.inv 0 _ rfl).1 hLw.P (by omega)) fun yc hyc=>aB rfl<|aW (LO.as (.r rfl))<|aq<|av<|VC.B4 12 mixed (by kernel_rfl) (VA.iI [[0,1,2,3,4,5],[0,2,3,4,5]] [some 0,some 0,some 0,some 0,some 0,some 0,some 0,some 0,some 0,some 0,some 0,none] (by kernel_rfl) rfl (cT rfl<|cT rfl<|cT rfl<|aG (fun _ hJ=>bM ML W4 hl.sm (.r rfl) (.r rfl) rfl (by omega)) rfl<|aG (fun _ hJ=>aP N0 (.r rfl) rfl) rfl<|aG (fun _ hJ=>LO.ld O3 (.r rfl) (fun w hw=>aA (off:=0) ((fun w3 h3=>cY (hl.b0 w3 h3) hx) w (hJ _ hw)) ⟨_,rfl⟩)) rfl<|cT rfl<|cT rfl<|aG (fun _ hJ=>bM ML W4 hl.sm (.r rfl) (.r rfl) rfl (by omega)) rfl<|aG (fun _ hJ=>aP IK (.r rfl) rfl) rfl<|aG (fun _ hJ=>aX (vs:=[_,_,_,_,_,_]) oy (.r rfl) (fun w hw=>aA (off:=1) ((fun w3 h3=>cY (hl.b0 w3 h3) hx) w (hJ _ hw)) ⟨_,rfl⟩) rfl) rfl<|LX.s<|LX.nil) (az<|az<|az<|az<|az<|az<|az<|az<|az<|az<|az<|HX.h rfl<|HO.oU (first:=[]) (cap:=[]) (xs:=[_,_,_]) (vs:=[_,_,_]) [_] [_,_,_,_,_] (dq (L1:=[_]++[_,_,_,_,_]) [1,0,2,3,4,5] rfl rfl) (.r rfl) C8 ⟨(.r rfl),(.r rfl),(.r rfl),trivial⟩ (fun w hw hh=>Uf yb.1 h s V r N x.t x.g x.vs x.p x.c w hh (fun hs=>(hls x hxm).b0 _ (iH (R:=[bV (s.F yb.1 h)]) (rest:=[_,_,_,_,_]) (dq (L1:=[_,_,_,_,_,_]) [1,0,2,3,4,5] rfl rfl _ hw) hs)) (fun hs=>hLw.xa _ ((St.ln (iH (R:=[bV (s.F yb.1 h)]) (rest:=[_,_,_,_,_]) (dq (L1:=[_,_,_,_,_,_]) [1,0,2,3,4,5] rfl rfl _ hw) hs)).inv 1 _ rfl).1) hLw.P (by omega) hlv (Al.XO (hw.inv 1 _ rfl).1).c) fun ya hya=>⟨fun _ hw=>hw.gY [3,4,5,6,7] rfl,HX.nil (VE.any (VA.draw (LL.m rfl<|bl (cU (.r rfl) rfl) rfl<|bl (cU (.r rfl) rfl) rfl<|bl (LO.as (.r rfl)) rfl<|bl (LO.as (.r rfl)) rfl<|LL.nil) (by kernel_rfl) ?_))⟩))))
      refine aj<|av<|VC.B4 12 mixed (by kernel_rfl) (VA.iI [[0,1,2,3,4,5,6,7],[0,1,2,3,4,6,7]] [some 0,some 0,some 0,some 0,some 0,some 0,some 0,some 0,some 0,some 0,some 0,none] (by kernel_rfl) rfl (cT rfl<|cT rfl<|cT rfl<|aG (fun _ hJ=>bM ML W4 hl.sm (.r rfl) (.r rfl) rfl (by omega)) rfl<|aG (fun _ hJ=>aP N0 (.r rfl) rfl) rfl<|aG (fun _ hJ=>LO.ld O3 (.r rfl) (fun w hw=>aA (off:=0) ((fun w3 h3=>cY (hl.b0 w3 h3) hx) w (hJ _ hw)) ⟨_,rfl⟩)) rfl<|cT rfl<|cT rfl<|aG (fun _ hJ=>bM ML W4 hl.sm (.r rfl) (.r rfl) rfl (by omega)) rfl<|aG (fun _ hJ=>aP IK (.r rfl) rfl) rfl<|aG (fun _ hJ=>aX (vs:=[_,_,_,_,_,_]) oy (.r rfl) (fun w hw=>aA (off:=1) ((fun w3 h3=>cY (hl.b0 w3 h3) hx) w (hJ _ hw)) ⟨_,rfl⟩) rfl) rfl<|LX.s<|LX.nil) (az<|az<|az<|az<|az<|az<|az<|az<|az<|az<|az<|HX.h rfl<|HO.oU (first:=[]) (cap:=[]) (xs:=[_,_,_]) (vs:=[_,_,_]) [_] [_,_,_,_,_,_,_] (dq (L1:=[_]++[_,_,_,_,_,_,_]) [5,0,1,2,3,4,6,7] rfl rfl) (.r rfl) C9 ⟨(.r rfl),(.r rfl),(.r rfl),trivial⟩ (fun w hw hh=>VQ bd h d s.la hLw.D.L hLw.D.L0 (by omega) V r x.t x.g x.vs x.p x.c w hh (fun hs=>(hls x hxm).b0 _ (iH (R:=[bV (ug bd h d)]) (rest:=[_,_,_,_,_,_,_]) (dq (L1:=[_,_,_,_,_,_,_,_]) [5,0,1,2,3,4,6,7] rfl rfl _ hw) hs)) (fun hs=>(hLw.xd _ ((St.ln (iH (R:=[bV (ug bd h d)]) (rest:=[_,_,_,_,_,_,_]) (dq (L1:=[_,_,_,_,_,_,_,_]) [5,0,1,2,3,4,6,7] rfl rfl _ hw) hs)).inv 5 _ rfl).1).1) ht2 ht3 hLw.D.V hlv (u0.mk' (hw.inv 5 _ rfl).1 (hLw.xd _ (hw.inv 6 _ rfl).1).1 (hLw.xd _ (hw.inv 6 _ rfl).1).2)) fun yd hyd=>⟨kJ (L1:=[_,_,_,_,_,_,_]) [3,4,5,6,7,8,9] rfl rfl rfl,HX.nil (VE.any (VA.draw (LL.m rfl<|bl (cU (.r rfl) rfl) rfl<|bl (cU (.r rfl) rfl) rfl<|bl (LO.as (.r rfl)) rfl<|bl (LO.as (.r rfl)) rfl<|LL.nil) (by kernel_rfl) ?_))⟩))
      refine aj<|av<|VC.B4 12 mixed (by kernel_rfl) (VA.iI [[0,1,2,3,4,5,6,7,8,9],[0,1,2,3,4,5,7,8,9]] [some 0,some 0,some 0,some 0,some 0,some 0,some 0,some 0,some 0,some 0,some 0,none] (by kernel_rfl) rfl (cT rfl<|cT rfl<|cT rfl<|aG (fun _ hJ=>bM ML W4 hl.sm (.r rfl) (.r rfl) rfl (by omega)) rfl<|aG (fun _ hJ=>aP N0 (.r rfl) rfl) rfl<|aG (fun _ hJ=>LO.ld O3 (.r rfl) (fun w hw=>aA (off:=0) ((fun w3 h3=>cY (hl.b0 w3 h3) hx) w (hJ _ hw)) ⟨_,rfl⟩)) rfl<|cT rfl<|cT rfl<|aG (fun _ hJ=>bM ML W4 hl.sm (.r rfl) (.r rfl) rfl (by omega)) rfl<|aG (fun _ hJ=>aP IK (.r rfl) rfl) rfl<|aG (fun _ hJ=>aX (vs:=[_,_,_,_,_,_]) oy (.r rfl) (fun w hw=>aA (off:=1) ((fun w3 h3=>cY (hl.b0 w3 h3) hx) w (hJ _ hw)) ⟨_,rfl⟩) rfl) rfl<|LX.s<|LX.nil) (az<|az<|az<|az<|az<|az<|az<|az<|az<|az<|az<|HX.h rfl<|HO.oU (first:=[]) (cap:=[]) (xs:=[_,_,_]) (vs:=[_,_,_]) [_] [_,_,_,_,_,_,_,_,_] (dq (L1:=[_]++[_,_,_,_,_,_,_,_,_]) [6,0,1,2,3,4,5,7,8,9] rfl rfl) (.r rfl) C8 ⟨(.r rfl),(.r rfl),(.r rfl),trivial⟩ (fun w hw hh=>Uf yc.b (L3 h yc) (Qj s yc) V r N x.t x.g x.vs x.p x.c w hh (fun hs=>(hls x hxm).b0 _ (iH (R:=[bV ((Qj s yc).F yc.b (L3 h yc))]) (rest:=[_,_,_,_,_,_,_,_,_]) (dq (L1:=[_,_,_,_,_,_,_,_,_,_]) [6,0,1,2,3,4,5,7,8,9] rfl rfl _ hw) hs)) (fun hs=>hLw.xa _ ((St.ln (iH (R:=[bV ((Qj s yc).F yc.b (L3 h yc))]) (rest:=[_,_,_,_,_,_,_,_,_]) (dq (L1:=[_,_,_,_,_,_,_,_,_,_]) [6,0,1,2,3,4,5,7,8,9] rfl rfl _ hw) hs)).inv 6 _ rfl).1) (hLw.P.cp hyc) (by omega) hlv (Al.XO (hw.inv 6 _ rfl).1).c) fun ya2 hya2=>⟨kJ (L1:=[_,_,_,_,_,_,_,_,_]) [3,4,5,6,7,8,9,10,11] rfl rfl rfl,HX.nil (VE.any (VA.draw (LL.m rfl<|bl (cU (.r rfl) rfl) rfl<|bl (cU (.r rfl) rfl) rfl<|bl (LO.as (.r rfl)) rfl<|bl (LO.as (.r rfl)) rfl<|LL.nil) (by kernel_rfl) ?_))⟩))
      obtain⟨N2,V2,hL2,hee,hN27,_⟩:=Jn hLw (by omega) hya hyd ht1
      obtain⟨N3,V3,hL3,hee3,hN37,_⟩:=SH hLw (by omega) hyc hya2 hyd ht1
      have hBe:=R4 hLw (by omega) hya hyd ht1
      have hcp:kH (L3 h yc) (Qj s yc).la N x.t x.g x.vs=kH h s.la N x.t x.g x.vs:=rfl
      refine aj<|av<|au (ag rfl<|ag rfl<|ah (bK (xs:=[_,_]) (vs:=[_,_]) C10 ⟨(.r rfl),(.r rfl),trivial⟩ (fun w2 hw=>Nn (la:=ya.ev) (y:=yd.ev) ya.p ya.c w2 (hya.rd w2 (hw.inv 8 _ rfl).1) (hyd.rd w2 (hw.inv 5 _ rfl).1) hee hBe)) rfl<|ah (LO.not (.r rfl)) rfl<|ag rfl<|aK rfl (fun hg=>aS (.r rfl))<|aK rfl (fun hg=>aS (.r rfl))<|aK rfl (fun hg=>LO.ne (.g hg rfl) (.g hg rfl))<|ah (cD (.r rfl) (.r rfl) rfl rfl) rfl<|ag rfl<|aK rfl (fun hg=>aS (.r rfl))<|aK rfl (fun hg=>aS (.r rfl))<|aK rfl (fun hg=>bK (xs:=[_,_]) (vs:=[_,_]) C10 ⟨(.g hg rfl),(.g hg rfl),trivial⟩ (fun w2 hw=>Nn (la:=ya2.ev) (y:=yd.ev) ya2.p ya2.c w2 (hya2.rd w2 (hw.inv 2 _ rfl).1) (hyd.rd w2 (hw.inv 5 _ rfl).1) hee3 hBe))<|aK rfl (fun hg=>LO.not (.g hg rfl))<|ah (cD (.r rfl) (.r rfl) rfl rfl) rfl<|ag rfl<|aK rfl (fun hg=>aS (.r rfl))<|aK rfl (fun hg=>aS (.r rfl))<|aK rfl (fun hg=>LO.ne (.g hg rfl) (.g hg rfl))<|ah (cD (.r rfl) (.r rfl) rfl rfl) rfl<|ag rfl<|aK rfl (fun hg=>aS (.r rfl))<|aK rfl (fun hg=>aS (.r rfl))<|aK rfl (fun hg=>bK (xs:=[_,_]) (vs:=[_,_]) C11 ⟨(.g hg rfl),(.g hg rfl),trivial⟩ (fun w2 hw=>MM yb.1 h r (i+1) N2 ya.s V2 (XA++ya.X) bd yd.d (XD++(yd.X++yd.R)) hL2 hN27 w2 (hw.inv 6 _ rfl).1 (fun r hr=>(bQ.1 hr).elim ((hw.inv 9 _ rfl).1 r) ((hw.inv 7 _ rfl).1 r)) (hw.inv 3 _ rfl).1 (fun r hr=>(bQ.1 hr).elim ((hw.inv 10 _ rfl).1 r) ((fun r hr=>(bQ.1 hr).elim ((hw.inv 4 _ rfl).1 r) ((hw.inv 5 _ rfl).1 r)) r))))<|aK rfl (fun hg=>LO.not (.g hg rfl))<|ah (cD (.r rfl) (.r rfl) rfl rfl) rfl<|ag rfl<|aK rfl (fun hg=>aS (.r rfl))<|aK rfl (fun hg=>aS (.r rfl))<|aK rfl (fun hg=>bK (xs:=[_,_]) (vs:=[_,_]) C11 ⟨(.g hg rfl),(.g hg rfl),trivial⟩ (fun w2 hw=>MM yc.b (L3 h yc) r (i+1) N3 ya2.s V3 (XA++ya2.X) bd yd.d (XD++(yd.X++yd.R)) hL3 hN37 w2 (hw.inv 0 _ rfl).1 (fun r hr=>(bQ.1 hr).elim ((hw.inv 9 _ rfl).1 r) ((hw.inv 1 _ rfl).1 r)) (hw.inv 3 _ rfl).1 (fun r hr=>(bQ.1 hr).elim ((hw.inv 10 _ rfl).1 r) ((fun r hr=>(bQ.1 hr).elim ((hw.inv 4 _ rfl).1 r) ((hw.inv 5 _ rfl).1 r)) r))))<|aK rfl (fun hg=>LO.not (.g hg rfl))<|ah (cD (.r rfl) (.r rfl) rfl rfl) rfl<|aq<|ay rfl (fun h144=>?_) (fun h144=>?_))
      · (exfalso;(simp [ht1,hcp]at h144))
      ·
       refine aE (aj<|au (ag rfl<|ag rfl<|ag rfl<|ah (bK (xs:=[_,_,_]) (vs:=[_,_,_]) C12 ⟨(.r rfl),(.r rfl),(.r rfl),trivial⟩ (fun w2 hw=>YK yb.1 h ya.s.la ⟨ya.s.pm,ya.s.ys.length,ya.s.cm⟩ ya.s.pt ya.s.ct ya.s.kd ya.s.tk w2 (Al.XO (hw.inv 6 _ rfl).1).c ya.s.of (Al.XO (hw.inv 6 _ rfl).1).of nn mm)) rfl<|ag rfl<|ah (cU (.r rfl) rfl) rfl<|ah (cU (.r rfl) rfl) rfl<|ax rfl<|ax rfl<|aq<|au (ag rfl<|ag rfl<|ag rfl<|ah (bK (xs:=[_,_,_]) (vs:=[_,_,_]) C13 ⟨(.r rfl),(.r rfl),(.r rfl),trivial⟩ (fun w2 hw=>Zi bd h yd.d ya.s.E ya.s.Ms (ya.s.tk.map cH.m) ya.s.of hL2.D.P nn mm hrn w2 (u0.mk' (hw.inv 3 _ rfl).1 (hL2.xd w2 (fun r hr=>(bQ.1 hr).elim ((hw.inv 10 _ rfl).1 r) ((fun r hr=>(bQ.1 hr).elim ((hw.inv 4 _ rfl).1 r) ((hw.inv 5 _ rfl).1 r)) r))).1 (hL2.xd w2 (fun r hr=>(bQ.1 hr).elim ((hw.inv 10 _ rfl).1 r) ((fun r hr=>(bQ.1 hr).elim ((hw.inv 4 _ rfl).1 r) ((hw.inv 5 _ rfl).1 r)) r))).2))) rfl<|ag rfl<|ah (cU (.r rfl) rfl) rfl<|ah (cU (.r rfl) rfl) rfl<|ax rfl<|ax rfl<|aq ?_)))
       refine au (ag rfl<|ag rfl<|VO.u rfl<|ag rfl<|aK rfl (fun hg=>aS (.r rfl))<|aK rfl (fun hg=>aS (.r rfl))<|aK rfl (fun hg=>LO.ne (.g hg rfl) (.g hg rfl))<|ah (cD (.r rfl) (.r rfl) rfl rfl) rfl<|aq<|ay rfl (fun h166=>?_) (fun h166=>?_))
       · (exfalso;(simp at h166))
       ·
        refine aE (VE.gO (aj<|VC.eX (ag rfl<|VO.p rfl rfl (by omega) (by omega) rfl<|ax rfl<|VO.nil<|VE.df fun a w ha hw=>⟨((i+1),N2,ya.s,V2,(XA++ya.X),yd.d,(XD++(yd.X++yd.R))),⟨by dsimp only;omega,hL2⟩,(by dsimp only;omega),ha.sub (.c4 rfl rfl rfl rfl (.cons rfl (.cons rfl .nil))),(by dsimp only;exact dq (L1:=[_,_,_,_,_]) [2,1,3,0,4] rfl rfl _ (zi (X:=yd.X++yd.R) (XA:=XD) (dq (L1:=[bV (yd.X++yd.R),bV XD,_,_,_,_]) [0,4,1,2,3,5] rfl rfl _ (zi (X:=yd.R) (XA:=yd.X) (dq (L1:=[bV yd.R,bV yd.X,_,_,_,_,_]) [5,4,0,1,2,3,6] rfl rfl _ (zi (X:=ya.X) (XA:=XA) (dq (L1:=[bV ya.X,bV XA,_,_,_,_,_,_]) [7,9,6,3,10,4,5,11] rfl rfl _ hw)))))))⟩)))
    ·
     refine VC.exit (VE.bZ (VE.bZ (VE.jT (aj<|au (ah (bK (xs:=[]) (vs:=[]) C4 trivial (fun w2 _=>x3 w2)) rfl<|ax rfl<|aq<|VC.ret (VE.s rfl rfl (fun w hw=>?_)))))))
     exact⟨rfl,hw.nil⟩
theorem DH (g:eo) (lv rc:Int) (l:List WI) (pl:Option Addr) (cl:Nat) (nn mm:Int) (w:World) (hl:RO 7 WM w pl l) (hls:∀x,x∈l→fL w x.p x.vs) (hrn: -9223372036854775808≤nn∧nn≤9223372036854775807):
  Calls af 3 #[lL g,.int .i64 lv,.int .i64 rc,.slice pl l.length cl,.int .i64 nn,.int .i64 mm] w fun e w'=>e= .returned (.bool true)∧St (bs w) [] w':=by
 by_cases q:6<l.length
 ·exact DM g lv rc l pl cl nn mm w hl hls hrn q
 ·by_cases z:mO g lv rc=0
  ·exact CX g lv rc l pl cl nn mm w hl hls hrn (by omega) z
  ·exact Ed g lv rc l pl cl nn mm w hl hls hrn (by omega) z
theorem K58:af.cellsOf 58=2:=by kernel_rfl
theorem K37:af.cellsOf 37=7:=by kernel_rfl
section
variable {H:Type} {enc:TypeId×Value→H} {W:World}
theorem LV:RD enc af W 3 fun cs=>∃n,cs=[.int .i64 n]∧kb .i64 n:=RD.int Tryz.underlying3
theorem Y8:RD enc af W 23 fun cs=>∃g:eo,cs=Dc g:=fun n cs x hx=>by
 obtain⟨css,rfl,hlen,_,hp⟩:=ry Tryz.underlying23 (zs:=[1,1,1,1,1]) (by kernel_rfl) rfl (by kernel_rfl) hx
 match css,hlen with
 |[c0,c1,c2,c3,c4],_=>
  obtain⟨_,_,h0⟩:=hp 0 _ c0 rfl rfl
  obtain⟨_,_,h1⟩:=hp 1 _ c1 rfl rfl
  obtain⟨_,_,h2⟩:=hp 2 _ c2 rfl rfl
  obtain⟨_,_,h3⟩:=hp 3 _ c3 rfl rfl
  obtain⟨_,_,h4⟩:=hp 4 _ c4 rfl rfl
  obtain⟨a,rfl,ha⟩:=LV _ _ _ h0
  obtain⟨b,rfl,hb⟩:=LV _ _ _ h1
  obtain⟨c,rfl,hc⟩:=LV _ _ _ h2
  obtain⟨d,rfl,hd⟩:=LV _ _ _ h3
  obtain⟨e,rfl,he⟩:=LV _ _ _ h4
  exact⟨⟨a,b,c,d,e⟩,rfl⟩
theorem abH:RD enc af W 58 fun cs=>∃s:Span,cs=s.cells∧True:=fun n cs x hx=>by
 obtain⟨css,rfl,hlen,_,hp⟩:=ry Tryz.underlying58 (zs:=[1,1]) (by kernel_rfl) rfl (by kernel_rfl) hx
 match css,hlen with
 |[c0,c1],_=>
  obtain⟨_,_,h0⟩:=hp 0 _ c0 rfl rfl
  obtain⟨_,_,h1⟩:=hp 1 _ c1 rfl rfl
  obtain⟨a,rfl,ha⟩:=LV _ _ _ h0
  obtain⟨b,rfl,hb⟩:=LV _ _ _ h1
  exact⟨⟨a,b⟩,rfl,trivial⟩
theorem abb:RD enc af W 33 fun cs=>∃(p:Option Addr) (cap:Nat) (l:List Span),cs=[.slice p l.length cap]∧fL W p l:=fun n cs x hx=>by
 obtain⟨p,cap,rows,rfl,h1,h2,h3⟩:=RD.slice Tryz.underlying33 K58 (by decide) abH _ _ _ hx
 obtain⟨l,rfl,h5⟩:=zo (f:=Span.cells) (Q:=fun _=>True) (fun r hr=>by obtain⟨x,h6,h7⟩:=(h3 r hr).2;exact⟨x,h6,h7⟩)
 exact⟨p,cap,l,by simp,h2⟩
theorem abu:RD enc af W 35 fun cs=>∃(g:eo) (p:Option Addr) (cap:Nat) (l:List Span),cs=Dc g++[.slice p l.length cap]∧fL W p l:=fun n cs x hx=>by
 obtain⟨css,rfl,hlen,_,hp⟩:=ry Tryz.underlying35 (zs:=[5,1]) (by kernel_rfl) rfl (by kernel_rfl) hx
 match css,hlen with
 |[c0,c1],_=>
  obtain⟨_,_,h0⟩:=hp 0 _ c0 rfl rfl
  obtain⟨_,_,h1⟩:=hp 1 _ c1 rfl rfl
  obtain⟨g,rfl⟩:=Y8 _ _ _ h0
  obtain⟨p,cap,l,rfl,hl⟩:=abb _ _ _ h1
  exact⟨g,p,cap,l,rfl,hl⟩
theorem ab9:RD enc af W 37 fun cs=>∃x:WI,cs=WM x∧fL W x.p x.vs:=fun n cs x hx=>by
 obtain⟨css,rfl,hlen,_,hp⟩:=ry q9 (zs:=[1,6]) (by kernel_rfl) rfl (by kernel_rfl) hx
 match css,hlen with
 |[c0,c1],_=>
  obtain⟨_,_,h0⟩:=hp 0 _ c0 rfl rfl
  obtain⟨_,_,h1⟩:=hp 1 _ c1 rfl rfl
  obtain⟨t,rfl,ht⟩:=LV _ _ _ h0
  obtain⟨g,p,cap,l,rfl,hl⟩:=abu _ _ _ h1
  exact⟨⟨t,g,p,cap,l⟩,rfl,hl⟩
theorem acs:RD enc af W 24 fun cs=>∃(p:Option Addr) (cap:Nat) (l:List WI),cs=[.slice p l.length cap]∧RO 7 WM W p l∧∀x,x∈l→fL W x.p x.vs:=fun n cs x hx=>by
 obtain⟨p,cap,rows,rfl,h1,h2,h3⟩:=RD.slice od K37 (by decide) ab9 _ _ _ hx
 obtain⟨l,rfl,h5⟩:=zo (f:=WM) (Q:=fun x=>fL W x.p x.vs) (fun r hr=>by obtain⟨x,h6,h7⟩:=(h3 r hr).2;exact⟨x,h6,h7⟩)
 exact⟨p,cap,l,by simp,h2,h5⟩
end
end Go.Proofs.YtgemekpofpoopaaGreat
