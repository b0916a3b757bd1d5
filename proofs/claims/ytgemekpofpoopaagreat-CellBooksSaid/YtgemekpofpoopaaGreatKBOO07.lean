/-
  The chapter's examples hold.
  (and more)
-/
import Derived.Test.YtgemekpofpoopaaGreatKBOO06
open Go.Proofs.Tryz renaming prog→af,underlying157→vJ,underlying159→kz,underlying104→jo
open List.cons renaming inj→vI
open Go.Proofs.YtgemekpofpoopaaGreat.di renaming cells→l7
open List renaming map_map→dV,length_map→ak,mem_map→bN,mem_singleton→bW,mem_cons→dU,getD_eq_getElem?_getD→aO,getElem?_eq_getElem→aw,map_congr_left→eO,getElem?_eq_some_iff→an,mem_of_getElem?→al,length_cons→dX,length_append→aJ,range→bF,map_append→bG,replicate→bH,take_succ_eq_append_getElem→bX,mem_append→bQ,length_set→eB,take_length→eG,mem_flatMap→oS,mem_map_of_mem→bw,length→dv,any_eq_true→dY,mem_iff_getElem?→eA,getElem?_map→aI,getElem?_range→fE
open Go.Value renaming slice→il,bool→iB,int→cX
open Go.Proofs.YtgemekpofpoopaaGreat.cH renaming cells→e9
open Go.SL.VC renaming q→au,seq→av,eX→aM,cond→ay,skip→aE,perm→gw,ret→be,block→aD,eg→bS,exit→bU,draw→gj,iI→eC
open Go.SL.VO renaming a→ax,n→aq,h→aB,h0→cu,l→ah,m→ag,gf→aK,gT→ns,nil→aN,f→bO,gt→bh,t→dK,c→cL,p→da
open Go.SL.HO renaming bs→eW,eS→cd,alloc→cJ,st→cq,lo→aW,box→c8,k8→eP,zF→iV
open Go.SL.RO renaming gM→fK
open Go.SL.LO renaming fT→aX,mv→aS,ex→cU,len→bE,ne→gN,jZ→cD,iy→bM,fa→aP,ld→aC,call→bK,bd→fA,jA→cy,eq→ia,qc→e7,ge→iw,rem→nk,sub→gz,quo→mz,max→qo
open Nat renaming zero_lt_one→jz,zero_le→aY,mod_lt→jW,not_lt_zero→cQ,succ_ne_zero→kW,lt_succ_iff_lt_or_eq→cZ
open Go.Proofs.YtgemekpofpoopaaGreat.RO renaming jX→cY
open Go.SL.VE renaming aU→aj,s→dP,gO→bB,res→dh,mq→dA,dB→bA,df→aZ,bZ→aH,jT→cB
open Go.Proofs.YtgemekpofpoopaaGreat.LO renaming eqv→eN
open Classical renaming not_not→eK
open Go.Ending renaming returned→bT
open Go.SL.LL renaming m→eT,l→bl,nil→gy,gt→gm
open Bool renaming not_eq_true→lE,eq_false_iff→fM
open Go.SL renaming bV→mo
open Go.SL.LX renaming l→aG,m→cT,s→dC,nil→fj
open Go.SL.HX renaming s→az,nil→fB
open Int renaming natCast_add→mA

set_option linter.unusedSimpArgs false
set_option maxRecDepth 20000
set_option maxHeartbeats 8000000
namespace Go.Proofs.YtgemekpofpoopaaGreat
open Go.SL Go.Proofs Go.sM Go.Cell
set_option linter.unusedVariables false
theorem C14:fh af 14:=⟨_,Tryz.func14,by decide,rfl⟩
theorem C15:fh af 15:=⟨_,Tryz.func15,by decide,rfl⟩
theorem C17:fh af 17:=⟨_,Tryz.func17,by decide,rfl⟩
theorem YX:yQ af 58 2:=⟨⟨_,Tryz.underlying58,rfl⟩,by kernel_rfl,by kernel_rfl⟩
theorem C18:fh af 18:=⟨_,Tryz.func18,by decide,rfl⟩
theorem C19:fh af 19:=⟨_,Tryz.func19,by decide,rfl⟩
theorem C20:fh af 20:=⟨_,Tryz.func20,by decide,rfl⟩
theorem C21:fh af 21:=⟨_,Tryz.func21,by decide,rfl⟩
theorem C22:fh af 22:=⟨_,Tryz.func22,by decide,rfl⟩
theorem YD:yQ af 72 2:=⟨⟨_,Tryz.underlying72,rfl⟩,by kernel_rfl,by kernel_rfl⟩
theorem C5:fh af 5:=⟨_,Tryz.func5,by decide,rfl⟩
theorem C8:fh af 8:=⟨_,Tryz.func8,by decide,rfl⟩
theorem C23:fh af 23:=⟨_,Tryz.func23,by decide,rfl⟩
theorem TV:cP af 76 0 0:=⟨_,_,Tryz.underlying76,rfl,rfl,0,by kernel_rfl⟩
theorem C24:fh af 24:=⟨_,Tryz.func24,by decide,rfl⟩
theorem abP:yQ af 78 9:=⟨⟨_,Tryz.underlying78,rfl⟩,by kernel_rfl,by kernel_rfl⟩
theorem VB (b:Nat) (w:World) (h:Ints w (some ⟨b,0,none⟩) [5,5,2,5,5,5,0,1]):Calls af (14) #[.slice (some ⟨b,0,none⟩) 8 8] w fun e w'=>∃y:B9,True∧e= .returned (im xG y.p xF.length y.c)∧St (bs w) [own 58 2 y.p y.c (xF.map Span.cells)] w':=TL [5,5,2,5,5,5,0,1] _ 8 w h (by decide)
theorem W3 (b:Nat) (w:World) (h:Ints w (some ⟨b,0,none⟩) [0,1,5,5,2,5,5,5]):Calls af (14) #[.slice (some ⟨b,0,none⟩) 8 8] w fun e w'=>∃y:B9,True∧e= .returned (im xG y.p xH.length y.c)∧St (bs w) [own 58 2 y.p y.c (xH.map Span.cells)] w':=TL [0,1,5,5,2,5,5,5] _ 8 w h (by decide)
theorem OH (p:Option Addr) (c:Nat) (w:World) (hv:fL w p xF):Calls af (18) #[im xG p xF.length c,.int .i64 5,.int .i64 0,.int .i64 2] w fun e w'=>e= .returned (.tuple #[.int .i64 3,.int .i64 0])∧St (bs w) [] w':=by
 have z:=Bh xG xF p c 5 0 2 w hv xP2
 rw[xJ2]at z;exact z
theorem OC (p:Option Addr) (c:Nat) (w:World) (hv:fL w p xF):Calls af (18) #[im xG p xF.length c,.int .i64 5,.int .i64 0,.int .i64 3] w fun e w'=>e= .returned (.tuple #[.int .i64 2,.int .i64 0])∧St (bs w) [] w':=by
 have z:=Bh xG xF p c 5 0 3 w hv xP3
 rw[xJ3]at z;exact z
theorem SQ (p:Option Addr) (c:Nat) (w:World) (hv:fL w p xF):Calls af (19) #[im xG p xF.length c,.int .i64 5,.int .i64 0,.int .i64 2] w fun e w'=>e= .returned (.tuple #[.int .i64 1,.int .i64 0])∧St (bs w) [] w':=
 (MQ xG xF p c 5 0 2 w hv xP2).mono fun e w' ⟨z,h1,h2,h3⟩=>⟨by rw[h2,ZI h1],h3⟩
theorem RZ (p:Option Addr) (c:Nat) (w:World) (hv:fL w p xF):Calls af (19) #[im xG p xF.length c,.int .i64 5,.int .i64 0,.int .i64 3] w fun e w'=>e= .returned (.tuple #[.int .i64 (-1),.int .i64 0])∧St (bs w) [] w':=
 (MQ xG xF p c 5 0 3 w hv xP3).mono fun e w' ⟨z,h1,h2,h3⟩=>⟨by rw[h2,Yw h1],h3⟩
structure XtY where
 p:Option Addr
 c:Nat
 p1:Option Addr
 c1:Nat
 p2:Option Addr
 c2:Nat
theorem QU (p:Option Addr) (c b:Nat) (w:World) (hv:fL w p xF) (hl:Ints w (some ⟨b,0,none⟩) [1,5]):Calls af (20) #[im xG p xF.length c,.slice (some ⟨b,0,none⟩) 2 2] w fun e w'=>∃y:XtY,True∧e= .returned (.tuple #[.slice y.p 2 y.c,.int .i64 0])∧St (bs w) [own 55 1 y.p y.c (([⟨y.p1,y.c1,[-1]⟩,⟨y.p2,y.c2,[0]⟩]:List (cG Int)).map lI),kZ 3 1 iC [⟨y.p1,y.c1,[-1]⟩,⟨y.p2,y.c2,[0]⟩]] w':=
 (Sz xG xF p c [1,5] _ 2 w hv hl Vu).mono fun e w' ⟨y,h1,h2,h3⟩=>by
  rw[Ya]at h1
  obtain⟨p1,c1,p2,c2,e1⟩:=A4 h1
  rw[e1]at h2 h3
  exact⟨⟨y.p,y.c,p1,c1,p2,c2⟩,trivial,h2,h3⟩
structure XeY where
 p:Option Addr
 c:Nat
 fp:Option Addr
 fc:Nat
 tp:Option Addr
 tc:Nat
def XeY.e (y:XeY):db:=⟨4,y.fp,y.fc,[0],y.tp,y.tc,[0]⟩
theorem Q4 {l:List db} {e:gF} (h:l.map db.m=[e]):∃fp fc tp tc,l=[⟨e.kd,fp,fc,e.f,tp,tc,e.t⟩]:=by
 rcases l with _|⟨a,_|⟨b,r⟩⟩
 ·cases h
 ·obtain⟨kd,fp,fc,f,tp,tc,t⟩:=a
  have h:=(vI h).1
  subst h;exact⟨fp,fc,tp,tc,rfl⟩
 ·cases (vI h).2
theorem OU (p:Option Addr) (c:Nat) (q:Option Addr) (d:Nat) (w:World) (hv:fL w p xF) (hu:fL w q xH):Calls af (21) #[im xG p xF.length c,im xG q xH.length d,.int .i64 5,.int .i64 1] w fun e w'=>∃y:XeY,True∧e= .returned (.tuple #[.slice y.p 1 y.c,.int .i64 0])∧St (bs w) [own 70 3 y.p y.c ([y.e].map db.cells),bV ([y.e].map db.fR),bV ([y.e].map db.tR)] w':=
 (Pm xG xF p c xG xH q d 5 1 w hv hu ZK).mono fun e w' ⟨y,h1,h2,h3⟩=>by
  rw[xNf,xNh]at h1
  obtain⟨fp,fc,tp,tc,e1⟩:=Q4 (xEv h1)
  obtain⟨l,yp,yc⟩:=y
  subst e1
  exact⟨⟨yp,yc,fp,fc,tp,tc⟩,trivial,h2,h3⟩
def xMv:List Mv:=[⟨-1, -1⟩,⟨0, -1⟩,⟨1, -1⟩,⟨-1,0⟩,⟨1,0⟩,⟨-1,1⟩,⟨0,1⟩,⟨1,1⟩]
theorem O9 (p:Option Addr) (c:Nat) (q:Option Addr) (d:Nat) (w:World) (hv:fL w p xF) (hu:fL w q xH):Calls af (22) #[im xG p xF.length c,im xG q xH.length d,.int .i64 5,.int .i64 1,.int .i64 0,.int .i64 0] w fun e w'=>∃y:B9,True∧e= .returned (.tuple #[.slice y.p 8 y.c,.int .i64 0])∧St (bs w) [own 72 2 y.p y.c (xMv.map Mv.cells)] w':=
 (Ny xG xF p c xG xH q d 5 0 0 1 w hv hu U9).mono fun e w' ⟨y,h1,h2,h3⟩=>by
  rw[Vz]at h2 h3
  exact⟨y,trivial,h2,h3⟩
structure WJ where
 p:Option Addr
 c:Nat
 pp:Option Addr
 pc:Nat
 kp:Option Addr
 kc:Nat
 p1:Option Addr
 c1:Nat
 p2:Option Addr
 c2:Nat
def WJ.a (y:WJ):di:=⟨⟨y.pp,y.pc,[0,1,2]⟩,y.kp,y.kc,[⟨y.p1,y.c1,[0]⟩,⟨y.p2,y.c2,[2]⟩],⟨0,2,0,0,10,15⟩⟩
structure Ud (w:World) (y:WJ):Prop where
 ar:RO 8 l7 w y.p [y.a]
 px:Ints w y.pp [0,1,2]
 kr:RR 1 iC w y.kp [⟨y.p1,y.c1,[0]⟩,⟨y.p2,y.c2,[2]⟩]
theorem V7 {w:World} {p:Option Addr} {rs:List (cG Nat)} (h:RR 1 nC w p rs):RR 1 iC w p (rs.map fun r=>(⟨r.p,r.c,r.l.map fun n:Nat=>(n:Int)⟩:cG Int)):=by
 refine⟨?_,fun x hx=>?_⟩
 ·have h1:=h.1
  unfold RO at h1 ⊢
  rw[dV]
  have e:(lI∘fun r:cG Nat=>(⟨r.p,r.c,r.l.map fun n:Nat=>(n:Int)⟩:cG Int))=lI:=by
   funext r;show[il r.p (r.l.map _).length r.c]=_;rw[ak];rfl
  rw[e];exact h1
 ·obtain⟨r,hr,rfl⟩:=bN.1 hx
  have:=h.2 r hr
  exact⟨by show(r.l.map _).length≤r.c;rw[ak];exact this.1,yD this.2⟩
structure XaF (y:oV) (z:WJ):Prop where
 ar:AR (gW xG) (gH xG) xF 5 y
 l:y.l=[z.a]
 p:y.p=z.p
theorem ON (p:Option Addr) (c:Nat) (w:World) (hv:fL w p xF):Calls af (15) #[im xG p xF.length c,.int .i64 5] w fun e w'=>∃y:oV×WJ,XaF y.1 y.2∧e= .returned (.tuple #[.slice y.2.p 1 y.2.c,.int .i64 0])∧St (bs w) (y.1.R (mH (gW xG) (gH xG) (et xF 5))) w':=
 (OW xG xF p c 5 w hv R1).mono fun e w' ⟨y,h1,h2,h3⟩=>by
  obtain⟨pp,pc,kp,kc,p1,c1,p2,c2,hl⟩:=abG h1 Vt
  rw[hl]at h2
  exact⟨⟨y,⟨y.p,y.c,pp,pc,kp,kc,p1,c1,p2,c2⟩⟩,⟨h1,hl,rfl⟩,h2,h3⟩
theorem Ud.of {y:oV} {z:WJ} {β:Bs} {L:List dg} {w:World} (h:XaF y z) (hw:St β (y.R (mH (gW xG) (gH xG) (et xF 5))++L) w):Ud w z:=by
 have hS:=vO.uq hw h.ar 0 1 3 7 rfl rfl rfl rfl
 have hR:RR 1 nC w y.pr y.rs:=RR.gM hw 5 6 rfl rfl
 have hl:=h.l
 refine⟨?_,?_,?_⟩
 ·have:=hS.ar;rw[hl,h.p]at this;exact this
 ·exact yD (hR.2 z.a.px (by rw[←h.ar.px,hl];exact bW.2 rfl)).2
 ·exact V7 (hS.kr z.a (by rw[hl];exact bW.2 rfl))
theorem Ud.b0 {w0:World} {y:WJ} (h:Ud w0 y):∀{L:List dg} (w:World),St (bs w0) L w→Ud w y:=fun w hw=>⟨h.ar.b0 w hw,h.px.b0 w hw,h.kr.b0 w hw⟩
theorem Jo {w:World} {b1 b2 b3:Nat} {x y:Int} (h1:Ints w (some ⟨b1,0,none⟩) [x]) (h2:Ints w (some ⟨b2,0,none⟩) [y]) (h3:fG w ⟨b3,0,none⟩ [.slice (some ⟨b1,0,none⟩) 1 1,.slice (some ⟨b2,0,none⟩) 1 1]):RR 1 iC w (some ⟨b3,0,none⟩) [⟨some ⟨b1,0,none⟩,1,[x]⟩,⟨some ⟨b2,0,none⟩,1,[y]⟩]:=by
 refine⟨RO.r6 (fun _=>rfl) h3,fun r hr=>?_⟩
 rcases dU.1 hr with rfl|hr
 ·exact⟨Nat.le_refl _,h1⟩
 ·have hr:=bW.1 hr;subst hr;exact⟨Nat.le_refl _,h2⟩
theorem Dd {a b:cG Int} (ha:a.l.length=1) (hb:b.l.length=1):∀x,x∈[a,b]→x.l.length≤1000000:=fun x hx=>by
 rcases dU.1 hx with rfl|hx
 ·omega
 ·have hx:=bW.1 hx;subst hx;omega
abbrev L6 (bm:Nat):jk:=⟨xG,5,1,bm⟩
theorem YU:mO xG 5 1=0:=by kernel_rfl
theorem YQ (bm:Nat):kH (L6 bm) (-1) 0 10 xG xF=0:=rfl
theorem Y9 (bm:Nat):kH (L6 bm) 10 1 20 xG xH=0:=rfl
theorem TP (bm n:Nat):kH (L6 bm) 20 n 20 xG xH=17:=rfl
theorem RM (b bm:Nat) (q:B1) (pt:Option Addr) (nt ct:Nat) (kd:Nat→Int) (p:Option Addr) (c:Nat) (w:World) (hb:fG w ⟨b,0,none⟩ (uO (L6 bm) 20 q pt nt ct kd)) (hv:fL w p xH):Calls af (8) #[.pointer (some ⟨b,0,none⟩),.int .i64 20,im xG p xH.length c] w fun e w'=>e= .returned (.tuple #[.slice none 0 0,.int .i64 17])∧St (bs w) [] w':=by
 have z:=TR b (L6 bm) 20 q pt nt ct kd 20 xG xH p c w hb hv (by rw[TP];decide)
 rw[TP]at z;exact z
structure XkY where
 p:Option Addr
 c:Nat
 ap:Option Addr
 ac:Nat
 pp:Option Addr
 pc:Nat
 cp:Option Addr
 cc:Nat
def XkY.t (y:XkY):cH:=⟨1,0,y.ap,y.ac,[0,0],0,y.pp,y.pc,[],y.cp,y.cc,[]⟩
theorem yz {tk:List cH} (h:tk.map cH.m=[⟨1,0,[0,0],0,[],[]⟩]):∃ap ac pp pc cp cc,tk=[⟨1,0,ap,ac,[0,0],0,pp,pc,[],cp,cc,[]⟩]:=by
 obtain⟨t,rfl,hm⟩:=Se h
 obtain⟨bg,fr,ap,ac,ar,en,pp,pc,pa,cp,cc,ch⟩:=t
 cases hm
 exact⟨ap,ac,pp,pc,cp,cc,rfl⟩
theorem Ko (b:Nat) (h:jk) (la:Int) (q:B1) (pt:Option Addr) (ct:Nat) (kd:Nat→Int) (tk:List cH) (w:World) (hb:fG w ⟨b,0,none⟩ (uO h la q pt tk.length ct kd)) (htk:RO 6 e9 w pt tk) (hti:∀t,t∈tk→VL w t) (hm:tk.map cH.m=[⟨1,0,[0,0],0,[],[]⟩]):Calls af (23) #[.pointer (some ⟨b,0,none⟩)] w fun e w'=>∃y:XkY,True∧e= .returned (.slice y.p 1 y.c)∧St (bs w) [own 76 6 y.p y.c ([y.t].map e9),bV ([y.t].map cH.aR),bV ([y.t].map cH.pR),bV ([y.t].map cH.cR)] w':=
 (wm b h la q pt ct kd tk w hb htk hti (fun t ht=>by
  obtain⟨_,_,_,_,_,_,rfl⟩:=yz hm
  have:=bW.1 ht;subst this
  exact⟨(show 2≤1000000000 by decide),(show 0≤1000000000 by decide),(show 0≤1000000000 by decide)⟩) (by obtain⟨_,_,_,_,_,_,rfl⟩:=yz hm;exact(show 1≤1000000 by decide))).mono fun e w' ⟨y,h1,h2,h3⟩=>by
  rw[hm]at h1
  obtain⟨l,yp,yc⟩:=y
  obtain⟨ap,ac,pp,pc,cp,cc,rfl⟩:=yz h1
  exact⟨⟨yp,yc,ap,ac,pp,pc,cp,cc⟩,trivial,h2,h3⟩
theorem Ol (b bm:Nat) (la:Int) (pm:Option Addr) (cm:Nat) (ys:List oV) (pt:Option Addr) (ct:Nat) (kd:Nat→Int) (tk:List cH) (of:Nat×Nat→Option Nat) (w:World) (hb:fG w ⟨b,0,none⟩ (uO (L6 bm) la ⟨pm,ys.length,cm⟩ pt tk.length ct kd)) (ho:(jr Ay vZ bm (qK of)).inv w) (hys:ys.length=2) (hm:tk.map cH.m=[⟨1,0,[0,0],0,[],[]⟩]) (hk:∀a,a∈[((0:Int),(0:Int)),(1,0)]↔(qK of a).isSome=true) (hkd:kd=x9 (fun _=>0) [⟨4,[0],[0]⟩]):
  Calls af (24) #[.pointer (some ⟨b,0,none⟩)] w fun e w'=>e= .returned (.agg #[.int .i64 2,.int .i64 2,.int .i64 1,.int .i64 0,.int .i64 0,.int .i64 1,.int .i64 0,.int .i64 0,.int .i64 0])∧St (bs w) [] w':=by
 have z:=Du b (L6 bm) la ⟨pm,ys.length,cm⟩ pt ct kd tk w hb of ho [((0:Int),(0:Int)),(1,0)] (by decide) hk
 obtain⟨_,_,_,_,_,_,rfl⟩:=yz hm
 subst hkd
 rw[hys]at z
 exact z
theorem x3 (w:World):
 Calls af 4 #[] w fun e w'=>e= .returned (.bool true)∧St (bs w) [] w':=by
 refine enter (vs:=[]) (env:=[]) Tryz.func4 rfl rfl rfl rfl ?_
 refine au (ax rfl<|aq<|au (aB rfl<|eW (ps:=[(_,_),(_,_),(_,_),(_,_),(_,_),(_,_),(_,_),(_,_)]) (vs:=[(_,_),(_,_),(_,_),(_,_),(_,_),(_,_),(_,_),(_,_)]) (Z:=[_,_,_,_,_,_,_,_]) (C:=[_,_,_,_,_,_,_,_]) fk Z3 N3 ⟨(.r rfl),(.r rfl),(.r rfl),(.r rfl),(.r rfl),(.r rfl),(.r rfl),(.r rfl),trivial⟩ rfl rfl rfl rfl ⟨_,[_],[_,_,_,_,_,_,_,_],rfl,rfl,rfl,rfl,⟨_,[_],[_,_,_,_,_,_,_,_],rfl,rfl,rfl,rfl,⟨_,[_],[_,_,_,_,_,_,_,_],rfl,rfl,rfl,rfl,⟨_,[_],[_,_,_,_,_,_,_,_],rfl,rfl,rfl,rfl,⟨_,[_],[_,_,_,_,_,_,_,_],rfl,rfl,rfl,rfl,⟨_,[_],[_,_,_,_,_,_,_,_],rfl,rfl,rfl,rfl,⟨_,[_],[_,_,_,_,_,_,_,_],rfl,rfl,rfl,rfl,⟨_,[_],[_,_,_,_,_,_,_,_],rfl,rfl,rfl,rfl,rfl⟩⟩⟩⟩⟩⟩⟩⟩ fun b1=>aB rfl<|cd (xs:=[_]) (vs:=[_]) C14 ⟨(.r rfl),trivial⟩ (fun w2 hw=>VB b1 w2 (mT _ (dQ (hw.inv 0 _ rfl)))) fun f1 _=>aB rfl<|eW (ps:=[(_,_),(_,_),(_,_),(_,_),(_,_),(_,_),(_,_),(_,_)]) (vs:=[(_,_),(_,_),(_,_),(_,_),(_,_),(_,_),(_,_),(_,_)]) (Z:=[_,_,_,_,_,_,_,_]) (C:=[_,_,_,_,_,_,_,_]) fk Z3 N3 ⟨(.r rfl),(.r rfl),(.r rfl),(.r rfl),(.r rfl),(.r rfl),(.r rfl),(.r rfl),trivial⟩ rfl rfl rfl rfl ⟨_,[_],[_,_,_,_,_,_,_,_],rfl,rfl,rfl,rfl,⟨_,[_],[_,_,_,_,_,_,_,_],rfl,rfl,rfl,rfl,⟨_,[_],[_,_,_,_,_,_,_,_],rfl,rfl,rfl,rfl,⟨_,[_],[_,_,_,_,_,_,_,_],rfl,rfl,rfl,rfl,⟨_,[_],[_,_,_,_,_,_,_,_],rfl,rfl,rfl,rfl,⟨_,[_],[_,_,_,_,_,_,_,_],rfl,rfl,rfl,rfl,⟨_,[_],[_,_,_,_,_,_,_,_],rfl,rfl,rfl,rfl,⟨_,[_],[_,_,_,_,_,_,_,_],rfl,rfl,rfl,rfl,rfl⟩⟩⟩⟩⟩⟩⟩⟩ fun b3=>aB rfl<|cd (xs:=[_]) (vs:=[_]) C14 ⟨(.r rfl),trivial⟩ (fun w2 hw=>W3 b3 w2 (mT _ (dQ (hw.inv 0 _ rfl)))) fun f2 _=>aB rfl<|cJ (C:=#[_,_,_,_,_,_]) WK rfl fun b5=>aB rfl<|cJ (C:=#[_,_,_,_,_,_]) WK rfl fun b6=>cu<|cq 1 (vs:=[_,_,_,_,_,_]) (C':=[_,_,_,_,_,_]) (L':=[_,_,_,_,_,_]) RX rfl rfl rfl rfl rfl rfl rfl rfl<|cu<|cq 0 (vs:=[_,_,_,_,_,_]) (C':=[_,_,_,_,_,_]) (L':=[_,_,_,_,_,_]) RX rfl rfl rfl rfl rfl rfl rfl rfl<|aq<|av ?_))
 refine VC.nF fun w1 hst1=>?_
 have hf1:fG w1 ⟨b5,0,none⟩ [.int .i64 xG.x,.int .i64 xG.y,.int .i64 xG.size,.int .i64 xG.wide,.int .i64 xG.high,.slice f1.p xF.length f1.c]:=dQ (hst1.inv 1 _ rfl)
 have hsF:fL w1 f1.p xF:=fK hst1 4 rfl
 have hf2:fG w1 ⟨b6,0,none⟩ [.int .i64 xG.x,.int .i64 xG.y,.int .i64 xG.size,.int .i64 xG.wide,.int .i64 xG.high,.slice f2.p xH.length f2.c]:=dQ (hst1.inv 0 _ rfl)
 have hsH:fL w1 f2.p xH:=fK hst1 2 rfl
 refine aM (ah (aX (vs:=[_,_,_,_,_,_]) oy (.r rfl) (bj (bI (off:=0) hf1 ⟨_,rfl⟩)) rfl) rfl<|aB rfl<|cd (xs:=[_,_]) (vs:=[_,_]) C15 ⟨(.r rfl),(.r rfl),trivial⟩ (fun w2 hw=>ON f1.p f1.c w2 (hsF.b0 w2 hw)) fun yaa hyaf=>aB rfl<|aW (aS (.r rfl))<|aB rfl<|aW (cU (.r rfl) rfl)<|aB rfl<|aW (cU (.r rfl) rfl)<|aB rfl<|aW (LO.as (.r rfl))<|aB rfl<|aW (LO.as (.r rfl))<|aq<|av<|av ?_)
 obtain⟨yy,ya⟩:=yaa
 dsimp only at hyaf
 refine VC.nF fun w2 hst2=>?_
 have hya0:Ud w2 ya:=Ud.of (L:=[]) hyaf (dq [0,1,2,3,4,5,6,7] rfl rfl _ hst2)
 have hya:∀{L:List dg} (w:World),St (bs w2) L w→Ud w ya:=fun w hw=>hya0.b0 w hw
 have hf1:=bj hf1 _ hst2
 have hf2:=bj hf2 _ hst2
 have hsF:=hsF.b0 _ hst2
 have hsH:=hsH.b0 _ hst2
 refine aM (ag rfl<|VO.u rfl<|ag rfl<|aK rfl (fun hg=>aS (.r rfl))<|aK rfl (fun hg=>bE Ec (.g hg rfl) rfl)<|aK rfl (fun hg=>gN (.g hg rfl) (.r rfl))<|ah (cD (.r rfl) (.r rfl) rfl rfl) rfl<|ag rfl<|aK rfl (fun hg=>aS (.r rfl))<|aK rfl (fun hg=>bM Ec O7 hya0.ar.sm (.g hg rfl) (.r rfl) (j:=0) rfl jz)<|aK rfl (fun hg=>aP Uh (.g hg rfl) rfl)<|aK rfl (fun hg=>aC iL (.g hg rfl) (fun w hw=>aA (off:=0) ((fun w3 h3=>cY (hya w3 h3).ar (show[ya.a][0]? =some ya.a from rfl)) w hw) ⟨_,rfl⟩))<|VO.bc (x:=33) rfl (fun hg3_7=>(by exfalso;exact absurd hg3_7 (by decide))) (fun hg3_7=>ns rfl rfl (congrArg iB hg3_7) rfl<|eW (ps:=[(_,_),(_,_),(_,_)]) (vs:=[(_,_),(_,_),(_,_)]) (Z:=[_,_,_]) (C:=[_,_,_]) fk Z3 N3 ⟨(.r rfl),(.r rfl),(.r rfl),trivial⟩ rfl rfl rfl rfl ⟨_,[_],[_,_,_],rfl,rfl,rfl,rfl,⟨_,[_],[_,_,_],rfl,rfl,rfl,rfl,⟨_,[_],[_,_,_],rfl,rfl,rfl,rfl,rfl⟩⟩⟩ fun b17=>ns rfl rfl (congrArg iB hg3_7) rfl<|aW (bK (xs:=[_,_]) (vs:=[_,_]) Qk ⟨(.g (by rw[hg3_7];rfl) rfl),(.r rfl),trivial⟩ (fun w2 hw=>th [0,1,2] [0,1,2] ya.pp ya.pc (some ⟨b17,0,none⟩) 3 w2 (hya w2 hw).px (mT [0,1,2] (dQ (hw.inv 0 _ rfl))) (by decide)))<|ns rfl rfl (congrArg iB hg3_7) rfl<|aW (LO.not (.r rfl))<|aB rfl<|aW (LO.pkF (.r rfl) hg3_7 (.r rfl))<|aB rfl<|aW (aS (.r rfl))<|aK rfl (fun hg=>aS (.r rfl))<|aK rfl (fun hg=>bM Ec O7 hya0.ar.sm (.g hg rfl) (.r rfl) (j:=0) rfl jz)<|aK rfl (fun hg=>aP Ik (.g hg rfl) rfl)<|aK rfl (fun hg=>aC XK (.g hg rfl) (fun w hw=>aA (off:=1) ((fun w3 h3=>cY (hya w3 h3).ar (show[ya.a][0]? =some ya.a from rfl)) w hw) ⟨_,rfl⟩))<|VO.bc (x:=42) rfl (fun hg3_16=>(by exfalso;exact absurd hg3_16 (by decide))) (fun hg3_16=>ns rfl rfl (congrArg iB hg3_16) rfl<|eW (ps:=[(_,_)]) (vs:=[(_,_)]) (Z:=[_]) (C:=[_]) fk Z3 N3 ⟨(.r rfl),trivial⟩ rfl rfl rfl rfl ⟨_,[_],[_],rfl,rfl,rfl,rfl,rfl⟩ fun b18=>ns rfl rfl (congrArg iB hg3_16) rfl<|eW (ps:=[(_,_)]) (vs:=[(_,_)]) (Z:=[_]) (C:=[_]) fk Z3 N3 ⟨(.r rfl),trivial⟩ rfl rfl rfl rfl ⟨_,[_],[_],rfl,rfl,rfl,rfl,rfl⟩ fun b19=>ns rfl rfl (congrArg iB hg3_16) rfl<|eW (ps:=[(_,_),(_,_)]) (vs:=[(_,_),(_,_)]) (Z:=[_,_]) (C:=[_,_]) tQ Qt qL ⟨(.r rfl),(.r rfl),trivial⟩ rfl rfl rfl rfl ⟨_,[_],[_,_],rfl,rfl,rfl,rfl,⟨_,[_],[_,_],rfl,rfl,rfl,rfl,rfl⟩⟩ fun b20=>ns rfl rfl (congrArg iB hg3_16) rfl<|aW (bK (xs:=[_,_]) (vs:=[_,_]) C17 ⟨(.g (by rw[hg3_16];rfl) rfl),(.r rfl),trivial⟩ (fun w2 hw=>I7 [⟨ya.p1,ya.c1,[0]⟩,⟨ya.p2,ya.c2,[2]⟩] [⟨some ⟨b18,0,none⟩,1,[0]⟩,⟨some ⟨b19,0,none⟩,1,[2]⟩] ya.kp ya.kc (some ⟨b20,0,none⟩) 2 w2 (hya w2 hw).kr (Jo (mT [0] (dQ (hw.inv 2 _ rfl))) (mT [2] (dQ (hw.inv 1 _ rfl))) (dQ (hw.inv 0 _ rfl))) (show 2≤1000000 by decide) (Dd rfl rfl)))<|ns rfl rfl (congrArg iB hg3_16) rfl<|aW (LO.not (.r rfl))<|aB rfl<|aW (LO.pkF (.r rfl) hg3_16 (.r rfl))<|aB rfl<|aW (aS (.r rfl))<|aK rfl (fun hg=>aS (.r rfl))<|aK rfl (fun hg=>bM Ec O7 hya0.ar.sm (.g hg rfl) (.r rfl) (j:=0) rfl jz)<|aK rfl (fun hg=>aP OM (.g hg rfl) rfl)<|aK rfl (fun hg=>aX (vs:=[_,_]) Wi (.g hg rfl) (fun w hw=>aA (off:=2) ((fun w3 h3=>cY (hya w3 h3).ar (show[ya.a][0]? =some ya.a from rfl)) w hw) ⟨_,rfl⟩) rfl)<|aK rfl (fun hg=>fA (ps:=[(_,_),(_,_)]) (vs:=[(_,_),(_,_)]) (C:=[_,_]) LW ⟨(.r rfl),(.r rfl),trivial⟩ rfl ⟨_,[_],[_,_],rfl,rfl,rfl,rfl,⟨_,[_],[_,_],rfl,rfl,rfl,rfl,rfl⟩⟩)<|aK rfl (fun hg=>LO.Qr («as» :=[_,_]) (bs:=[_,_]) YX (.g hg rfl) (.g hg rfl) rfl rfl)<|aB rfl<|aW (cD (.r rfl) (.r rfl) rfl rfl)<|aB rfl<|aW (aS (.r rfl))<|aK rfl (fun hg=>aS (.r rfl))<|aK rfl (fun hg=>bM Ec O7 hya0.ar.sm (.g hg rfl) (.r rfl) (j:=0) rfl jz)<|aK rfl (fun hg=>aP Em (.g hg rfl) rfl)<|aK rfl (fun hg=>aX (vs:=[_,_]) Wi (.g hg rfl) (fun w hw=>aA (off:=6) ((fun w3 h3=>cY (hya w3 h3).ar (show[ya.a][0]? =some ya.a from rfl)) w hw) ⟨_,rfl⟩) rfl)<|aK rfl (fun hg=>fA (ps:=[(_,_),(_,_)]) (vs:=[(_,_),(_,_)]) (C:=[_,_]) LW ⟨(.r rfl),(.r rfl),trivial⟩ rfl ⟨_,[_],[_,_],rfl,rfl,rfl,rfl,⟨_,[_],[_,_],rfl,rfl,rfl,rfl,rfl⟩⟩)<|aK rfl (fun hg=>LO.Qr («as» :=[_,_]) (bs:=[_,_]) YX (.g hg rfl) (.g hg rfl) rfl rfl)<|aB rfl<|aW (cD (.r rfl) (.r rfl) rfl rfl)<|aq<|ay rfl (fun h68=>?_) (fun h68=>?_))))
 · (exfalso;rcases h68 with(z|z)|z<;>exact z rfl)
 ·
  refine aE (aj<|av<|gw [] rfl ?_)
  show VC _ _ _ _ _ _ [] _ _
  refine aM (ah (aX (vs:=[_,_,_,_,_,_]) oy (.r rfl) (bj (bI (off:=0) hf1 ⟨_,rfl⟩)) rfl) rfl<|ah (bK (xs:=[_,_,_,_]) (vs:=[_,_,_,_]) C18 ⟨(.r rfl),(.r rfl),(.r rfl),(.r rfl),trivial⟩ (fun w2 hw=>OH f1.p f1.c w2 (hsF.b0 w2 hw))) rfl<|ag rfl<|ah (cU (.r rfl) rfl) rfl<|ah (cU (.r rfl) rfl) rfl<|ax rfl<|ax rfl<|aq<|au (ah (aX (vs:=[_,_,_,_,_,_]) oy (.r rfl) (bj (bI (off:=0) hf1 ⟨_,rfl⟩)) rfl) rfl<|ah (bK (xs:=[_,_,_,_]) (vs:=[_,_,_,_]) C18 ⟨(.r rfl),(.r rfl),(.r rfl),(.r rfl),trivial⟩ (fun w2 hw=>OC f1.p f1.c w2 (hsF.b0 w2 hw))) rfl<|ag rfl<|ah (cU (.r rfl) rfl) rfl<|ah (cU (.r rfl) rfl) rfl<|ax rfl<|ax rfl<|aq<|au (ah (aX (vs:=[_,_,_,_,_,_]) oy (.r rfl) (bj (bI (off:=0) hf1 ⟨_,rfl⟩)) rfl) rfl<|ah (bK (xs:=[_,_,_,_]) (vs:=[_,_,_,_]) C19 ⟨(.r rfl),(.r rfl),(.r rfl),(.r rfl),trivial⟩ (fun w2 hw=>SQ f1.p f1.c w2 (hsF.b0 w2 hw))) rfl<|ag rfl<|ah (cU (.r rfl) rfl) rfl<|ah (cU (.r rfl) rfl) rfl<|ax rfl<|ax rfl<|aN ?_)))
  refine aj<|au (ah (aX (vs:=[_,_,_,_,_,_]) oy (.r rfl) (bj (bI (off:=0) hf1 ⟨_,rfl⟩)) rfl) rfl<|ah (bK (xs:=[_,_,_,_]) (vs:=[_,_,_,_]) C19 ⟨(.r rfl),(.r rfl),(.r rfl),(.r rfl),trivial⟩ (fun w2 hw=>RZ f1.p f1.c w2 (hsF.b0 w2 hw))) rfl<|ag rfl<|ah (cU (.r rfl) rfl) rfl<|ah (cU (.r rfl) rfl) rfl<|ax rfl<|ax rfl<|aq<|av<|au (ag rfl<|VO.u rfl<|ag rfl<|aK rfl (fun hg=>aS (.r rfl))<|aK rfl (fun hg=>gN (.g hg rfl) (.r rfl))<|ah (cD (.r rfl) (.r rfl) rfl rfl) rfl<|ag rfl<|aK rfl (fun hg=>aS (.r rfl))<|aK rfl (fun hg=>gN (.g hg rfl) (.r rfl))<|ah (cD (.r rfl) (.r rfl) rfl rfl) rfl<|ag rfl<|aK rfl (fun hg=>aS (.r rfl))<|aK rfl (fun hg=>gN (.g hg rfl) (.r rfl))<|ah (cD (.r rfl) (.r rfl) rfl rfl) rfl<|ag rfl<|aK rfl (fun hg=>aS (.r rfl))<|aK rfl (fun hg=>gN (.g hg rfl) (.r rfl))<|ah (cD (.r rfl) (.r rfl) rfl rfl) rfl<|ag rfl<|aK rfl (fun hg=>aS (.r rfl))<|aK rfl (fun hg=>gN (.g hg rfl) (.r rfl))<|ah (cD (.r rfl) (.r rfl) rfl rfl) rfl<|ag rfl<|aK rfl (fun hg=>aS (.r rfl))<|aK rfl (fun hg=>gN (.g hg rfl) (.r rfl))<|ah (cD (.r rfl) (.r rfl) rfl rfl) rfl<|ag rfl<|aK rfl (fun hg=>aS (.r rfl))<|aK rfl (fun hg=>gN (.g hg rfl) (.r rfl))<|ah (cD (.r rfl) (.r rfl) rfl rfl) rfl<|aN ?_))
  refine aj<|ay rfl (fun h118=>?_) (fun h118=>?_)
  · (exfalso;exact absurd h118 (by decide))
  ·
   refine aE (aj<|au (ah (aX (vs:=[_,_,_,_,_,_]) oy (.r rfl) (bj (bI (off:=0) hf1 ⟨_,rfl⟩)) rfl) rfl<|aB rfl<|eW (ps:=[(_,_),(_,_)]) (vs:=[(_,_),(_,_)]) (Z:=[_,_]) (C:=[_,_]) fk Z3 N3 ⟨(.r rfl),(.r rfl),trivial⟩ rfl rfl rfl rfl ⟨_,[_],[_,_],rfl,rfl,rfl,rfl,⟨_,[_],[_,_],rfl,rfl,rfl,rfl,rfl⟩⟩ fun b21=>aB rfl<|cd (xs:=[_,_]) (vs:=[_,_]) C20 ⟨(.r rfl),(.r rfl),trivial⟩ (fun w2 hw=>QU f1.p f1.c b21 w2 (hsF.b0 w2 hw) (mT [1,5] (dQ (hw.inv 0 _ rfl)))) fun yt _=>aB rfl<|aW (aS (.r rfl))<|aB rfl<|aW (cU (.r rfl) rfl)<|aB rfl<|aW (cU (.r rfl) rfl)<|aB rfl<|aW (LO.as (.r rfl))<|aB rfl<|aW (LO.as (.r rfl))<|aq<|au (ah (aX (vs:=[_,_,_,_,_,_]) oy (.r rfl) (bj (bI (off:=0) hf1 ⟨_,rfl⟩)) rfl) rfl<|ah (aX (vs:=[_,_,_,_,_,_]) oy (.r rfl) (bj (bI (off:=0) hf2 ⟨_,rfl⟩)) rfl) rfl<|aB rfl<|cd (xs:=[_,_,_,_]) (vs:=[_,_,_,_]) C21 ⟨(.r rfl),(.r rfl),(.r rfl),(.r rfl),trivial⟩ (fun w2 hw=>OU f1.p f1.c f2.p f2.c w2 (hsF.b0 w2 hw) (hsH.b0 w2 hw)) fun ye _=>aB rfl<|aW (aS (.r rfl))<|aB rfl<|aW (cU (.r rfl) rfl)<|aB rfl<|aW (cU (.r rfl) rfl)<|aB rfl<|aW (LO.as (.r rfl))<|aB rfl<|aW (LO.as (.r rfl))<|aq ?_)))
   refine au (ah (aX (vs:=[_,_,_,_,_,_]) oy (.r rfl) (bj (bI (off:=0) hf1 ⟨_,rfl⟩)) rfl) rfl<|ah (aX (vs:=[_,_,_,_,_,_]) oy (.r rfl) (bj (bI (off:=0) hf2 ⟨_,rfl⟩)) rfl) rfl<|aB rfl<|cd (xs:=[_,_,_,_,_,_]) (vs:=[_,_,_,_,_,_]) C22 ⟨(.r rfl),(.r rfl),(.r rfl),(.r rfl),(.r rfl),(.r rfl),trivial⟩ (fun w2 hw=>O9 f1.p f1.c f2.p f2.c w2 (hsF.b0 w2 hw) (hsH.b0 w2 hw)) fun ym _=>aB rfl<|aW (aS (.r rfl))<|aB rfl<|aW (cU (.r rfl) rfl)<|aB rfl<|aW (cU (.r rfl) rfl)<|aB rfl<|aW (LO.as (.r rfl))<|aB rfl<|aW (LO.as (.r rfl))<|aq<|av<|au (ag rfl<|VO.u rfl<|ag rfl<|aK rfl (fun hg=>aS (.r rfl))<|aK rfl (fun hg=>gN (.g hg rfl) (.r rfl))<|ah (cD (.r rfl) (.r rfl) rfl rfl) rfl<|ag rfl<|aK rfl (fun hg=>aS (.r rfl))<|aK rfl (fun hg=>gN (.g hg rfl) (.r rfl))<|ah (cD (.r rfl) (.r rfl) rfl rfl) rfl<|ag rfl<|aK rfl (fun hg=>aS (.r rfl))<|VO.bc (x:=147) rfl (fun hg14_10=>(by exfalso;exact absurd hg14_10 (by decide))) (fun hg14_10=>ns rfl rfl (congrArg iB hg14_10) rfl<|eW (ps:=[(_,_)]) (vs:=[(_,_)]) (Z:=[_]) (C:=[_]) fk Z3 N3 ⟨(.r rfl),trivial⟩ rfl rfl rfl rfl ⟨_,[_],[_],rfl,rfl,rfl,rfl,rfl⟩ fun b28=>ns rfl rfl (congrArg iB hg14_10) rfl<|eW (ps:=[(_,_)]) (vs:=[(_,_)]) (Z:=[_]) (C:=[_]) fk Z3 N3 ⟨(.r rfl),trivial⟩ rfl rfl rfl rfl ⟨_,[_],[_],rfl,rfl,rfl,rfl,rfl⟩ fun b29=>ns rfl rfl (congrArg iB hg14_10) rfl<|eW (ps:=[(_,_),(_,_)]) (vs:=[(_,_),(_,_)]) (Z:=[_,_]) (C:=[_,_]) tQ Qt qL ⟨(.r rfl),(.r rfl),trivial⟩ rfl rfl rfl rfl ⟨_,[_],[_,_],rfl,rfl,rfl,rfl,⟨_,[_],[_,_],rfl,rfl,rfl,rfl,rfl⟩⟩ fun b30=>ns rfl rfl (congrArg iB hg14_10) rfl<|aW (bK (xs:=[_,_]) (vs:=[_,_]) C17 ⟨(.g (by rw[hg14_10];rfl) rfl),(.r rfl),trivial⟩ (fun w2 hw=>I7 [⟨yt.p1,yt.c1,[-1]⟩,⟨yt.p2,yt.c2,[0]⟩] [⟨some ⟨b28,0,none⟩,1,[-1]⟩,⟨some ⟨b29,0,none⟩,1,[0]⟩] yt.p yt.c (some ⟨b30,0,none⟩) 2 w2 (RR.gM hw 7 8 rfl rfl) (Jo (mT [-1] (dQ (hw.inv 2 _ rfl))) (mT [0] (dQ (hw.inv 1 _ rfl))) (dQ (hw.inv 0 _ rfl))) (show 2≤1000000 by decide) (Dd rfl rfl)))<|ns rfl rfl (congrArg iB hg14_10) rfl<|aW (LO.not (.r rfl))<|aB rfl<|aW (LO.pkF (.r rfl) hg14_10 (.r rfl))<|aB rfl<|aW (aS (.r rfl))<|aK rfl (fun hg=>aS (.r rfl))<|aK rfl (fun hg=>bE Am (.g hg rfl) rfl)<|aK rfl (fun hg=>gN (.g hg rfl) (.r rfl))<|aB rfl<|aW (cD (.r rfl) (.r rfl) rfl rfl)<|aB rfl<|aW (aS (.r rfl))<|aK rfl (fun hg=>aS (.r rfl))<|aK rfl (fun hg=>cy Am EO (fun _ hw=>(bL hw 4 rfl).some (by rfl)) (.g hg rfl) (.r rfl) (j:=0) rfl jz)<|aK rfl (fun hg=>aP wY (.g hg rfl) rfl)<|aK rfl (fun hg=>aC O3 (.g hg rfl) (fun w hw=>aA (off:=0) (cO hw 4 rfl (show[ye.e][0]? =some ye.e from rfl)) ⟨_,rfl⟩))<|aK rfl (fun hg=>gN (.g hg rfl) (.r rfl))<|aB rfl<|aW (cD (.r rfl) (.r rfl) rfl rfl)<|aB rfl<|aW (aS (.r rfl))<|aK rfl (fun hg=>aS (.r rfl))<|aK rfl (fun hg=>bE Qx (.g hg rfl) rfl)<|aK rfl (fun hg=>gN (.g hg rfl) (.r rfl))<|aB rfl<|aW (cD (.r rfl) (.r rfl) rfl rfl)<|aB rfl<|aW (aS (.r rfl))<|aK rfl (fun hg=>aS (.r rfl))<|aK rfl (fun hg=>cy Qx XM (fun _ hw=>(bL hw 3 rfl).some (by rfl)) (.g hg rfl) (.r rfl) (j:=3) rfl (by decide))<|aK rfl (fun hg=>aX (vs:=[_,_]) A72 (.g hg rfl) (fun w hw=>aA (off:=0) (cO hw 3 rfl (show xMv[3]? =some _ from rfl)) ⟨_,rfl⟩) rfl)<|aK rfl (fun hg=>fA (ps:=[(_,_)]) (vs:=[(_,_)]) (C:=[_,_]) B72 ⟨(.r rfl),trivial⟩ rfl ⟨_,[_],[_,_],rfl,rfl,rfl,rfl,rfl⟩)<|aK rfl (fun hg=>LO.Qr («as» :=[_,_]) (bs:=[_,_]) YD (.g hg rfl) (.g hg rfl) rfl rfl)<|aB rfl<|aW (cD (.r rfl) (.r rfl) rfl rfl)<|aB rfl<|aW (aS (.r rfl))<|aK rfl (fun hg=>aS (.r rfl))<|aK rfl (fun hg=>cy Qx XM (fun _ hw=>(bL hw 3 rfl).some (by rfl)) (.g hg rfl) (.r rfl) (j:=4) rfl (by decide))<|aK rfl (fun hg=>aX (vs:=[_,_]) A72 (.g hg rfl) (fun w hw=>aA (off:=0) (cO hw 3 rfl (show xMv[4]? =some _ from rfl)) ⟨_,rfl⟩) rfl)<|aK rfl (fun hg=>fA (ps:=[(_,_)]) (vs:=[(_,_)]) (C:=[_,_]) B72 ⟨(.r rfl),trivial⟩ rfl ⟨_,[_],[_,_],rfl,rfl,rfl,rfl,rfl⟩)<|aK rfl (fun hg=>LO.Qr («as» :=[_,_]) (bs:=[_,_]) YD (.g hg rfl) (.g hg rfl) rfl rfl)<|aB rfl<|aW (cD (.r rfl) (.r rfl) rfl rfl)<|aq ?_)))
   refine ay rfl (fun h185=>?_) (fun h185=>?_)
   · (exfalso;rcases h185 with((((z|z)|z)|z)|z)|z<;>exact z rfl)
   ·
    refine aE (aj<|av<|gw [] rfl ?_)
    show VC _ _ _ _ _ _ [] _ _
    refine aM (bO (r:=0) lO rfl<|ah (aX (vs:=[_,_,_,_,_]) qw (.r rfl) (bj (bI (off:=0) hf1 ⟨_,rfl⟩)) rfl) rfl<|aB rfl<|cd (xs:=[_,_,_]) (vs:=[_,_,_]) C5 ⟨(.r rfl),(.r rfl),(.r rfl),trivial⟩ (fun w2 hw=>yY xG 5 1 w2 YU) fun yb _=>aB rfl<|aW (aS (.r rfl))<|aB rfl<|aW (cU (.r rfl) rfl)<|aB rfl<|aW (cU (.r rfl) rfl)<|aB rfl<|aW (LO.as (.r rfl))<|aB rfl<|aW (LO.as (.r rfl))<|aq<|av<|au (ag rfl<|VO.u rfl<|aq<|ay rfl (fun h193=>?_) (fun h193=>?_)))
    · (exfalso;exact absurd h193 (by decide))
    ·
     refine aE (aj<|av<|VC.res (fun w hw=>St.bV (Rs:=[]) (St.bV (Rs:=[]) ((St.bV (Rs:=[]) ((hw.fX 76 6))).fX 92 7)))<|aM (ag rfl<|ah (aX (vs:=[_,_,_,_,_,_]) oy (.r rfl) (bj (bI (off:=0) hf1 ⟨_,rfl⟩)) rfl) rfl<|aB rfl<|HO.oU (first:=[]) (cap:=[]) (xs:=[_,_,_]) (vs:=[_,_,_]) [_,_,_,_,_,_,_] [] (dq (L1:=[_,_,_,_,_,_,_]++[]) [5,4,3,6,2,0,1] rfl rfl) (.r rfl) C8 ⟨(.r rfl),(.r rfl),(.r rfl),trivial⟩ (fun w2 hw hh=>TF yb.1 (L6 yb.2) (-1) none 0 none 0 (fun _=>0) [] (fun _=>none) 10 xF f1.p f1.c w2 hh (fun hs=>hsF.b0 _ (St.fz (R:=tI yb.1 (L6 yb.2) (-1) none 0 [] none 0 (fun _=>0) [] (fun _=>none)) (rest:=[]) (dq (L1:=[_,_,_,_,_,_,_]) [5,4,3,6,2,0,1] rfl rfl _ hw) hs)) (YQ _) (show(1:Int)≤5∧(5:Int)≤1073741824 by decide) (by decide)) fun ad had=>aB rfl<|aW (aS (.r rfl))<|aB rfl<|aW (cU (.r rfl) rfl)<|aB rfl<|aW (cU (.r rfl) rfl)<|aB rfl<|aW (LO.as (.r rfl))<|aN ?_))
     have hadn:ad.yN.l.length=1:=by rw[←pL had.1];exact xNf
     have hadl:ad.tk.length≤800000:=by have z:=had.2.2;rw[hadn]at z;exact Nat.le_trans z (by decide)
     refine aj<|au (ag rfl<|ah (aX (vs:=[_,_,_,_,_,_]) oy (.r rfl) (bj (bI (off:=0) hf2 ⟨_,rfl⟩)) rfl) rfl<|aB rfl<|HO.oU (first:=[]) (cap:=[]) (xs:=[_,_,_]) (vs:=[_,_,_]) [_,_,_,_,_,_,_] [_,_,_,_,_,_,_,_] (dq (L1:=[_,_,_,_,_,_,_]++[_,_,_,_,_,_,_,_]) [0,1,2,3,4,5,6,7,8,9,10,11,12,13,14] rfl rfl) (.r rfl) C8 ⟨(.r rfl),(.r rfl),(.r rfl),trivial⟩ (fun w2 hw hh=>Tt yb.1 (L6 yb.2) 10 ad.pm ad.cm [ad.yN] ad.pt ad.ct (fun _=>0) ad.tk ad.of 20 xH f2.p f2.c w2 hh (fun hs=>hsH.b0 _ (St.fz (R:=tI yb.1 (L6 yb.2) 10 ad.pm ad.cm [ad.yN] ad.pt ad.ct (fun _=>0) ad.tk ad.of) (rest:=[_,_,_,_,_,_,_,_]) (dq (L1:=[_,_,_,_,_,_,_,_,_,_,_,_,_,_,_]) [0,1,2,3,4,5,6,7,8,9,10,11,12,13,14] rfl rfl _ hw) hs)) (Y9 _) (show(1:Int)≤5∧(5:Int)≤1073741824 by decide) hadl 0 1 rfl (show 1≤48 by decide) ad.yN rfl xF had.1 (fun hs=>vO.uq (St.ln (St.fz (R:=tI yb.1 (L6 yb.2) 10 ad.pm ad.cm [ad.yN] ad.pt ad.ct (fun _=>0) ad.tk ad.of) (rest:=[_,_,_,_,_,_,_,_]) (dq (L1:=[_,_,_,_,_,_,_,_,_,_,_,_,_,_,_]) [0,1,2,3,4,5,6,7,8,9,10,11,12,13,14] rfl rfl _ hw) hs)) had.1 0 1 3 7 rfl rfl rfl rfl) [[]] [ad.yN.l.length] (Yi had.2.1) rfl rfl rfl (by decide) (fun _=>by decide)) fun ae hae=>aB rfl<|aW (aS (.r rfl))<|aB rfl<|aW (cU (.r rfl) rfl)<|aB rfl<|aW (cU (.r rfl) rfl)<|aB rfl<|aW (LO.as (.r rfl))<|aN ?_)
     have haen:ae.yN.l.length=1:=by rw[←pL hae.ar];exact xNh
     have hes:ae.ev.l.map db.m=[⟨4,[0],[0]⟩]:=by have z:=hae.ev;rw[hadn,haen]at z;exact xEv z
     have hkd:=hae.kd
     rw[hes]at hkd
     have hb0:=had.2.1
     rw[hadn]at hb0
     have hb1:=hae.K1
     rw[hes,haen]at hb1
     obtain⟨htkm,hks⟩:=ab5 hb0 hb1
     refine aj<|au (ag rfl<|ah (aX (vs:=[_,_,_,_,_,_]) oy (.r rfl) (bj (bI (off:=0) hf2 ⟨_,rfl⟩)) rfl) rfl<|ah (bK (xs:=[_,_,_]) (vs:=[_,_,_]) C8 ⟨(.r rfl),(.r rfl),(.r rfl),trivial⟩ (fun w2 hw=>RM yb.1 yb.2 _ _ _ _ _ f2.p f2.c w2 (dQ (hw.inv 0 _ rfl)) (hsH.b0 w2 hw))) rfl<|ag rfl<|ah (cU (.r rfl) rfl) rfl<|ah (cU (.r rfl) rfl) rfl<|ax rfl<|aq<|au (ag rfl<|aB rfl<|cd (xs:=[_]) (vs:=[_]) C23 ⟨(.r rfl),trivial⟩ (fun w2 hw=>Ko yb.1 _ _ _ _ _ _ ae.tk w2 (dQ (hw.inv 0 _ rfl)) (fK hw 1 rfl) (fun t ht=>⟨(RO.qu (E:=3) (z:=1) (P:=cH.ap) (C:=cH.ac) (X:=cH.ar) (f:=nC) hw 2 rfl ht),(RO.qu (E:=3) (z:=1) (P:=cH.pp) (C:=cH.pc) (X:=cH.pa) (f:=nC) hw 5 rfl ht),(RO.qu (E:=3) (z:=1) (P:=cH.cp) (C:=cH.cc) (X:=cH.ch) (f:=nC) hw 6 rfl ht)⟩) htkm) fun yk _=>ax rfl<|aq ?_))
     refine au (ag rfl<|ah (ia (.r rfl) (.r rfl)) rfl<|ag rfl<|bh rfl (fun hg=>aS (.r rfl))<|bh rfl (fun hg=>ia (.g hg rfl) (.r rfl))<|ah (e7 (.r rfl) rfl rfl (.r rfl)) rfl<|ag rfl<|bh rfl (fun hg=>aS (.r rfl))<|bh rfl (fun hg=>ia (.g hg rfl) (.r rfl))<|ah (e7 (.r rfl) rfl rfl (.r rfl)) rfl<|ag rfl<|bh rfl (fun hg=>aS (.r rfl))<|bh rfl (fun hg=>bE tY (.g hg rfl) rfl)<|bh rfl (fun hg=>ia (.g hg rfl) (.r rfl))<|ah (e7 (.r rfl) rfl rfl (.r rfl)) rfl<|ag rfl<|bh rfl (fun hg=>aS (.r rfl))<|bh rfl (fun hg=>cy tY vU (fun _ hw=>(bL hw 0 rfl).some (by rfl)) (.g hg rfl) (.r rfl) (j:=0) rfl jz)<|bh rfl (fun hg=>aP TV (.g hg rfl) rfl)<|bh rfl (fun hg=>aC O3 (.g hg rfl) (fun w hw=>aA (off:=0) (cO hw 0 rfl (show[yk.t][0]? =some yk.t from rfl)) ⟨_,rfl⟩))<|bh rfl (fun hg=>ia (.g hg rfl) (.r rfl))<|ah (e7 (.r rfl) rfl rfl (.r rfl)) rfl<|ag rfl<|bh rfl (fun hg=>aS (.r rfl))<|bh rfl (fun hg=>cy tY vU (fun _ hw=>(bL hw 0 rfl).some (by rfl)) (.g hg rfl) (.r rfl) (j:=0) rfl jz)<|bh rfl (fun hg=>aP Ou (.g hg rfl) rfl)<|bh rfl (fun hg=>aC O3 (.g hg rfl) (fun w hw=>aA (off:=3) (cO hw 0 rfl (show[yk.t][0]? =some yk.t from rfl)) ⟨_,rfl⟩))<|bh rfl (fun hg=>ia (.g hg rfl) (.r rfl))<|ah (e7 (.r rfl) rfl rfl (.r rfl)) rfl<|ag rfl<|bh rfl (fun hg=>aS (.r rfl))<|bh rfl (fun hg=>cy tY vU (fun _ hw=>(bL hw 0 rfl).some (by rfl)) (.g hg rfl) (.r rfl) (j:=0) rfl jz)<|bh rfl (fun hg=>aP vf (.g hg rfl) rfl)<|bh rfl (fun hg=>aC iL (.g hg rfl) (fun w hw=>aA (off:=2) (cO hw 0 rfl (show[yk.t][0]? =some yk.t from rfl)) ⟨_,rfl⟩))<|VO.bc (x:=243) rfl (fun hg23_29=>ns rfl rfl (congrArg iB hg23_29) rfl<|eW (ps:=[(_,_),(_,_)]) (vs:=[(_,_),(_,_)]) (Z:=[_,_]) (C:=[_,_]) fk Z3 N3 ⟨(.r rfl),(.r rfl),trivial⟩ rfl rfl rfl rfl ⟨_,[_],[_,_],rfl,rfl,rfl,rfl,⟨_,[_],[_,_],rfl,rfl,rfl,rfl,rfl⟩⟩ fun b75=>ns rfl rfl (congrArg iB hg23_29) rfl<|aW (bK (xs:=[_,_]) (vs:=[_,_]) Qk ⟨(.g hg23_29 rfl),(.r rfl),trivial⟩ (fun w2 hw=>th [0,0] [0,0] yk.ap yk.ac (some ⟨b75,0,none⟩) 2 w2 (yD (RO.qu (E:=3) (z:=1) (P:=cH.ap) (C:=cH.ac) (X:=cH.ar) (f:=nC) (x:=yk.t) hw 2 rfl (bW.2 rfl))) (mT [0,0] (dQ (hw.inv 0 _ rfl))) (by decide)))<|aB rfl<|aW (LO.pkT (.r rfl) hg23_29 (.r rfl))<|aB rfl<|aW (aS (.r rfl))<|bh rfl (fun hg=>aS (.r rfl))<|bh rfl (fun hg=>bK (xs:=[_]) (vs:=[_]) C24 ⟨(.g hg rfl),trivial⟩ (fun w2 hw=>Ol yb.1 yb.2 _ _ _ ([ad.yN]++[ae.yN]) _ _ _ ae.tk ae.of w2 (dQ (hw.inv 5 _ rfl)) (hw.inv 8 _ rfl) rfl htkm hks hkd))<|bh rfl (fun hg=>fA (ps:=[(_,_),(_,_),(_,_),(_,_)]) (vs:=[(_,_),(_,_),(_,_),(_,_)]) (C:=[_,_,_,_,_,_,_,_,_]) B78 ⟨(.r rfl),(.r rfl),(.r rfl),(.r rfl),trivial⟩ rfl ⟨_,[_],[_,_,_,_,_,_,_,_,_],rfl,rfl,rfl,rfl,⟨_,[_],[_,_,_,_,_,_,_,_,_],rfl,rfl,rfl,rfl,⟨_,[_],[_,_,_,_,_,_,_,_,_],rfl,rfl,rfl,rfl,⟨_,[_],[_,_,_,_,_,_,_,_,_],rfl,rfl,rfl,rfl,rfl⟩⟩⟩⟩)<|bh rfl (fun hg=>LO.eqA («as» :=[_,_,_,_,_,_,_,_,_]) (bs:=[_,_,_,_,_,_,_,_,_]) abP (.g hg rfl) (.g hg rfl) rfl rfl)<|aB rfl<|aW (e7 (.r rfl) rfl rfl (.r rfl))<|aB rfl<|aW (LO.as (.r rfl))<|aN ?_) (fun hg23_29=>(by exfalso;exact absurd (hg23_29.symm.trans (show _=true from rfl)) (by decide))))
     refine aj<|be (dP rfl rfl (fun w hw=>?_))
     exact⟨rfl,(hst1.call (hst2.call hw)).nil⟩
theorem wX {a:Int} (h1: -100≤a) (h2:a≤100):0≤a*a∧a*a≤10000:=by
 have key:∀n:Nat,n≤100→((n:Int))*n≤10000:=fun n hn=>by
  have:=Nat.mul_le_mul hn hn
  have h:((n*n:Nat):Int)≤10000:=by omega
  rw[Int.natCast_mul]at h;exact h
 rcases Int.le_total 0 a with h|h
 ·obtain⟨n,rfl⟩:∃n:Nat,a=n:=⟨a.toNat,by omega⟩
  exact⟨Int.mul_nonneg h h,key n (by omega)⟩
 ·obtain⟨n,rfl⟩:∃n:Nat,a= -(n:Int):=⟨(-a).toNat,by omega⟩
  rw[Int.neg_mul_neg]
  exact⟨Int.mul_nonneg (by omega) (by omega),key n (by omega)⟩
theorem Nz {l:List Int} {n:Int} {i:Nat} (hi:i<l.length) (h:l.getD i 0=n):n∈l:=by
 rw[aO,aw hi]at h
 have h:l[i]=n:=h
 rw[←h];exact List.getElem_mem hi
theorem MP {l:List Int} {n:Int} (h:∀k,k<l.length→¬l.getD k 0=n):¬n∈l:=fun hm=>by
 obtain⟨k,hk,e⟩:=List.mem_iff_getElem.1 hm
 refine h k hk ?_
 rw[aO,aw hk];exact e
theorem Bm {l:List Nat} {p:Nat}:((p:Int)∈l.map fun n:Nat=>(n:Int))↔p∈l:=by
 rw[bN]
 exact⟨fun⟨a,h1,h2⟩=>by
   have:a=p:=by omega
   subst this;exact h1,fun h=>⟨p,h,rfl⟩⟩
theorem Rj {w:World} {p:Option Addr} {l:List Nat} (h:RO 1 nC w p l):RO 1 iC w p (l.map fun n:Nat=>(n:Int)):=by
 have e:(l.map fun n:Nat=>(n:Int)).map iC=l.map nC:=by rw[dV];rfl
 unfold RO at*;rw[e];exact h
section
variable {W H:Nat} {vs ts:List Span} {lv:Int} {ar br:oV} {ow sm:List Int} {i j m p:Nat}
end
theorem Y5:DD af 191:=⟨3,4,.i64,Tryz.underlying191,Tryz.underlying3,by unfold dr;kernel_rfl⟩
theorem C98:fh af 98:=⟨_,Tryz.func98,by decide,rfl⟩
theorem C97:fh af 97:=⟨_,Tryz.func97,by decide,rfl⟩
theorem _root_.Go.SL.RO.Iv {α:Type} {f:α→List Value} {β:Bs} {L:List dg} {w:World} {E z cap:Nat} {p:Option Addr} {l:List α} (hw:St β L w) (i:Nat) (hi:L[i]? =some (qx E z p cap (l.map f))):RO z f w p l:=AU hw i hi
theorem OX {α:Type} {f:α→List Value} {β:Bs} {L:List dg} {w:World} {E z cap:Nat} {p:Option Addr} {l:List α} (hw:St β L w) (i:Nat) (hi:L[i]? =some (qx E z p cap (l.map f))):l.length≤cap:=by
 have:=(hw.inv i _ hi).1
 rwa [ak]at this
abbrev cI (l:List Nat):List Int:=l.map fun n:Nat=>(n:Int)
theorem Np {ml:List Nat} {x:Nat}:xL (sD (cI ml)) (x:Int)=sD (cI (x::ml)):=by
 funext m
 unfold xL sD cI
 rw[List.map_cons]
 rw[←Bool.decide_or]
 exact decide_eq_decide.2 dU.symm
theorem zb {ml:List Nat} {x:Nat}:sD (cI ml) (x:Int)=true↔x∈ml:=by
 unfold sD;rw[decide_eq_true_eq];exact Bm
theorem Cr {ml:List Nat} {x:Nat}:ve (fun y=>decide (y∈ml)) x=fun y=>decide (y∈x::ml):=by
 funext y
 unfold ve
 rw[←Bool.decide_or]
 exact decide_eq_decide.2 (by rw[dU];exact or_congr eq_comm Iff.rfl)
theorem QV {ml:List Nat} {l:List Int} (h:Og (sD (cI ml)) l):∃k:List Nat,l=cI k∧k.Pairwise (· < ·)∧∀x,x∈k↔x∈ml:=by
 have hnn:∀n,n∈l→∃k:Nat,n=k∧k∈ml:=fun n hn=>by
  have:=(h.2 n).1 hn
  unfold sD at this
  rw[decide_eq_true_eq]at this
  obtain⟨k,hk,e⟩:=bN.1 this
  exact⟨k,e.symm,hk⟩
 have e:l=cI (l.map Int.toNat):=by
  unfold cI
  rw[dV]
  refine(List.map_id l).symm.trans (eO fun n hn=>?_)
  obtain⟨k,rfl,_⟩:=hnn n hn
  rfl
 refine⟨l.map Int.toNat,e,?_,fun x=>?_⟩
 ·refine List.pairwise_map.2 (h.1.imp_of_mem fun {a b} ha hb hab=>?_)
  obtain⟨k,rfl,_⟩:=hnn a ha
  obtain⟨j,rfl,_⟩:=hnn b hb
  have:k<j:=by omega
  exact this
 ·constructor
  ·intro hx
   obtain⟨n,hn,rfl⟩:=bN.1 hx
   obtain⟨k,rfl,hk⟩:=hnn n hn
   exact hk
  ·intro hx
   exact bN.2 ⟨(x:Int),(h.2 x).2 (zb.2 hx),rfl⟩
structure Qw where
 l:List Nat
 p:Option Addr
 c:Nat
structure Ww (nx:Nat→List Nat) (n:Nat) (l:List Nat):Prop where
 asc:l.Pairwise (· < ·)
 mem:∀x,x∈l↔Ak nx n x
theorem Il (b:Nat) (h:jk) (la:Int) (q:B1) (pt:Option Addr) (ct:Nat) (kd:Nat→Int) (tk:List cH) (w:World) (hb:fG w ⟨b,0,none⟩ (uO h la q pt tk.length ct kd)) (htk:RO 6 e9 w pt tk) (n:Nat) (t:cH) (hnt:tk[n]? =some t):
 Calls af 83 #[.pointer (some ⟨b,0,none⟩),.int .i64 (n:Int)] w fun e w'=>e= .returned (.tuple #[QZ t,.int .i64 0])∧St (bs w) [] w':=by
 have hnl:=(an.1 hnt).1
 refine enter (vs:=[_,_]) (env:=[(0,_),(1,_)]) Tryz.func83 rfl rfl rfl rfl ?_
 refine au (aB rfl<|cJ (C:=#[_,_,_,_,_,_]) Qp rfl fun b1=>ax rfl<|aq<|av<|aD<|au (ag rfl<|ah (bK (xs:=[_]) (vs:=[_]) R0 ⟨(.r rfl),trivial⟩ (fun w2 hw=>o6 b h la q pt tk.length ct kd w2 (bj hb w2 hw))) rfl<|ah (LO.not (.r rfl)) rfl<|ax rfl<|aN ?_))
 refine aj<|ay rfl (fun h6=>?_) (fun h6=>?_)
 · (exfalso;exact h6 rfl)
 ·
  refine au (ag rfl<|dK rfl<|ag rfl<|aK rfl (fun hg=>aS (.r rfl))<|aK rfl (fun hg=>aS (.r rfl))<|aK rfl (fun hg=>LO.nc (.g hg rfl))<|aK rfl (fun hg=>aP (r:=9) pK (.g hg rfl) rfl)<|aK rfl (fun hg=>aC K5 (.g hg rfl) (bj (bI (off:=9) hb ⟨_,rfl⟩)))<|aK rfl (fun hg=>bE tY (.g hg rfl) rfl)<|aK rfl (fun hg=>iw (.g hg rfl) (.g hg rfl))<|ah (cD (.r rfl) (.r rfl) rfl rfl) rfl<|ax rfl<|aq<|ay rfl (fun h11=>?_) (fun h11=>?_))
  · (exfalso;omega)
  ·
   refine aE (bB (aj<|au (ag rfl<|ah (LO.nc (.r rfl)) rfl<|bO (r:=9) pK rfl<|ah (aC K5 (.r rfl) (bj (bI (off:=9) hb ⟨_,rfl⟩))) rfl<|ag rfl<|ah (bM tY vU htk.sm (.r rfl) (.r rfl) rfl (by have:=(an.1 hnt).1;omega)) rfl<|ah (aX (vs:=[_,_,_,_,_,_]) Sq (.r rfl) (fun w hw=>aA (off:=0) ((fun w3 h3=>cY (htk.b0 w3 h3) hnt) w hw) ⟨_,rfl⟩) rfl) rfl<|cu<|cq 0 (vs:=[_,_,_,_,_,_]) (C':=[_,_,_,_,_,_]) (L':=[_]) vU rfl rfl rfl rfl rfl rfl rfl rfl<|ax rfl<|aq<|be (dh (vs:=[_,_]) rfl ⟨RV.agg (vs:=[_,_,_,_,_,_]) Sq rfl (aF 0 rfl ⟨_,rfl⟩) rfl,rfl,trivial⟩ (fun w hw=>?_)))))
   exact⟨rfl,hw.nil⟩
theorem ME (b:Nat) (h:jk) (la:Int) (q:B1) (pt:Option Addr) (ct:Nat) (kd:Nat→Int) (tk:List cH) (w:World) (hb:fG w ⟨b,0,none⟩ (uO h la q pt tk.length ct kd)) (n:Int) (hno:n<0∨(tk.length:Int)≤n):
 Calls af 83 #[.pointer (some ⟨b,0,none⟩),.int .i64 n] w fun e w'=>e= .returned (.tuple #[.agg #[.int .i64 0,.int .i64 0,.slice none 0 0,.int .i64 0,.slice none 0 0,.slice none 0 0],.int .i64 4])∧St (bs w) [] w':=by
 refine enter (vs:=[_,_]) (env:=[(0,_),(1,_)]) Tryz.func83 rfl rfl rfl rfl ?_
 refine au (aB rfl<|cJ (C:=#[_,_,_,_,_,_]) Qp rfl fun b1=>ax rfl<|aq<|av<|aD<|au (ag rfl<|ah (bK (xs:=[_]) (vs:=[_]) R0 ⟨(.r rfl),trivial⟩ (fun w2 hw=>o6 b h la q pt tk.length ct kd w2 (bj hb w2 hw))) rfl<|ah (LO.not (.r rfl)) rfl<|ax rfl<|aN ?_))
 refine aj<|ay rfl (fun h6=>?_) (fun h6=>?_)
 · (exfalso;exact h6 rfl)
 ·
  refine au (ag rfl<|dK rfl<|ag rfl<|aK rfl (fun hg=>aS (.r rfl))<|aK rfl (fun hg=>aS (.r rfl))<|aK rfl (fun hg=>LO.nc (.g hg rfl))<|aK rfl (fun hg=>aP (r:=9) pK (.g hg rfl) rfl)<|aK rfl (fun hg=>aC K5 (.g hg rfl) (bj (bI (off:=9) hb ⟨_,rfl⟩)))<|aK rfl (fun hg=>bE tY (.g hg rfl) rfl)<|aK rfl (fun hg=>iw (.g hg rfl) (.g hg rfl))<|ah (cD (.r rfl) (.r rfl) rfl rfl) rfl<|ax rfl<|aq<|ay rfl (fun h11=>?_) (fun h11=>?_))
  ·
   refine au (ah (fA (ps:=[]) (vs:=[]) (C:=[_,_,_,_,_,_]) B76 trivial rfl rfl) rfl<|cu<|cq 0 (vs:=[_,_,_,_,_,_]) (C':=[_,_,_,_,_,_]) (L':=[_]) vU rfl rfl rfl rfl rfl rfl rfl rfl<|ax rfl<|aq<|be (dA (bA (dh (vs:=[_,_]) rfl ⟨RV.agg (vs:=[_,_,_,_,_,_]) Sq rfl (aF 0 rfl ⟨_,rfl⟩) rfl,rfl,trivial⟩ (fun w hw=>?_)))))
   exact⟨rfl,hw.nil⟩
  · (exfalso;omega)
theorem xm (b:Nat) (h:jk) (la:Int) (q:B1) (pt:Option Addr) (ct:Nat) (kd:Nat→Int) (tk:List cH) (w:World) (hb:fG w ⟨b,0,none⟩ (uO h la q pt tk.length ct kd)) (fv:Value) (n:Int) (hno:n<0∨(tk.length:Int)≤n):
 Calls af 79 #[.pointer (some ⟨b,0,none⟩),.int .i64 n,fv] w fun e w'=>e= .returned (.tuple #[.slice none 0 0,.int .i64 4])∧St (bs w) [] w':=by
 refine enter (vs:=[_,_,_]) (env:=[(0,_),(1,_),(2,_)]) Tryz.func79 rfl rfl rfl rfl ?_
 refine au (ax rfl<|ax rfl<|aq<|au (ag rfl<|ag rfl<|ah (bK (xs:=[_,_]) (vs:=[_,_]) C83 ⟨(.r rfl),(.r rfl),trivial⟩ (fun w2 hw=>ME b h la q pt ct kd tk w2 (bj hb w2 hw) n hno)) rfl<|ag rfl<|ah (cU (.r rfl) rfl) rfl<|ah (cU (.r rfl) rfl) rfl<|aB rfl<|cJ (C:=#[_,_,_,_,_,_]) Qp rfl fun b1=>cu<|cq 0 (vs:=[_,_,_,_,_,_]) (C':=[_,_,_,_,_,_]) (L':=[_]) vU rfl rfl rfl rfl rfl rfl rfl rfl<|ax rfl<|aq<|av ?_))
 refine au (ag rfl<|VO.u rfl<|aq<|ay rfl (fun h20=>?_) (fun h20=>?_))
 ·
  refine au (ag rfl<|ax rfl<|ax rfl<|aq<|be (bA (dh (vs:=[_,_]) rfl ⟨rfl,rfl,trivial⟩ (fun w hw=>?_))))
  exact⟨rfl,hw.nil⟩
 · (exfalso;exact h20 (by decide))
theorem uU (b:Nat) (h:jk) (la:Int) (q:B1) (pt:Option Addr) (ct:Nat) (kd:Nat→Int) (tk:List cH) (w:World) (hb:fG w ⟨b,0,none⟩ (uO h la q pt tk.length ct kd)) (htk:RO 6 e9 w pt tk) (hlen:tk.length≤1000000) (n:Nat) (fn:Nat) (sp:cH→Option Addr) (sc:cH→Nat) (sl:cH→List Nat) (hfn:fh af fn) (hq:∀{L:List dg} (w2:World) (t:cH),St (bs w) L w2→Calls af fn ([]++[QZ t]++[]).toArray w2 fun e w'=>e= .returned (.slice (sp t) (sl t).length (sc t))∧St (bs w2) [] w') (hro:∀t,t∈tk→RO 1 nC w (sp t) (sl t)) (nx:Nat→List Nat) (hnx:∀k t,tk[k]? =some t→sl t=nx k) (hall:∀x,Ak nx n x→x<tk.length) (hsz:(LZ nx tk.length (fun _=>false)+(nx n).length)≤1000000000) (t:cH) (hnt:tk[n]? =some t):
 Calls af 79 #[.pointer (some ⟨b,0,none⟩),.int .i64 (n:Int),.func (.func fn) #[] #[]] w fun e w'=>∃y:Qw,Ww nx n y.l∧e= .returned (.tuple #[.slice y.p y.l.length y.c,.int .i64 0])∧St (bs w) [own 3 1 y.p y.c (y.l.map nC)] w':=by
 have hst:sl t=nx n:=hnx n t hnt
 have htm:=al hnt
 have hsl:(sl t).length≤1000000000:=by rw[hst];omega
 refine enter (vs:=[_,_,_]) (env:=[(0,_),(1,_),(2,_)]) Tryz.func79 rfl rfl rfl rfl ?_
 refine au (ax rfl<|ax rfl<|aq<|au (ag rfl<|ag rfl<|ah (bK (xs:=[_,_]) (vs:=[_,_]) C83 ⟨(.r rfl),(.r rfl),trivial⟩ (fun w2 hw=>Il b h la q pt ct kd tk w2 (bj hb w2 hw) (htk.b0 w2 hw) n t hnt)) rfl<|ag rfl<|ah (cU (.r rfl) rfl) rfl<|ah (cU (.r rfl) rfl) rfl<|aB rfl<|cJ (C:=#[_,_,_,_,_,_]) Qp rfl fun b1=>cu<|cq 0 (vs:=[_,_,_,_,_,_]) (C':=[_,_,_,_,_,_]) (L':=[_]) vU rfl rfl rfl rfl rfl rfl rfl rfl<|ax rfl<|aq<|av ?_))
 refine au (ag rfl<|VO.u rfl<|aq<|ay rfl (fun h20=>?_) (fun h20=>?_))
 · (exfalso;exact h20 rfl)
 ·
  refine aE (aj<|au (aB rfl<|HO.YM fun b3=>aB rfl<|aW (LO.as (.r rfl))<|aq<|av<|au (ag rfl<|ah (aX (vs:=[_,_,_,_,_,_]) Sq (.r rfl) (aF 1 rfl ⟨_,rfl⟩) rfl) rfl<|ah (LO.IW (first:=[]) (cap:=[]) (xs:=[_]) (vs:=[_]) (.r rfl) hfn ⟨.r rfl,trivial⟩ (fun w2 hw2=>hq w2 t hw2)) rfl<|aB rfl<|cd (xs:=[_]) (vs:=[_]) C89 ⟨(.r rfl),trivial⟩ (fun w2 hw=>yg (sl t) (sp t) (sc t) w2 ((hro t htm).b0 w2 hw) (by omega)) fun y _=>aB rfl<|aW (LO.as (.r rfl))<|aN ?_)))
  refine aj<|aD<|VC.res (fun w hw=>St.toO hw 0 rfl) ?_
  show VC _ _ _ _ _ _ [qx 3 1 y.p y.c ((sl t).map nC),_,_] _ _
  refine bS (α:=(List Nat)×(Option Addr)×Nat×(List Nat)) 2 (fun gx=>[(11,.slice gx.2.1 gx.1.length gx.2.2.1)]) [(0,_),(2,_),(10,_)] (fun gx=>[qx 3 1 gx.2.1 gx.2.2.1 (gx.1.map nC),vT b3 (sD (cI gx.2.2.2))]) (fun gx=>RL nx tk.length n (fun y=>decide (y∈gx.2.2.2)) gx.1∧gx.2.2.2.length+gx.1.length+LZ nx tk.length (fun y=>decide (y∈gx.2.2.2))≤(LZ nx tk.length (fun _=>false)+(nx n).length)) (fun gx=>gx.1.length+LZ nx tk.length (fun y=>decide (y∈gx.2.2.2))) ((sl t),y.p,y.c,[]) (by exact⟨by rw[hst];exact RL.zero,by rw[hst];show 0+(nx n).length+LZ nx tk.length (fun _=>false)≤_;omega⟩) (.c4 rfl rfl rfl rfl .nil) (fun _ h=>h) ?_
  rintro ⟨td,tp,tc,ml⟩ ⟨hRL,hcnt⟩
  show VC _ _ _ _ _ ([(11,.slice tp td.length tc)]++_) ([qx 3 1 tp tc (td.map nC),vT b3 (sD (cI ml))]++_) _ _
  dsimp only at hRL hcnt
  refine av<|au (ag rfl<|ah (bE fk (.r rfl) rfl) rfl<|ah (LO.gt (.r rfl) (.r rfl)) rfl<|aq<|ay rfl (fun h29=>?_) (fun h29=>?_))
  ·
   refine aE (aj<|aD<|av<|VC.T3 (φ:=jR tp td.length∧td.length≤tc) (fun w hw=>⟨(RO.Iv hw 0 rfl).sm,OX hw 0 rfl⟩) fun htd=>?_)
   obtain⟨k,rest,rfl⟩:∃k rest,td=k::rest:=by cases td with|nil=>(simp at h29)|cons k rest=>exact⟨k,rest,rfl⟩
   have hkl:=hall k (hRL.t k List.mem_cons_self)
   refine aM (ag rfl<|ah (bM fk N3 htd.1 (.r rfl) (.r rfl) (j:=0) rfl (by simp)) rfl<|ah (aC O3 (.r rfl) (fun w hw=>aA (off:=0) ((fun w3 h3=>cY (RO.Iv h3 0 rfl) (show(k::rest)[0]? =some k from rfl)) w hw) ⟨_,rfl⟩)) rfl<|ax rfl<|aq<|au (ag rfl<|ah (eN (LO.sl (l:=1) (E:=3) (z:=1) fk (by kernel_rfl) (.r rfl) (.r rfl) rfl (by simp)) (show il (qy tp tc 1 1) ((k::rest).length-1) (tc-1)=il (qy tp tc 1 1) rest.length (tc-1) from rfl)) rfl<|ax rfl<|aq<|av<|VC.res (fun w hw=>St.ZG hw 0 rfl) ?_))
   show VC _ _ _ _ _ _ [qx 3 1 (qy tp tc 1 1) (tc-1) (rest.map nC),_,_] _ _
   refine aM (ag rfl<|ag rfl<|ah (LO.lk Y5 (.r rfl) (.r rfl) (fun _ hw=>St.inv hw 1 _ rfl)) rfl<|ah (LO.not (.r rfl)) rfl<|aq<|ay rfl (fun h38=>?_) (fun h38=>?_))
   ·
    have hnin:k∉ml:=fun z=>h38 (zb.2 z)
    obtain⟨tt,hkt⟩:=du (l:=tk) (n:=k) hkl
    have hskk:=hnx k tt hkt
    have hrl:=Wb (nx:=nx) (met:=fun y=>decide (y∈ml)) hkl (decide_eq_false hnin)
    refine au (ag rfl<|ag rfl<|cu<|HO.mu 1 (fun R=>[_,R,_]) Y5 (.r rfl) (.r rfl) (.r rfl) rfl (fun _=>rfl)<|aN ?_)
    rw[Np]
    refine aj<|aM (ag rfl<|ag rfl<|ag rfl<|ah (LO.nc (.r rfl)) rfl<|bO (r:=9) pK rfl<|ah (aC K5 (.r rfl) (bj (bI (off:=9) hb ⟨_,rfl⟩))) rfl<|ag rfl<|ah (bM tY vU htk.sm (.r rfl) (.r rfl) rfl (by have:=(an.1 hkt).1;omega)) rfl<|ah (aX (vs:=[_,_,_,_,_,_]) Sq (.r rfl) (fun w hw=>aA (off:=0) ((fun w3 h3=>cY (htk.b0 w3 h3) hkt) w hw) ⟨_,rfl⟩) rfl) rfl<|ah (LO.IW (first:=[]) (cap:=[]) (xs:=[_]) (vs:=[_]) (.r rfl) hfn ⟨.r rfl,trivial⟩ (fun w2 hw2=>hq w2 tt hw2)) rfl<|aB rfl<|HO.ab3 (f:=nC) (l:=rest) (m:=(sl tt)) 0 (fun R=>[R,_,_]) fk fk I3 (.r rfl) (.r rfl) rfl (fun w hw=>(hro tt (al hkt)).b0 w hw) (fun _=>rfl) (fun _=>rfl) rfl rfl (fun _=>rfl) rfl rfl (by rw[hskk]at*;simp only[dX]at hcnt;omega) fun p10 c10 _=>aB rfl<|aW (LO.as (.r rfl))<|aN<|bB<|aZ fun a w ha hw=>⟨((rest++sl tt),p10,c10,(k::ml)),⟨by rw[←Cr,hskk];exact hRL.new,by rw[←Cr];simp only[aJ,dX]at*;rw[hskk];omega⟩,(by dsimp only;rw[←Cr];simp only[aJ,dX];rw[hskk];omega),ha.sub (.cons (congrArg (fun n=>some (il p10 n c10)) (aJ ..).symm) (.cons rfl (.cons rfl (.cons rfl .nil)))),hw⟩)
   ·
    have hin:k∈ml:=zb.1 (eK.1 h38)
    refine aE (bB<|aZ fun a w ha hw=>⟨(rest,(qy tp tc 1 1),(tc-1),ml),⟨hRL.RG (decide_eq_true hin),by dsimp only;simp only[dX]at hcnt;omega⟩,(by dsimp only;simp only[dX];omega),ha.sub (.c4 rfl rfl rfl rfl .nil),hw⟩)
  ·
   have htd0:td=[]:=List.eq_nil_of_length_eq_zero (by omega)
   subst htd0
   have hmb:∀n,n∈cI ml→ -9223372036854775808≤n∧n≤9223372036854775807:=fun z hz=>by obtain⟨x,hx,rfl⟩:=bN.1 hz;have:=hall x (hRL.m x (decide_eq_true hx));have:=hlen;omega
   have hml:(cI ml).length≤1000000000000:=by rw[ak];simp only[List.length_nil]at hcnt;omega
   refine bU (aH (aH (cB (aj<|au (ag rfl<|aB rfl<|cd (xs:=[_]) (vs:=[_]) C98 ⟨(.r rfl),trivial⟩ (fun w2 _=>Wj _ w2) fun kf _=>aB rfl<|cd (xs:=[_]) (vs:=[_]) C97 ⟨(.r rfl),trivial⟩ (fun w2 hw=>Mt kf b3 (cI ml) w2 (hw.inv 0 _ rfl) (hw.inv 2 _ rfl) hmb hml) fun so hso=>aB rfl<|aW (LO.as (.r rfl))<|ax rfl<|aq<|be (dh (vs:=[_,_]) rfl ⟨rfl,rfl,trivial⟩ (fun w hw=>?_)))))))
   obtain⟨⟨sp_,sc_,l⟩,hl⟩:∃x:Option Addr×Nat×List Int,so=x:=⟨_,rfl⟩
   subst hl
   obtain⟨hasc,_⟩:=hso
   obtain⟨k2,e2,h1,h2⟩:=QV hasc
   dsimp only at e2
   subst e2
   rw[show(cI k2).map Az=k2.map nC from by rw[dV];rfl]at hw
   exact⟨⟨k2,sp_,sc_⟩,⟨h1,fun x=>(h2 x).trans (by rw[←hRL.done (x:=x),decide_eq_true_eq])⟩,by show _=bT (Value.tuple #[.slice sp_ k2.length sc_,.int .i64 0]);rw[show(cI k2).length=k2.length from ak ..];rfl,dq [0] rfl rfl _ hw⟩
structure EP (w:World) (p:Option Addr) (l:List db):Prop where
 ev:RO 3 db.cells w p l
 f:∀e,e∈l→RO 1 nC w e.fp e.f
 t:∀e,e∈l→RO 1 nC w e.tp e.t
theorem EP.b0 {w0:World} {p:Option Addr} {l:List db} (h:EP w0 p l):∀{L:List dg} (w:World),St (bs w0) L w→EP w p l:=fun w hw=>⟨h.ev.b0 w hw,fun e he=>(h.f e he).b0 w hw,fun e he=>(h.t e he).b0 w hw⟩
theorem nG (l m:List Nat) (p:Option Addr) (c:Nat) (q:Option Addr) (d:Nat) (w:World) (hl:RO 1 nC w p l) (hm:RO 1 nC w q m) (hn:l.length≤1000000):Calls af 16 #[.slice p l.length c,.slice q m.length d] w fun e w'=>e= .returned (.bool (decide (l=m)))∧St (bs w) [] w':=by
 have z:=th (l.map fun n:Nat=>(n:Int)) (m.map fun n:Nat=>(n:Int)) p c q d w (Rj hl) (Rj hm) (by rw[ak];exact hn)
 rw[ak,ak]at z
 refine z.mono fun e w' ⟨h1,h2⟩=>⟨?_,h2⟩
 rw[h1]
 refine congrArg (fun b=>bT (.bool b)) ?_
 have hinj:Function.Injective (fun n:Nat=>(n:Int)):=fun a b e=>by have e:(a:Int)=(b:Int):=e;omega
 by_cases h:l=m
 ·rw[decide_eq_true h,decide_eq_true (by rw[h])]
 ·rw[decide_eq_false h,decide_eq_false fun z=>h (List.map_inj_right (fun a b e=>hinj e) |>.1 z)]
theorem jj:ee af 157 4:=vJ
theorem Z4:dr af 4 (.bool false):=by unfold dr;kernel_rfl
theorem N4:(af.info? 4).map (·.size)=some 1:=by kernel_rfl
theorem I4:j6 af 4 1 1 (.bool false):=⟨by kernel_rfl,by kernel_rfl,by unfold dr;kernel_rfl,rfl,by decide⟩
abbrev bC (b:Bool):List Value:=[.bool b]
theorem sg {l:List Bool} {n:Nat} (h:n<l.length):l[n]? =some (l.getD n false):=by rw[aO,aw h];rfl
theorem SJ {f:Nat→Bool} {k:Nat}:(bF (k+1)).map f=(bF k).map f++[f k]:=by rw[List.range_succ,bG];rfl
theorem NB {vs:List Span} {lv:Int} {k:Nat} {ml:List Bool} (h:ml=l1 k (et vs lv)):ml++[decide (lv≤(vs.getD k ⟨0,0⟩).hi)]=l1 (k+1) (et vs lv):=by rw[h];unfold l1;rw[SJ];rfl
theorem We (g:eo) (vs:List Span) (pv:Option Addr) (cv:Nat) (lv:Int) (w:World) (hv:fL w pv vs) (hn:vs.length≤1000000):
 Calls af 71 #[im g pv vs.length cv,.int .i64 lv] w fun e w'=>∃y:B9,True∧e= .returned (.slice y.p (l1 vs.length (et vs lv)).length y.c)∧St (bs w) [own 4 1 y.p y.c ((l1 vs.length (et vs lv)).map bC)] w':=by
 refine enter (vs:=[_,_]) (env:=[(0,_),(1,_)]) Tryz.func71 rfl rfl rfl rfl ?_
 refine au (aB rfl<|c8 (C:=#[_,_,_,_,_,_]) rfl rfl fun b1=>ax rfl<|aq<|au (ax rfl<|aq<|av ?_))
 refine au (ax rfl<|aq<|aD<|bS (α:=Nat×(List Bool)×(Option Addr)×Nat) 0 (fun gx=>[(5,.slice gx.2.2.1 gx.2.1.length gx.2.2.2),(6,.int .i64 (gx.1:Nat))]) [(1,_),(2,_)] (fun gx=>[own 4 1 gx.2.2.1 gx.2.2.2 (gx.2.1.map bC)]) (fun gx=>gx.1≤vs.length∧gx.2.1=l1 gx.1 (et vs lv)) (fun gx=>vs.length-gx.1) (0,[],none,0) (by exact⟨aY _,rfl⟩) (.c4 rfl rfl rfl rfl .nil) (fun _ h=>(h.fX 4 1)) ?_)
 rintro ⟨k,ml,po,co⟩ ⟨hkk,hm⟩
 show VC _ _ _ _ _ ([(5,.slice po ml.length co),(6,.int .i64 (k:Nat))]++_) ([own 4 1 po co (ml.map bC)]++_) _ _
 dsimp only at hkk hm
 have hmll:ml.length=k:=by rw[hm,gn]
 refine av<|au (ag rfl<|bO (r:=5) lN rfl<|cL 1 zH rfl rfl ⟨_,rfl⟩ rfl<|ah (bE xq (.r rfl) rfl) rfl<|dK rfl<|aq<|ay rfl (fun h11=>?_) (fun h11=>?_))
 ·
  refine aE (aj<|av<|aD<|aM (ag rfl<|bO (r:=5) lN rfl<|cL 1 zH rfl rfl ⟨_,rfl⟩ rfl<|ag rfl<|ah (bM xq yA hv.some (.r rfl) (.r rfl) rfl (by omega)) rfl<|bO mF rfl<|ah (aC O3 (.r rfl) (fun w hw=>aA (off:=1) ((hv.at (j:=k) (by omega)) w hw) ⟨_,rfl⟩)) rfl<|ag rfl<|ah (iw (.r rfl) (.r rfl)) rfl<|aB rfl<|eW (ps:=[(_,_)]) (vs:=[(_,_)]) (Z:=[_]) (C:=[_]) jj Z4 N4 ⟨(.r rfl),trivial⟩ rfl rfl rfl rfl ⟨_,[_],[_],rfl,rfl,rfl,rfl,rfl⟩ fun b3=>aB rfl<|eP ((decide (lv≤(vs.getD k ⟨0,0⟩).hi))) 1 0 (fun R=>[_,R,_]) jj jj I4 (.r rfl) (.r rfl) rfl rfl rfl rfl rfl rfl rfl (fun _=>rfl) rfl (by omega) fun p10 c10=>aB rfl<|aW (LO.as (.r rfl))<|aN<|bB (aj<|aM (ag rfl<|da rfl rfl (by omega) (by omega) rfl<|ax rfl<|aN<|aZ fun a w ha hw=>⟨(k+1,ml++[decide (lv≤(vs.getD k ⟨0,0⟩).hi)],p10,c10),⟨by dsimp only;omega,NB hm⟩,(by dsimp only;omega),ha.sub (.c4 rfl rfl rfl rfl .nil),hw.gY [1,2] rfl⟩))))
 ·
  have hke:k=vs.length:=by omega
  subst hke
  subst hm
  refine bU (aH (aH (cB (aj<|au (ag rfl<|ax rfl<|aq<|be (dP rfl rfl (fun w hw=>?_)))))))
  exact⟨⟨po,co⟩,trivial,rfl,dq [0] rfl rfl _ hw⟩
theorem SI (g:eo) (p q:Nat) (w:World) (hg:dH g) (hp:p<gW g*gH g) (hq:q<gW g*gH g):
 Calls af 113 #[lL g,.int .i64 (p:Int),.int .i64 (q:Int)] w fun e w'=>e= .returned (.bool (Pn (gW g) p q))∧St (bs w) [] w':=by
 have har:=iM hg
 obtain⟨hW,hH,hW1,hW2,hH1,hH2⟩:=An hg
 have hp1:=nE hg hp
 have hq1:=nE hg hq
 have hp2:p%gW g<gW g:=jW _ (by omega)
 have hq2:q%gW g<gW g:=jW _ (by omega)
 refine enter (vs:=[_,_,_]) (env:=[(0,_),(1,_),(2,_)]) Tryz.func113 rfl rfl rfl rfl ?_
 refine au (aB rfl<|c8 (C:=#[_,_,_,_,_]) rfl rfl fun b1=>ax rfl<|aq<|av<|gj mixed (eT rfl<|bl (aP (r:=3) iQ (.r rfl) rfl) rfl<|bl (aC O3 (.r rfl) (aF 0 rfl ⟨_,rfl⟩)) rfl<|bl (eN (nk (.r rfl) (.r rfl) (by omega)) (congrArg (cX .i64) (sK hg p))) rfl<|eT rfl<|bl (aP (r:=3) iQ (.r rfl) rfl) rfl<|bl (aC O3 (.r rfl) (aF 0 rfl ⟨_,rfl⟩)) rfl<|bl (eN (nk (.r rfl) (.r rfl) (by omega)) (congrArg (cX .i64) (sK hg q))) rfl<|bl (gz (.r rfl) (.r rfl) (wi (by omega) (by omega))) rfl<|eT rfl<|bl (aP (r:=3) iQ (.r rfl) rfl) rfl<|bl (aC O3 (.r rfl) (aF 0 rfl ⟨_,rfl⟩)) rfl<|bl (eN (mz (.r rfl) (.r rfl) (by omega) (wi (by rw[jB hg];have:=nE hg (p:=p) (by omega);omega) (by rw[jB hg];have:=nE hg (p:=p) (by omega);omega))) (congrArg (cX .i64) (jB hg p))) rfl<|eT rfl<|bl (aP (r:=3) iQ (.r rfl) rfl) rfl<|bl (aC O3 (.r rfl) (aF 0 rfl ⟨_,rfl⟩)) rfl<|bl (eN (mz (.r rfl) (.r rfl) (by omega) (wi (by rw[jB hg];have:=nE hg (p:=q) (by omega);omega) (by rw[jB hg];have:=nE hg (p:=q) (by omega);omega))) (congrArg (cX .i64) (jB hg q))) rfl<|bl (gz (.r rfl) (.r rfl) (wi (by omega) (by omega))) rfl<|bl (LO.as (.r rfl)) rfl<|bl (LO.as (.r rfl)) rfl<|gy) (by kernel_rfl)<|aj<|av ?_)
 refine aM (ag rfl<|ag rfl<|ah (LO.mul (.r rfl) (.r rfl) (wi (by have:=wX (a:=((p%gW g:Nat):Int)-((q%gW g:Nat):Int)) (by omega) (by omega);omega) (by have:=wX (a:=((p%gW g:Nat):Int)-((q%gW g:Nat):Int)) (by omega) (by omega);omega))) rfl<|ag rfl<|ag rfl<|ah (LO.mul (.r rfl) (.r rfl) (wi (by have:=wX (a:=((p / gW g:Nat):Int)-((q / gW g:Nat):Int)) (by omega) (by omega);omega) (by have:=wX (a:=((p / gW g:Nat):Int)-((q / gW g:Nat):Int)) (by omega) (by omega);omega))) rfl<|ah (LO.add (.r rfl) (.r rfl) (wi (by have:=wX (a:=((p%gW g:Nat):Int)-((q%gW g:Nat):Int)) (by omega) (by omega);have:=wX (a:=((p / gW g:Nat):Int)-((q / gW g:Nat):Int)) (by omega) (by omega);omega) (by have:=wX (a:=((p%gW g:Nat):Int)-((q%gW g:Nat):Int)) (by omega) (by omega);have:=wX (a:=((p / gW g:Nat):Int)-((q / gW g:Nat):Int)) (by omega) (by omega);omega))) rfl<|ah (ia (.r rfl) (.r rfl)) rfl<|ax rfl<|aq<|be (dP rfl rfl (fun w hw=>?_)))
 exact⟨rfl,hw.nil⟩
theorem OS (l:List Int) (p:Option Addr) (c:Nat) (n:Int) (w:World) (hl:Ints w p l) (hn:l.length≤1000000):
 Calls af 78 #[.slice p l.length c,.int .i64 n] w fun e w'=>e= .returned (.bool (decide (n∈l)))∧St (bs w) [] w':=by
 refine enter (vs:=[_,_]) (env:=[(0,_),(1,_)]) Tryz.func78 rfl rfl rfl rfl ?_
 refine au (ax rfl<|aq<|av<|au (ax rfl<|aq ?_))
 refine aD<|bS (α:=Nat) 0 (fun gx=>[(5,.int .i64 (gx:Nat))]) [(0,_),(1,_)] (fun gx=>[]) (fun gx=>gx≤l.length∧∀k,k<gx→¬l.getD k 0=n) (fun gx=>l.length-gx) 0 (by exact⟨aY _,fun k h=>absurd h (cQ _)⟩) (.cons rfl (.cons rfl (.cons rfl .nil))) (fun _ h=>h) ?_
 rintro i ⟨hi,hz⟩
 refine av<|au (ag rfl<|ag rfl<|ah (bE fk (.r rfl) rfl) rfl<|dK rfl<|aq<|ay rfl (fun h9=>?_) (fun h9=>?_))
 ·
  refine aE (aj<|av<|aD<|au (ag rfl<|ag rfl<|ah (bM fk N3 hl.some (.r rfl) (.r rfl) rfl (by omega)) rfl<|ah (aC O3 (.r rfl) (fun w hw=>aA (off:=0) ((hl.at (j:=i) (by omega)) w hw) ⟨_,rfl⟩)) rfl<|ag rfl<|ah (ia (.r rfl) (.r rfl)) rfl<|aq<|ay rfl (fun h17=>?_) (fun h17=>?_)))
  ·
   refine au (ax rfl<|aq<|be (dA (bA (bA (dA (bA (dP rfl rfl (fun w hw=>?_))))))))
   refine⟨congrArg (fun z=>bT (.bool z)) ?_,hw.nil⟩
   first |exact(decide_eq_true (Nz (i:=i) (by omega) h17)).symm|exact(decide_eq_false (MP (fun k hk=>hz k (by omega)))).symm
  ·
   refine aE (bB (aj<|aM (ag rfl<|da rfl rfl (by omega) (by omega) rfl<|ax rfl<|aN<|aZ fun a w ha hw=>⟨i+1,⟨by omega,D7 (P:=fun k=>¬l.getD k 0=n) hz h17⟩,(by omega),ha.sub (.cons rfl (.cons rfl (.cons rfl .nil))),hw⟩)))
 ·
  refine bU (aH (aH (cB (aj<|au (ax rfl<|aq<|be (dP rfl rfl (fun w hw=>?_)))))))
  refine⟨congrArg (fun z=>bT (.bool z)) ?_,hw.nil⟩
  first |exact(decide_eq_true (Nz (i:=i) (by omega) h17)).symm|exact(decide_eq_false (MP (fun k hk=>hz k (by omega)))).symm
theorem IZ (b:List Bool) (p:Option Addr) (c:Nat) (w:World) (hb:RO 1 bC w p b) (hn:b.length≤1000000):
 Calls af 93 #[.slice p b.length c] w fun e w'=>∃y:B9,True∧e= .returned (.slice y.p (qd b).length y.c)∧St (bs w) [own 3 1 y.p y.c ((qd b).map nC)] w':=by
 refine enter (vs:=[_]) (env:=[(0,_)]) Tryz.func93 rfl rfl rfl rfl ?_
 refine au (ax rfl<|aq<|au (ax rfl<|aq<|av ?_))
 refine au (ax rfl<|aq<|aD<|bS (α:=Nat×(List Nat)×(Option Addr)×Nat) 0 (fun gx=>[(3,.slice gx.2.2.1 gx.2.1.length gx.2.2.2),(4,.int .i64 (gx.1:Nat))]) [(0,_)] (fun gx=>[own 3 1 gx.2.2.1 gx.2.2.2 (gx.2.1.map nC)]) (fun gx=>gx.1≤b.length∧gx.2.1=nH b gx.1) (fun gx=>b.length-gx.1) (0,[],none,0) (by exact⟨aY _,rfl⟩) (.cons rfl (.cons rfl (.cons rfl .nil))) (fun _ h=>(h.fX 3 1)) ?_)
 rintro ⟨k,ml,po,co⟩ ⟨hkk,hm⟩
 show VC _ _ _ _ _ ([(3,.slice po ml.length co),(4,.int .i64 (k:Nat))]++_) ([own 3 1 po co (ml.map nC)]++_) _ _
 dsimp only at hkk hm
 have hmll:ml.length≤k:=by rw[hm];exact Fp
 refine av<|au (ag rfl<|ag rfl<|ah (bE jj (.r rfl) rfl) rfl<|dK rfl<|aq<|ay rfl (fun h8=>?_) (fun h8=>?_))
 ·
  refine aE (aj<|av<|aD<|au (ag rfl<|ag rfl<|ah (bM jj N4 hb.sm (.r rfl) (.r rfl) rfl (by omega)) rfl<|ah (aC O4 (.r rfl) (fun w hw=>aA (off:=0) ((fun w3 h3=>cY (hb.b0 w3 h3) (sg (n:=k) (by omega))) w hw) ⟨_,rfl⟩)) rfl<|aq<|ay rfl (fun h14=>?_) (fun h14=>?_)))
  ·
   refine aM (ag rfl<|ag rfl<|aB rfl<|eW (ps:=[(_,_)]) (vs:=[(_,_)]) (Z:=[_]) (C:=[_]) fk Z3 N3 ⟨(.r rfl),trivial⟩ rfl rfl rfl rfl ⟨_,[_],[_],rfl,rfl,rfl,rfl,rfl⟩ fun b2=>aB rfl<|eP (k) 1 0 (fun R=>[_,R]) fk fk I3 (.r rfl) (.r rfl) rfl rfl rfl rfl rfl rfl rfl (fun _=>rfl) rfl (by omega) fun p3 c3=>aB rfl<|aW (LO.as (.r rfl))<|aN<|bB (aj<|aM (ag rfl<|da rfl rfl (by omega) (by omega) rfl<|ax rfl<|aN<|aZ fun a w ha hw=>⟨(k+1,ml++[k],p3,c3),⟨by dsimp only;omega,by dsimp only;rw[Pp h14,hm]⟩,(by dsimp only;omega),ha.sub (.cons rfl (.cons rfl (.cons rfl .nil))),hw.gY [1] rfl⟩)))
  ·
   refine aE (bB (aj<|aM (ag rfl<|da rfl rfl (by omega) (by omega) rfl<|ax rfl<|aN<|aZ fun a w ha hw=>⟨(k+1,ml,po,co),⟨by dsimp only;omega,by dsimp only;rw[Oz (lE _ ▸ h14),hm]⟩,(by dsimp only;omega),ha.sub (.cons rfl (.cons rfl (.cons rfl .nil))),hw⟩)))
 ·
  have hke:k=b.length:=by omega
  subst hke
  subst hm
  refine bU (aH (aH (cB (aj<|au (ag rfl<|ax rfl<|aq<|be (dP rfl rfl (fun w hw=>?_)))))))
  exact⟨⟨po,co⟩,trivial,rfl,dq [0] rfl rfl _ hw⟩
theorem abI:fh af 113:=⟨_,Tryz.func113,by decide,rfl⟩
theorem RK {W H:Nat} {S:Nat→Bool} {p q r:Nat} {out out2:List Bool} {gr gr2:Bool} (h:DR W H S p out q r out2 gr2) (hg:gr=true):2*kI out2+gr2.toNat<2*kI out+gr.toNat:=by
 have h1:=h.le;have h2:=h.lt
 subst hg
 cases gr2 with
 |false=>show 2*kI out2+0<2*kI out+1;omega
 |true=>have:=h2 rfl;show 2*kI out2+1<2*kI out+1;omega
theorem R9 {W H:Nat} {S:Nat→Bool} {p q:Nat} {b out out2:List Bool} {gr:Bool} (h:DR W H S p out q 0 out2 gr) (hb:b.getD q false=S q) (hx:¬b.getD q false=true∨out2.getD q false=true):DR W H S p out (q+1) 0 out2 gr:=
 h.skip (hx.imp (fun z=>by rw[←hb];exact fM.2 z) id)
theorem Rk (g:eo) (s:Nat→Bool) (b:List Bool) (pb_:Option Addr) (cb:Nat) (p:Nat) (w:World) (hg:dH g) (hb:RO 1 bC w pb_ b) (hbs:b=l1 (gW g*gH g) s) (hp:p<gW g*gH g) (hs:s p=true):
 Calls af 94 #[lL g,.slice pb_ b.length cb,.int .i64 (p:Int)] w fun e w'=>∃y:B9,True∧e= .returned (.slice y.p b.length y.c)∧St (bs w) [own 4 1 y.p y.c ((sj (gW g) (gH g) s p).map bC)] w':=by
 have hgr:=hg
 have har:=iM hg
 obtain⟨hW,hH,hW1,hW2,hH1,hH2⟩:=An hg
 have hbl:b.length=gW g*gH g:=by rw[hbs,gn]
 have hbg:∀q,q<gW g*gH g→b.getD q false=s q:=fun q hq=>by rw[hbs,kO hq]
 refine enter (vs:=[_,_,_]) (env:=[(0,_),(1,_),(2,_)]) Tryz.func94 rfl rfl rfl rfl ?_
 refine au (aB rfl<|c8 (C:=#[_,_,_,_,_]) rfl rfl fun b1=>ax rfl<|aq<|au (ag rfl<|ah (bE jj (.r rfl) rfl) rfl<|aB rfl<|HO.Au (f:=bC) (z0:=false) (n:=b.length) rfl jj I4 (.r rfl) (.r rfl) rfl (by decide) (by omega) (by omega) fun b2=>aB rfl<|aW (LO.as (.r rfl))<|aq<|av ?_))
 refine aM (ag rfl<|ag rfl<|ah (cy jj N4 (fun _ hw=>(bL hw 0 rfl).some (by rw[ak];first |omega|(simp;done)|(simp;omega))) (.r rfl) (.r rfl) rfl (by omega)) rfl<|cu<|iV 0 (fun R=>[R,_]) (true) (vs:=[_]) N4 (.r rfl) (.r rfl) rfl (by first |omega|(simp;omega)) rfl rfl rfl rfl rfl (fun _=>rfl)<|aq<|av<|au (ax rfl<|aq<|aD ?_))
 refine bS (α:=(List Bool)×Bool) 1 (fun gx=>[(8,.bool gx.2)]) [(1,_),(3,_),(7,_)] (fun gx=>[own 4 1 (some ⟨b2,0,none⟩) b.length (gx.1.map bC)]) (fun gx=>DP (gW g) (gH g) s p gx.1∧(gx.2=false→gx.1=sj (gW g) (gH g) s p)) (fun gx=>2*kI gx.1+gx.2.toNat) (((bH b.length false).set p true),true) (by exact⟨by have z:=DP.zero hp hs;rw[←hbl]at z;exact z,fun z=>by cases z⟩) (.c4 rfl rfl rfl rfl .nil) (fun _ h=>h) ?_
 rintro ⟨out,gr⟩ ⟨hDP,hfin⟩
 show VC _ _ _ _ _ ([(8,.bool gr)]++_) ([own 4 1 (some ⟨b2,0,none⟩) b.length (out.map bC)]++_) _ _
 dsimp only at hDP hfin
 have holn:=hDP.len
 refine av<|au (ag rfl<|aq<|ay rfl (fun h17=>?_) (fun h17=>?_))
 ·
  refine aE (aj<|aD<|au (ax rfl<|aq<|au (ax rfl<|aN ?_)))
  refine aj<|aD<|bS (α:=Nat×(List Bool)×Bool) 1 (fun gx=>[(8,.bool gx.2.2),(9,.int .i64 (gx.1:Nat))]) [(1,_),(3,_),(7,_)] (fun gx=>[own 4 1 (some ⟨b2,0,none⟩) b.length (gx.2.1.map bC)]) (fun gx=>gx.1≤gW g*gH g∧DR (gW g) (gH g) s p out gx.1 0 gx.2.1 gx.2.2) (fun gx=>gW g*gH g-gx.1) (0,out,false) (by exact⟨aY _,DR.zero hDP⟩) (.c4 rfl rfl rfl rfl (.cons rfl .nil)) (fun _ h=>h) ?_
  rintro ⟨q,out2,gr2⟩ ⟨hq,hDR⟩
  show VC _ _ _ _ _ ([(8,.bool gr2),(9,.int .i64 (q:Nat))]++_) ([own 4 1 (some ⟨b2,0,none⟩) b.length (out2.map bC)]++_) _ _
  dsimp only at hq hDR
  have hol2:=hDR.dp.len
  refine av<|au (ag rfl<|ag rfl<|ah (bE jj (.r rfl) rfl) rfl<|dK rfl<|aq<|ay rfl (fun h21=>?_) (fun h21=>?_))
  ·
   refine aE (aj<|av<|aD<|av<|au (ag rfl<|ag rfl<|ah (bM jj N4 hb.sm (.r rfl) (.r rfl) rfl (by omega)) rfl<|ah (aC O4 (.r rfl) (fun w hw=>aA (off:=0) ((fun w3 h3=>cY (hb.b0 w3 h3) (sg (n:=q) (by omega))) w hw) ⟨_,rfl⟩)) rfl<|ah (LO.not (.r rfl)) rfl<|ag rfl<|aK rfl (fun hg=>aS (.r rfl))<|aK rfl (fun hg=>aS (.r rfl))<|aK rfl (fun hg=>cy jj N4 (fun _ hw=>(bL hw 0 rfl).some (by rw[ak];first |omega|(simp;done)|(simp;omega))) (.g hg rfl) (.g hg rfl) rfl (by omega))<|aK rfl (fun hg=>aC O4 (.g hg rfl) (fun w hw=>aA (off:=0) (cO hw 0 rfl (sg (n:=q) (by first |omega|(simp;omega)))) ⟨_,rfl⟩))<|ah (cD (.r rfl) (.r rfl) rfl rfl) rfl<|aq ?_))
   refine ay rfl (fun h34=>?_) (fun h34=>?_)
   ·
    refine bU (aH (cB (aj<|aM (ag rfl<|da rfl rfl (by omega) (by omega) rfl<|ax rfl<|aN<|aZ fun a w ha hw=>⟨(q+1,out2,gr2),⟨by dsimp only;omega,R9 hDR (hbg q (by omega)) h34⟩,(by dsimp only;omega),ha.sub (.c4 rfl rfl rfl rfl (.cons rfl .nil)),hw⟩))))
   ·
    have hsq:s q=true:=by rw[←hbg q (by omega)];exact eK.1 fun z=>h34 (.inl z)
    refine aE (aj<|au (ag rfl<|bO (r:=3) iQ rfl<|cL 1 O3 rfl rfl ⟨_,rfl⟩ rfl<|ah (gz (.r rfl) (.r rfl) (wi (by omega) (by omega))) rfl<|ah (eN (qo (.r rfl) (.r rfl)) (congrArg (cX .i64) (show Max.max (0:Int) ((q:Int)-g.wide)=((q-gW g:Nat):Int) by omega))) rfl<|ax rfl<|aq<|aD<|bS (α:=Nat×(List Bool)×Bool) 1 (fun gx=>[(8,.bool gx.2.2),(10,.int .i64 (gx.1:Nat))]) [(1,_),(3,_),(7,_),(9,_)] (fun gx=>[own 4 1 (some ⟨b2,0,none⟩) b.length (gx.2.1.map bC)]) (fun gx=>gx.1≤gW g*gH g∧DR (gW g) (gH g) s p out q gx.1 gx.2.1 gx.2.2) (fun gx=>gW g*gH g-gx.1) ((q-gW g),out2,gr2) (by exact⟨by dsimp only;omega,hDR.enter (by omega)⟩) (.c4 rfl rfl rfl rfl (.cons rfl (.cons rfl .nil))) (fun _ h=>h) ?_))
    rintro ⟨r,out3,gr3⟩ ⟨hr,hD3⟩
    show VC _ _ _ _ _ ([(8,.bool gr3),(10,.int .i64 (r:Nat))]++_) ([own 4 1 (some ⟨b2,0,none⟩) b.length (out3.map bC)]++_) _ _
    dsimp only at hr hD3
    have hol3:=hD3.dp.len
    refine av<|au (ag rfl<|ag rfl<|bO (r:=3) iQ rfl<|cL 1 O3 rfl rfl ⟨_,rfl⟩ rfl<|da rfl rfl (by omega) (by omega) rfl<|ah (LO.le (.r rfl) (.r rfl)) rfl<|ag rfl<|bh rfl (fun hg=>aS (.r rfl))<|bh rfl (fun hg=>aS (.r rfl))<|bh rfl (fun hg=>bE jj (.g hg rfl) rfl)<|bh rfl (fun hg=>LO.lt (.g hg rfl) (.g hg rfl))<|ah (e7 (.r rfl) rfl rfl (.r rfl)) rfl<|aq<|ay rfl (fun h51=>?_) (fun h51=>?_))
    ·
     refine aE (aj<|av<|aD<|au (ag rfl<|ag rfl<|ah (cy jj N4 (fun _ hw=>(bL hw 0 rfl).some (by rw[ak];first |omega|(simp;done)|(simp;omega))) (.r rfl) (.r rfl) rfl (by omega)) rfl<|ah (aC O4 (.r rfl) (fun w hw=>aA (off:=0) (cO hw 0 rfl (sg (n:=r) (by first |omega|(simp;omega)))) ⟨_,rfl⟩)) rfl<|ag rfl<|bh rfl (fun hg=>aS (.r rfl))<|bh rfl (fun hg=>aS (.r rfl))<|bh rfl (fun hg=>cy jj N4 (fun _ hw=>(bL hw 0 rfl).some (by rw[ak];first |omega|(simp;done)|(simp;omega))) (.g hg rfl) (.g hg rfl) rfl (by omega))<|bh rfl (fun hg=>aC O4 (.g hg rfl) (fun w hw=>aA (off:=0) (cO hw 0 rfl (sg (n:=q) (by first |omega|(simp;omega)))) ⟨_,rfl⟩))<|bh rfl (fun hg=>LO.not (.g hg rfl))<|ah (e7 (.r rfl) rfl rfl (.r rfl)) rfl<|ag rfl<|bh rfl (fun hg=>aX (vs:=[_,_,_,_,_]) qw (.r rfl) (aF 1 rfl ⟨_,rfl⟩) rfl)<|bh rfl (fun hg=>aS (.r rfl))<|bh rfl (fun hg=>aS (.r rfl))<|bh rfl (fun hg=>bK (xs:=[_,_,_]) (vs:=[_,_,_]) abI ⟨(.g hg rfl),(.g hg rfl),(.g hg rfl),trivial⟩ (fun w2 hw=>SI g q r w2 hgr (by omega) (by omega)))<|ah (e7 (.r rfl) rfl rfl (.r rfl)) rfl<|aq<|ay rfl (fun h70=>?_) (fun h70=>?_)))
     ·
      refine au (ag rfl<|ag rfl<|ah (cy jj N4 (fun _ hw=>(bL hw 0 rfl).some (by rw[ak];first |omega|(simp;done)|(simp;omega))) (.r rfl) (.r rfl) rfl (by omega)) rfl<|cu<|iV 0 (fun R=>[R,_]) (true) (vs:=[_]) N4 (.r rfl) (.r rfl) rfl (by omega) rfl rfl rfl rfl rfl (fun _=>rfl)<|aq<|aM (ax rfl<|aN<|bB (aj<|aM (ag rfl<|da rfl rfl (by omega) (by omega) rfl<|ax rfl<|aN<|aZ fun a w ha hw=>⟨(r+1,out3.set q true,true),⟨by dsimp only;omega,hD3.yes (by omega) (by omega) hsq h70.1.1 (lE _ ▸ h70.1.2) ((IS (by omega) (by omega)).1 h70.2)⟩,(by dsimp only;omega),ha.sub (.c4 rfl rfl rfl rfl (.cons rfl (.cons rfl .nil))),hw⟩))))
     ·
      refine aE (bB (aj<|aM (ag rfl<|da rfl rfl (by omega) (by omega) rfl<|ax rfl<|aN<|aZ fun a w ha hw=>⟨(r+1,out3,gr3),⟨by dsimp only;omega,hD3.no fun z=>h70 ⟨⟨z.1,by rw[z.2.1];decide⟩,(IS (by omega) (by omega)).2 z.2.2⟩⟩,(by dsimp only;omega),ha.sub (.c4 rfl rfl rfl rfl (.cons rfl (.cons rfl .nil))),hw⟩)))
    ·
     refine bU (aH (aH (cB (bB (aj<|aM (ag rfl<|da rfl rfl (by omega) (by omega) rfl<|ax rfl<|aN<|aZ fun a w ha hw=>⟨(q+1,out3,gr3),⟨by dsimp only;omega,hD3.next (by omega) (by omega)⟩,(by dsimp only;omega),ha.sub (.c4 rfl rfl rfl rfl (.cons rfl .nil)),hw⟩))))))
  ·
   have hqe:q=gW g*gH g:=by omega
   subst hqe
   refine bU (aH (aH (cB (bB<|aZ fun a w ha hw=>⟨(out2,gr2),⟨hDR.dp,fun z=>by dsimp only at z;subst z;exact hDR.fin hp hs⟩,(RK hDR h17),ha.sub (.c4 rfl rfl rfl rfl .nil),hw⟩))))
 ·
  have hgf:gr=false:=fM.2 h17
  have hoe:=hfin hgf
  subst hoe
  refine bU (aH (aH (cB (aj<|au (ag rfl<|ax rfl<|aq<|be (dP rfl rfl (fun w hw=>?_)))))))
  exact⟨⟨_,_⟩,trivial,rfl,dq [0] rfl rfl _ hw⟩
theorem C94:fh af 94:=⟨_,Tryz.func94,by decide,rfl⟩
theorem C93:fh af 93:=⟨_,Tryz.func93,by decide,rfl⟩
theorem BO {W H p i:Nat} {s:Nat→Bool} {l:List Nat}:(lU W H s p l i).length=W*H:=by unfold lU;rw[gn]
theorem N1 (b:List Bool) (n:Nat) (hn:n=b.length) (p:Option Addr) (c:Nat) (w:World) (hb:RO 1 bC w p b) (hl:b.length≤1000000):
 Calls af 93 #[.slice p n c] w fun e w'=>∃y:B9,True∧e= .returned (.slice y.p (qd b).length y.c)∧St (bs w) [own 3 1 y.p y.c ((qd b).map nC)] w':=by subst hn;exact IZ b p c w hb hl
structure PxY where
 rs:List (cG Nat)
 p:Option Addr
 c:Nat
theorem MO {W H p:Nat} {S:Nat→Bool} (hp:p<W*H):(gU W H S p).length≤W*H:=by
 have:=length_le_of_subset (l:=gU W H S p) (m:=bF (W*H)) (tg (S:=S) hp (W*H)) (fun x hx=>List.mem_range.2 (pH hp hx))
 simpa using this
theorem Eh (g:eo) (s:Nat→Bool) (b:List Bool) (pb_:Option Addr) (cb:Nat) (w:World) (hg:dH g) (hb:RO 1 bC w pb_ b) (hbs:b=l1 (gW g*gH g) s):
 Calls af 70 #[lL g,.slice pb_ b.length cb] w fun e w'=>∃y:PxY,y.rs.map cG.l=dM (gW g) (gH g) s∧e= .returned (.slice y.p y.rs.length y.c)∧St (bs w) [own 55 1 y.p y.c (y.rs.map lI),kZ 3 1 nC y.rs] w':=by
 have hgr:=hg
 have har:=iM hg
 have hbl:b.length=gW g*gH g:=by rw[hbs,gn]
 have hbg:∀q,q<gW g*gH g→b.getD q false=s q:=fun q hq=>by rw[hbs,kO hq]
 refine enter (vs:=[_,_]) (env:=[(0,_),(1,_)]) Tryz.func70 rfl rfl rfl rfl ?_
 refine au (aB rfl<|c8 (C:=#[_,_,_,_,_]) rfl rfl fun b1=>ax rfl<|aq<|au (ax rfl<|aq<|av ?_))
 refine aM (ag rfl<|ah (bE jj (.r rfl) rfl) rfl<|aB rfl<|HO.Au (f:=bC) (z0:=false) (n:=b.length) rfl jj I4 (.r rfl) (.r rfl) rfl (by decide) (by omega) (by omega) fun b2=>aB rfl<|aW (LO.as (.r rfl))<|aN ?_)
 rw[show bH b.length false=lU (gW g) (gH g) s 0 [] 0 from by rw[hbl];exact K8 (S:=s)]
 refine aj<|av<|au (ax rfl<|aq<|aD<|bS (α:=Nat×(List (cG Nat))×(Option Addr)×Nat) 1 (fun gx=>[(5,.slice gx.2.2.1 gx.2.1.length gx.2.2.2),(7,.int .i64 (gx.1:Nat))]) [(1,_),(2,_),(6,_)] (fun gx=>[own 4 1 (some ⟨b2,0,none⟩) b.length ((lU (gW g) (gH g) s gx.1 [] 0).map bC),own 55 1 gx.2.2.1 gx.2.2.2 (gx.2.1.map lI),kZ 3 1 nC gx.2.1]) (fun gx=>gx.1≤gW g*gH g∧gx.2.1.map cG.l=dz (gW g) (gH g) s gx.1) (fun gx=>gW g*gH g-gx.1) (0,[],none,0) (by exact⟨aY _,rfl⟩) (.c4 rfl rfl rfl rfl (.cons rfl .nil)) (fun _ h=>(((h.qi 3 1 nC).fX 55 1)).gY [2,0,1,3] rfl) ?_)
 rintro ⟨p,rs,pr,cr⟩ ⟨hpn,hrs⟩
 show VC _ _ _ _ _ ([(5,.slice pr rs.length cr),(7,.int .i64 (p:Nat))]++_) ([own 4 1 (some ⟨b2,0,none⟩) b.length ((lU (gW g) (gH g) s p [] 0).map bC),own 55 1 pr cr (rs.map lI),kZ 3 1 nC rs]++_) _ _
 dsimp only at hpn hrs
 have hrl:=MV hrs
 have hpl:=kh (W:=gW g) (H:=gH g) (S:=s) (p:=p)
 refine av<|au (ag rfl<|ag rfl<|ah (bE jj (.r rfl) rfl) rfl<|dK rfl<|aq<|ay rfl (fun h16=>?_) (fun h16=>?_))
 ·
  refine aE (aj<|av<|aD<|av<|au (ag rfl<|ag rfl<|ah (bM jj N4 hb.sm (.r rfl) (.r rfl) rfl (by omega)) rfl<|ah (aC O4 (.r rfl) (fun w hw=>aA (off:=0) ((fun w3 h3=>cY (hb.b0 w3 h3) (sg (n:=p) (by omega))) w hw) ⟨_,rfl⟩)) rfl<|ah (LO.not (.r rfl)) rfl<|ag rfl<|aK rfl (fun hg=>aS (.r rfl))<|aK rfl (fun hg=>aS (.r rfl))<|aK rfl (fun hg=>cy jj N4 (fun _ hw=>(bL hw 0 rfl).some (by rw[ak,BO];omega)) (.g hg rfl) (.g hg rfl) rfl (by omega))<|aK rfl (fun hg=>aC O4 (.g hg rfl) (fun w hw=>aA (off:=0) (cO hw 0 rfl (sg (n:=p) (by rw[BO];omega))) ⟨_,rfl⟩))<|ah (cD (.r rfl) (.r rfl) rfl rfl) rfl<|aq ?_))
  refine ay rfl (fun h29=>?_) (fun h29=>?_)
  ·
   have hold:dz (gW g) (gH g) s (p+1)=dz (gW g) (gH g) s p:=Le (h29.imp (fun z=>by rw[←hbg p (by omega)];exact fM.2 z) (fun z=>by rw[←Is (by omega)];exact z))
   refine bU (aH (cB (aj<|aM (ag rfl<|da rfl rfl (by omega) (by omega) rfl<|ax rfl<|aN ?_))))
   rw[←NK hold]
   refine aZ fun a w ha hw=>⟨(p+1,rs,pr,cr),⟨by dsimp only;omega,by dsimp only;rw[hold];exact hrs⟩,(by dsimp only;omega),ha.sub (.c4 rfl rfl rfl rfl (.cons rfl .nil)),(by exact dq (L1:=[_,_,_,_]) [0,1,2,3] rfl rfl _ hw)⟩
  ·
   have hsp:s p=true:=by rw[←hbg p (by omega)];exact eK.1 fun z=>h29 (.inl z)
   have hnew:=K9 (p:=p) (S:=s) (W:=gW g) (H:=gH g) (by rw[←Is (by omega)];exact fM.2 fun z=>h29 (.inr z))
   have hcl:=MO (W:=gW g) (H:=gH g) (S:=s) (p:=p) (by omega)
   refine aE (aj<|au (ah (aX (vs:=[_,_,_,_,_]) qw (.r rfl) (aF 3 rfl ⟨_,rfl⟩) rfl) rfl<|ag rfl<|ag rfl<|aB rfl<|cd (xs:=[_,_,_]) (vs:=[_,_,_]) C94 ⟨(.r rfl),(.r rfl),(.r rfl),trivial⟩ (fun w2 hw=>Rk g s b pb_ cb p w2 hgr (hb.b0 w2 hw) hbs (by omega) hsp) fun y1 _=>aB rfl<|cd (xs:=[_]) (vs:=[_]) C93 ⟨(.r rfl),trivial⟩ (fun w2 hw=>N1 (sj (gW g) (gH g) s p) b.length (by unfold sj;rw[gn];exact hbl) y1.p y1.c w2 (fK hw 0 rfl) (by unfold sj;rw[gn];omega)) fun y2 _=>aB rfl<|aW (LO.as (.r rfl))<|aN ?_))
   rw[Gh (by omega)]
   refine aj<|av<|au (ax rfl<|aN ?_)
   rw[FJ (l:=(gU (gW g) (gH g) s p))]
   refine aj<|aD<|gw [2,0,1,3,4,5] rfl<|bS (α:=Nat) 1 (fun gx=>[(9,.int .i64 (gx:Nat))]) [(1,_),(2,_),(5,_),(6,_),(7,_),(8,_)] (fun gx=>[own 4 1 (some ⟨b2,0,none⟩) b.length ((lU (gW g) (gH g) s p (gU (gW g) (gH g) s p) gx).map bC)]) (fun gx=>gx≤(gU (gW g) (gH g) s p).length) (fun gx=>(gU (gW g) (gH g) s p).length-gx) 0 (by exact aY _) (.c4 rfl rfl rfl rfl (.cons rfl (.cons rfl (.cons rfl .nil)))) (fun _ h=>h) ?_
   rintro i hi
   refine av<|au (ag rfl<|ag rfl<|ah (bE fk (.r rfl) rfl) rfl<|dK rfl<|aq<|ay rfl (fun h38=>?_) (fun h38=>?_))
   ·
    obtain⟨x,hxl⟩:=du (l:=(gU (gW g) (gH g) s p)) (n:=i) (by omega)
    have hxn:=pH (S:=s) (show p<gW g*gH g by omega) (al hxl)
    refine aE (aj<|av<|aD<|aM (ag rfl<|ag rfl<|ag rfl<|ah (cy fk N3 (fun _ hw=>(bL hw 1 rfl).some (by rw[ak])) (.r rfl) (.r rfl) rfl (by omega)) rfl<|ah (aC O3 (.r rfl) (fun w hw=>aA (off:=0) (cO hw 1 rfl hxl) ⟨_,rfl⟩)) rfl<|ah (cy jj N4 (fun _ hw=>(bL hw 0 rfl).some (by rw[ak,BO];omega)) (.r rfl) (.r rfl) rfl (by omega)) rfl<|cu<|iV 0 (fun R=>[R,_,_,_,_,_]) (true) (vs:=[_]) N4 (.r rfl) (.r rfl) rfl (by rw[BO];omega) rfl rfl rfl rfl rfl (fun _=>rfl)<|aN ?_))
    rw[KV hxl (by omega)]
    refine bB (aj<|aM (ag rfl<|da rfl rfl (by omega) (by omega) rfl<|ax rfl<|aN<|aZ fun a w ha hw=>⟨i+1,(by omega),(by omega),ha.sub (.c4 rfl rfl rfl rfl (.cons rfl (.cons rfl (.cons rfl .nil)))),hw⟩))
   ·
    have hie:i=(gU (gW g) (gH g) s p).length:=by omega
    subst hie
    refine bU (aH (aH (cB (aj<|aM (ag rfl<|ag rfl<|aB rfl<|eW (ps:=[(_,_)]) (vs:=[(_,_)]) (Z:=[_]) (C:=[_]) tQ Qt qL ⟨(.r rfl),trivial⟩ rfl rfl rfl rfl ⟨_,[_],[_],rfl,rfl,rfl,rfl,rfl⟩ fun b7=>aB rfl<|eP ((⟨y2.p,y2.c,(gU (gW g) (gH g) s p)⟩:cG Nat)) 4 0 (fun R=>[_,_,_,_,R,_,_]) tQ tQ I55 (.r rfl) (.r rfl) rfl rfl rfl rfl rfl rfl rfl (fun _=>rfl) rfl (by omega) fun p3 c3=>aB rfl<|aW (LO.as (.r rfl))<|aN<|bB (aj<|aM (ag rfl<|da rfl rfl (by omega) (by omega) rfl<|ax rfl<|aN ?_)))))))
    rw[NP hsp hnew rfl]
    refine aZ fun a w ha hw=>⟨(p+1,rs++[⟨y2.p,y2.c,(gU (gW g) (gH g) s p)⟩],p3,c3),⟨by dsimp only;omega,by dsimp only;rw[bG,hrs,kq hsp hnew];rfl⟩,(by dsimp only;omega),ha.sub (.c4 rfl rfl rfl rfl (.cons rfl .nil)),(by exact dq (L1:=[_,_,_,_]) [1,2,0,3] rfl rfl _ (St.wg (E:=3) (z:=1) (f:=nC) (x:=⟨y2.p,y2.c,(gU (gW g) (gH g) s p)⟩) (dq (L1:=[_,_,_,_,_]) [2,5,1,4,6] rfl rfl _ hw)))⟩
 ·
  have hpe:p=gW g*gH g:=by omega
  subst hpe
  refine bU (aH (aH (cB (aj<|au (ag rfl<|ax rfl<|aq<|be (dP rfl rfl (fun w hw=>?_)))))))
  exact⟨⟨rs,pr,cr⟩,hrs,rfl,dq [1,2] rfl rfl _ hw⟩
end Go.Proofs.YtgemekpofpoopaaGreat
namespace Go.SL
set_option linter.unusedVariables false
theorem St.Cj {β:Bs} {L Rs rs:List dg} {w:World} (h:St β (rs++mo Rs::L) w):St β (mo (Rs++rs)::L) w:=by
 have h1:=(h.perm (L':=mo Rs::(rs++L)) List.perm_middle).uk
 rw[←List.append_assoc]at h1
 exact h1.bV
theorem St.Cq {β:Bs} {L:List dg} {w:World} (h:St β L w):St β (mo []::L) w:=St.bV (Rs:=[]) h
theorem Dr {β:Bs} {L Rs:List dg} {w:World} (h:St β L w) (i:Nat) (hi:L[i]? =some (mo Rs)) {r:dg} (hr:r∈Rs):r.inv w:=(h.mem (al hi)).1 r hr
end Go.SL
namespace Go.Proofs.YtgemekpofpoopaaGreat
open Go.SL Go.Proofs Go.sM Go.Cell
set_option linter.unusedVariables false
section
variable {W H p i k:Nat} {vs:List Span} {lv:Int} {l:List Nat} {w:World}
def uv (vs:List Span) (lv:Int) (l:List Nat) (k:Nat) (q:Nat):Bool:=pF vs lv q&&decide (q∈l.take k)
theorem NA:bH (W*H) false=l1 (W*H) (uv vs lv l 0):=by
 refine ox (by simp) fun q hq=>?_
 rw[aO,List.getElem?_replicate,if_pos hq]
 simp [uv]
theorem Nv (h:l[k]? =some p) (hp:pF vs lv p=false):l1 (W*H) (uv vs lv l k)=l1 (W*H) (uv vs lv l (k+1)):=by
 obtain⟨hk,rfl⟩:=an.1 h
 refine eO fun q _=>?_
 unfold uv
 rw[bX hk]
 by_cases e:q=l[k]
 ·subst e;rw[hp];rfl
 ·have:decide (q∈l.take k++[l[k]])=decide (q∈l.take k):=decide_eq_decide.2 (by rw[bQ,bW];exact⟨fun h=>h.resolve_right e,.inl⟩)
  rw[this]
theorem IF (h:l[k]? =some p) (hp:pF vs lv p=true) (hl:p<W*H):(l1 (W*H) (uv vs lv l k)).set p true=l1 (W*H) (uv vs lv l (k+1)):=by
 obtain⟨hk,rfl⟩:=an.1 h
 refine ox (by rw[eB,gn]) fun q hq=>?_
 rw[jQ (by rw[gn];exact hl),kO hq]
 unfold uv
 rw[bX hk]
 by_cases e:l[k]=q
 ·subst e;rw[hp,decide_eq_true rfl,Bool.true_or,decide_eq_true (List.mem_append_right _ (bW.2 rfl))];rfl
 ·have:decide (q∈l.take k++[l[k]])=decide (q∈l.take k):=decide_eq_decide.2 (by rw[bQ,bW];exact⟨fun h=>h.resolve_right fun z=>e z.symm,.inl⟩)
  rw[this,decide_eq_false e];simp
theorem Sw:uv vs lv l l.length=fun q=>pF vs lv q&&decide (q∈l):=by funext q;unfold uv;rw[eG]
def dS (W:Nat) (vs:List Span) (lv:Int) (l:List Nat) (k:Nat):Qy:=if k=0 then⟨0,0,0,0,0,0⟩ else nw W vs lv l k
theorem QT:dS W vs lv l 0=⟨0,0,0,0,0,0⟩:=rfl
theorem Ee (h:l[0]? =some p):dS W vs lv l 1=nu W vs lv ⟨(p%W:Nat),(p%W:Nat),(p / W:Nat),(p / W:Nat),0,0⟩ p:=by
 have:dS W vs lv l (0+1)=nw W vs lv l (0+1):=if_neg (kW 0)
 rw[show(1:Nat)=0+1 from rfl,this,pI h,zL]
 cases l with
 |nil=>simp at h
 |cons a l=>
   have:a=p:=by simpa using h
   subst this;rfl
theorem IX (h:l[k]? =some p) (hk:k≠0):dS W vs lv l (k+1)=nu W vs lv (dS W vs lv l k) p:=by
 unfold dS
 rw[if_neg (kW k),if_neg hk,pI h]
theorem VG (h:l≠[]):dS W vs lv l l.length=zy W vs lv l:=by
 unfold dS;rw[if_neg (by cases l with|nil=>exact absurd rfl h|cons a l=>simp),A8]
theorem ZJ (hok:∀j,j<vs.length→iN 1073741824 (vs.getD j ⟨0,0⟩)) (hl:∀p,p∈l→p<vs.length) (hk:k≤l.length):(0≤(dS W vs lv l k).sl∧(dS W vs lv l k).sl≤1073741824*k)∧(0≤(dS W vs lv l k).sh∧(dS W vs lv l k).sh≤1073741824*k):=by
 by_cases e:k=0
 ·subst e;rw[QT];exact⟨⟨Int.le_refl _,by simp⟩,⟨Int.le_refl _,by simp⟩⟩
 ·unfold dS;rw[if_neg e];exact zI hok hl k hk
theorem MW {a:di} (hTS:∀x,x<W*H→pF vs lv x=true→et vs lv x=true) (hl:a.px.l∈dM W H (et vs lv)) (hk:a.kr.map cG.l=dM W H (uv vs lv a.px.l a.px.l.length)) (hs:a.s=zy W vs lv a.px.l):a.m=qg W H vs lv a.px.l:=by
 unfold di.m qg
 rw[hs,hk,Sw,Ci hTS hl]
structure AL (w:World) (p:Option Addr) (l:List di):Prop where
 ar:RO 8 l7 w p l
 px:∀a,a∈l→RO 1 nC w a.px.p a.px.l
 kr:∀a,a∈l→RR 1 nC w a.kp a.kr
theorem AL.b0 {w0:World} {p:Option Addr} {l:List di} (h:AL w0 p l) {L:List dg}:∀w,St (bs w0) L w→AL w p l:=fun w hw=>⟨h.ar.b0 w hw,fun a ha=>(h.px a ha).b0 w hw,fun a ha=>(h.kr a ha).b0 w hw⟩
def di.kk (a:di):List dg:=[a.kR,kZ 3 1 nC a.kr]
def L5 (l:List di):List dg:=l.flatMap di.kk
theorem SO {l:List di} {a:di}:L5 (l++[a])=L5 l++a.kk:=by unfold L5;rw[List.flatMap_append];simp
theorem yq {l:List di} {a:di} (h:a∈l):a.kR∈L5 l∧kZ 3 1 nC a.kr∈L5 l:=⟨oS.2 ⟨a,h,by simp [di.kk]⟩,oS.2 ⟨a,h,by simp [di.kk]⟩⟩
theorem St.kIn {β:Bs} {L:List dg} {l:List di} {a:di} (h:St β (a.kR::kZ 3 1 nC a.kr::bV (L5 l)::L) w):St β (bV (L5 (l++[a]))::L) w:=by
 rw[SO];exact St.Cj (rs:=[_,_]) h
structure uE where
 l:List di
 p:Option Addr
 c:Nat
 rs:List (cG Nat)
def uE.R (T:Nat) (y:uE):List dg:=[own T 8 y.p y.c (y.l.map l7),bV (L5 y.l),kZ 3 1 nC y.rs]
structure Ax (W H:Nat) (vs:List Span) (lv:Int) (y:uE):Prop where
 m:y.l.map di.m=kL W H vs lv
 px:y.l.map di.px=y.rs
theorem gh {α:Type} {f:α→List Value} {E z cap:Nat} {p:Option Addr} {l:List α} (h:(own E z p cap (l.map f)).inv w):RO z f w p l:=gG h
theorem AL.gM {β:Bs} {L:List dg} (hw:St β L w) {T:Nat} {y:uE} {vs:List Span} {lv:Int} (hp:Ax W H vs lv y) (i j k:Nat) (hi:L[i]? =some (own T 8 y.p y.c (y.l.map l7))) (hj:L[j]? =some (bV (L5 y.l))) (hk:L[k]? =some (kZ 3 1 nC y.rs)):AL w y.p y.l where
 ar:=fK hw i hi
 px:=fun a ha=>by
  have h1:a.px∈y.rs:=by rw[←hp.px];exact bw ha
  exact gG (hw.inv k _ hk _ (bw (f:=fun x:cG Nat=>own 3 1 x.p x.c (x.l.map nC)) h1))
 kr:=fun a ha=>by
  have h1:=Dr hw j hj (yq ha).1
  have h2:=Dr hw j hj (yq ha).2
  exact⟨gG h1,fun x hx=>by
   have h3:=h2 _ (bw (f:=fun x:cG Nat=>own 3 1 x.p x.c (x.l.map nC)) hx)
   refine⟨?_,gG h3⟩
   have:=h3.1
   rwa [ak]at this⟩
end
theorem W2:dr af 159 (.agg #[.slice none 0 0,.slice none 0 0,.int .i64 0,.int .i64 0,.int .i64 0,.int .i64 0,.int .i64 0,.int .i64 0]):=by unfold dr;kernel_rfl
theorem acz:fU af 159 [(0,1),(1,1),(2,2),(4,2),(6,2)] [.slice none 0 0,.slice none 0 0,.int .i64 0,.int .i64 0,.int .i64 0,.int .i64 0,.int .i64 0,.int .i64 0]:=fU.mk fun _=>by kernel_rfl
theorem Fm:(af.info? 159).map (·.size)=some 8:=by kernel_rfl
theorem ub:cP af 159 2 2:=⟨_,_,kz,rfl,rfl,1,by kernel_rfl⟩
theorem ui:cP af 159 3 4:=⟨_,_,kz,rfl,rfl,1,by kernel_rfl⟩
theorem sQ:cP af 159 4 6:=⟨_,_,kz,rfl,rfl,1,by kernel_rfl⟩
theorem C70:fh af 70:=⟨_,Tryz.func70,by decide,rfl⟩
theorem BL:cP af 159 1 1:=⟨_,_,kz,rfl,rfl,0,by kernel_rfl⟩
theorem Ap:lh af 159 8:=⟨⟨_,kz,rfl⟩,by kernel_rfl⟩
theorem C71:fh af 71:=⟨_,Tryz.func71,by decide,rfl⟩
theorem C72:fh af 72:=⟨_,Tryz.func72,by decide,rfl⟩
theorem yE:ee af 101 159:=Tryz.underlying101
theorem acf:j6 af 159 8 96 (.agg #[.slice none 0 0,.slice none 0 0,.int .i64 0,.int .i64 0,.int .i64 0,.int .i64 0,.int .i64 0,.int .i64 0]):=⟨by kernel_rfl,by kernel_rfl,by unfold dr;kernel_rfl,rfl,by decide⟩
abbrev arV (pl:Option Addr) (n cl:Nat) (kp:Option Addr) (kn kc:Nat) (s:Qy):Value:=.agg #[.slice pl n cl,.slice kp kn kc,.int .i64 s.xl,.int .i64 s.xh,.int .i64 s.yl,.int .i64 s.yh,.int .i64 s.sl,.int .i64 s.sh]
theorem KO (g:eo) (s:Nat→Bool) (n:Nat) (hn:n=gW g*gH g) (pb_:Option Addr) (cb:Nat) (w:World) (hg:dH g) (hb:RO 1 bC w pb_ (l1 (gW g*gH g) s)):
 Calls af 70 #[lL g,.slice pb_ n cb] w fun e w'=>∃y:PxY,y.rs.map cG.l=dM (gW g) (gH g) s∧e= .returned (.slice y.p y.rs.length y.c)∧St (bs w) [own 55 1 y.p y.c (y.rs.map lI),kZ 3 1 nC y.rs] w':=by
 have z:=Eh g s (l1 (gW g*gH g) s) pb_ cb w hg hb rfl
 rw[gn]at z
 subst hn;exact z
theorem Ku {α:Type} {l:List α} {k:Nat} {x:α} (h:l[k]? =some x):l.take (k+1)=l.take k++[x]:=by rw[List.take_add_one,h];rfl
theorem Fe {W H:Nat} {vs:List Span} {lv:Int} {l:List di} {a:di} (h:∀a,a∈l→a.m=qg W H vs lv a.px.l) (k:a.m=qg W H vs lv a.px.l):∀b,b∈l++[a]→b.m=qg W H vs lv b.px.l:=fun b hb=>by
 rcases bQ.1 hb with q|q
 ·exact h b q
 ·have:=bW.1 q
  subst this;exact k
theorem Vn {W H:Nat} {vs:List Span} {lv:Int} (hok:∀j,j<W*H→iN 1073741824 (vs.getD j ⟨0,0⟩)):∀x,x<W*H→pF vs lv x=true→et vs lv x=true:=fun x hx hi=>by
 have:=hok x hx
 unfold iN at this
 unfold pF at hi
 unfold et
 simp only[decide_eq_true_eq]at*
 omega
theorem Fz {W H:Nat} {vs:List Span} {lv:Int} {l:List di} {rs:List (cG Nat)} {p:Option Addr} {c:Nat} (hr:rs.map cG.l=dM W H (et vs lv)) (hpx:l.map di.px=rs) (hm:∀a,a∈l→a.m=qg W H vs lv a.px.l):Ax W H vs lv ⟨l,p,c,rs⟩:=by
 refine⟨?_,hpx⟩
 show l.map di.m=kL W H vs lv
 unfold kL
 rw[←hr, ←hpx,dV,dV]
 exact eO fun a ha=>hm a ha
theorem Su (g:eo) (vs:List Span) (pv:Option Addr) (cv:Nat) (lv:Int) (l:List Nat) (pl:Option Addr) (cl:Nat) (w:World) (hg:dH g) (hvl:vs.length=gW g*gH g) (hok:∀j,j<vs.length→iN 1073741824 (vs.getD j ⟨0,0⟩)) (hv:fL w pv vs) (hl:RO 1 nC w pl l) (hlm:∀p,p∈l→p<gW g*gH g) (hll:l.length≤4096) (hne:l≠[]):
 Calls af 72 #[im g pv vs.length cv,.int .i64 lv,.slice pl l.length cl] w fun e w'=>∃y:PxY,y.rs.map cG.l=dM (gW g) (gH g) (uv vs lv l l.length)∧e= .returned (arV pl l.length cl y.p y.rs.length y.c (zy (gW g) vs lv l))∧St (bs w) [own 55 1 y.p y.c (y.rs.map lI),kZ 3 1 nC y.rs] w':=by
 have har:=iM hg
 obtain⟨hW,hH,hW1,hW2,hH1,hH2⟩:=An hg
 refine enter (vs:=[_,_,_]) (env:=[(0,_),(1,_),(2,_)]) Tryz.func72 rfl rfl rfl rfl ?_
 refine au (aB rfl<|c8 (C:=#[_,_,_,_,_,_]) rfl rfl fun b1=>aB rfl<|cJ (C:=#[_,_,_,_,_,_,_,_]) W2 rfl fun b2=>aq<|au (ag rfl<|ah (fA (ps:=[(_,_)]) (vs:=[(_,_)]) (C:=[_,_,_,_,_,_,_,_]) acz ⟨(.r rfl),trivial⟩ rfl ⟨_,[_],[_,_,_,_,_,_,_,_],rfl,rfl,rfl,rfl,rfl⟩) rfl<|aB rfl<|cJ (C:=#[_,_,_,_,_,_,_,_]) W2 rfl fun b3=>cu<|cq 0 (vs:=[_,_,_,_,_,_,_,_]) (C':=[_,_,_,_,_,_,_,_]) (L':=[_,_,_]) Fm rfl rfl rfl rfl rfl rfl rfl rfl<|aq<|av ?_))
 refine aM (bO (r:=5) lN rfl<|cL 2 zH rfl rfl ⟨_,rfl⟩ rfl<|ah (bE xq (.r rfl) rfl) rfl<|aB rfl<|HO.Au (f:=bC) (z0:=false) (n:=vs.length) rfl jj I4 (.r rfl) (.r rfl) rfl (by decide) (by omega) (by omega) fun b5=>aB rfl<|aW (LO.as (.r rfl))<|aN ?_)
 rw[show bH vs.length false=l1 (gW g*gH g) (uv vs lv l 0) from by rw[hvl];exact NA]
 refine aj<|av<|au (ax rfl<|aq<|aD<|gw [1,0,2,3] rfl ?_)
 refine bS (α:=Nat) 2 (fun gx=>[(9,.int .i64 (gx:Nat))]) [(1,_),(2,_),(3,_),(6,_),(7,_),(8,_)] (fun gx=>[gq b3 (.cells #[.slice pl l.length cl,.slice none 0 0,.int .i64 (dS (gW g) vs lv l gx).xl,.int .i64 (dS (gW g) vs lv l gx).xh,.int .i64 (dS (gW g) vs lv l gx).yl,.int .i64 (dS (gW g) vs lv l gx).yh,.int .i64 (dS (gW g) vs lv l gx).sl,.int .i64 (dS (gW g) vs lv l gx).sh] 159),own 4 1 (some ⟨b5,0,none⟩) vs.length ((l1 (gW g*gH g) (uv vs lv l gx)).map bC)]) (fun gx=>gx≤l.length) (fun gx=>l.length-gx) 0 (by exact aY _) (.c4 rfl rfl rfl rfl (.cons rfl (.cons rfl (.cons rfl .nil)))) (fun _ h=>h) ?_
 rintro i hi
 refine av<|au (ag rfl<|ag rfl<|ah (bE fk (.r rfl) rfl) rfl<|dK rfl<|aq<|ay rfl (fun h22=>?_) (fun h22=>?_))
 ·
  obtain⟨p,hpk⟩:=du (l:=l) (n:=i) (by omega)
  have hpm:=hlm p (al hpk)
  have hspn:=hok p (by omega)
  unfold iN at hspn
  have hbd:=ZJ (W:=gW g) (vs:=vs) (lv:=lv) (l:=l) (k:=i) hok (fun q hq=>by have:=hlm q hq;omega) (by omega)
  refine aE (aj<|av<|aD<|au (ag rfl<|ag rfl<|ah (bM fk N3 hl.sm (.r rfl) (.r rfl) rfl (by omega)) rfl<|ah (aC O3 (.r rfl) (fun w hw=>aA (off:=0) ((fun w3 h3=>cY (hl.b0 w3 h3) hpk) w hw) ⟨_,rfl⟩)) rfl<|ax rfl<|aq<|av ?_))
  refine gj mixed (eT rfl<|bl (aP (r:=0) lO (.r rfl) rfl) rfl<|bl (aP (r:=3) iQ (.r rfl) rfl) rfl<|bl (aC O3 (.r rfl) (aF 3 rfl ⟨_,rfl⟩)) rfl<|bl (eN (nk (.r rfl) (.r rfl) (by omega)) (congrArg (cX .i64) (sK hg p))) rfl<|eT rfl<|bl (aP (r:=0) lO (.r rfl) rfl) rfl<|bl (aP (r:=3) iQ (.r rfl) rfl) rfl<|bl (aC O3 (.r rfl) (aF 3 rfl ⟨_,rfl⟩)) rfl<|bl (eN (mz (.r rfl) (.r rfl) (by omega) (wi (by rw[jB hg];have:=nE hg (p:=p) (by omega);omega) (by rw[jB hg];have:=nE hg (p:=p) (by omega);omega))) (congrArg (cX .i64) (jB hg p))) rfl<|bl (LO.as (.r rfl)) rfl<|bl (LO.as (.r rfl)) rfl<|gy) (by kernel_rfl)<|aj<|av<|au (ag rfl<|ah (ia (.r rfl) (.r rfl)) rfl<|aq<|ay rfl (fun h40=>?_) (fun h40=>?_))
  ·
   have hi0:i=0:=by omega
   subst hi0
   refine aM (ag rfl<|ag rfl<|ah (fA (ps:=[(_,_),(_,_)]) (vs:=[(_,_),(_,_)]) (C:=[_,_]) LW ⟨(.r rfl),(.r rfl),trivial⟩ rfl ⟨_,[_],[_,_],rfl,rfl,rfl,rfl,⟨_,[_],[_,_],rfl,rfl,rfl,rfl,rfl⟩⟩) rfl<|ag rfl<|ag rfl<|ah (fA (ps:=[(_,_),(_,_)]) (vs:=[(_,_),(_,_)]) (C:=[_,_]) LW ⟨(.r rfl),(.r rfl),trivial⟩ rfl ⟨_,[_],[_,_],rfl,rfl,rfl,rfl,⟨_,[_],[_,_],rfl,rfl,rfl,rfl,rfl⟩⟩) rfl<|bO (r:=2) ub rfl<|cu<|cq 0 (vs:=[_,_]) (C':=[_,_,_,_,_,_,_,_]) (L':=[_,_,_,_]) yA rfl rfl rfl rfl rfl rfl rfl rfl<|bO (r:=4) ui rfl<|cu<|cq 0 (vs:=[_,_]) (C':=[_,_,_,_,_,_,_,_]) (L':=[_,_,_,_]) yA rfl rfl rfl rfl rfl rfl rfl rfl<|aq<|au (bO (r:=2) ub rfl<|bO (r:=2) mj rfl<|cL 0 O3 rfl rfl ⟨_,rfl⟩ rfl<|ag rfl<|ah (LO.min (.r rfl) (.r rfl)) rfl<|bO (r:=2) ub rfl<|bO (r:=3) mF rfl<|cL 0 O3 rfl rfl ⟨_,rfl⟩ rfl<|ag rfl<|ah (qo (.r rfl) (.r rfl)) rfl<|ah (fA (ps:=[(_,_),(_,_)]) (vs:=[(_,_),(_,_)]) (C:=[_,_]) LW ⟨(.r rfl),(.r rfl),trivial⟩ rfl ⟨_,[_],[_,_],rfl,rfl,rfl,rfl,⟨_,[_],[_,_],rfl,rfl,rfl,rfl,rfl⟩⟩) rfl<|bO (r:=2) ub rfl<|cu<|cq 0 (vs:=[_,_]) (C':=[_,_,_,_,_,_,_,_]) (L':=[_,_,_,_]) yA rfl rfl rfl rfl rfl rfl rfl rfl<|aq<|au (bO (r:=4) ui rfl<|bO (r:=4) mj rfl<|cL 0 O3 rfl rfl ⟨_,rfl⟩ rfl<|ag rfl<|ah (LO.min (.r rfl) (.r rfl)) rfl<|bO (r:=4) ui rfl<|bO (r:=5) mF rfl<|cL 0 O3 rfl rfl ⟨_,rfl⟩ rfl<|ag rfl<|ah (qo (.r rfl) (.r rfl)) rfl<|ah (fA (ps:=[(_,_),(_,_)]) (vs:=[(_,_),(_,_)]) (C:=[_,_]) LW ⟨(.r rfl),(.r rfl),trivial⟩ rfl ⟨_,[_],[_,_],rfl,rfl,rfl,rfl,⟨_,[_],[_,_],rfl,rfl,rfl,rfl,rfl⟩⟩) rfl<|bO (r:=4) ui rfl<|cu<|cq 0 (vs:=[_,_]) (C':=[_,_,_,_,_,_,_,_]) (L':=[_,_,_,_]) yA rfl rfl rfl rfl rfl rfl rfl rfl<|aN ?_)))
   refine aj<|av<|eC [[0,1,2,3],[1,2,3]] [some 0,some 0,some 0,some 0,some 0,some 0,some 0,some 0,some 0,some 0,some 0,some 0,none] mixed (by kernel_rfl) rfl (aG (fun _ hJ=>aP (r:=6) sQ (.r rfl) rfl) rfl<|aG (fun _ hJ=>aP (r:=7) mF (.r rfl) rfl) rfl<|aG (fun _ hJ=>aC O3 (.r rfl) (fun _ hw=>cN (hJ _ hw) 0 rfl ⟨_,rfl⟩)) rfl<|aG (fun _ hJ=>aP (r:=5) lN (.r rfl) rfl) rfl<|aG (fun _ hJ=>aC zH (.r rfl) (fun _ hw=>cN (hJ _ hw) 3 rfl ⟨_,rfl⟩)) rfl<|cT rfl<|aG (fun _ hJ=>bM xq yA hv.some (.r rfl) (.r rfl) rfl (by omega)) rfl<|aG (fun _ hJ=>aP mF (.r rfl) rfl) rfl<|aG (fun _ hJ=>aC O3 (.r rfl) (fun w hw=>aA (off:=1) ((hv.at (j:=p) (by omega)) w (hJ _ hw)) ⟨_,rfl⟩)) rfl<|aG (fun _ hJ=>LO.add (.r rfl) (.r rfl) (wi (by omega) (by omega))) rfl<|aG (fun _ hJ=>aP (r:=6) sQ (.r rfl) rfl) rfl<|aG (fun _ hJ=>aP (r:=7) mF (.r rfl) rfl) rfl<|dC<|fj) (az<|az<|az<|az<|az<|az<|az<|az<|az<|az<|az<|az<|HX.h0<|cq 0 (vs:=[_]) (C':=[_,_,_,_,_,_,_,_]) (L':=[_,_,_,_]) N3 rfl rfl rfl rfl rfl rfl rfl rfl<|⟨fun _ hw=>hw.gY [1,2,3] rfl,fB ?_⟩)
   refine aj<|au (bO (r:=5) lN rfl<|cL 3 zH rfl rfl ⟨_,rfl⟩ rfl<|ag rfl<|ah (bM xq yA hv.some (.r rfl) (.r rfl) rfl (by omega)) rfl<|bO mj rfl<|ah (aC O3 (.r rfl) (fun w hw=>aA (off:=0) ((hv.at (j:=p) (by omega)) w hw) ⟨_,rfl⟩)) rfl<|ag rfl<|ah (iw (.r rfl) (.r rfl)) rfl<|aq<|ay rfl (fun h92=>?_) (fun h92=>?_))
   ·
    have hin:pF vs lv p=true:=decide_eq_true h92
    refine au (ag rfl<|ag rfl<|ah (cy jj N4 (fun _ hw=>(bL hw 1 rfl).some (by rw[ak,gn];omega)) (.r rfl) (.r rfl) rfl (by omega)) rfl<|cu<|iV 1 (fun R=>[_,R,_,_]) (true) (vs:=[_]) N4 (.r rfl) (.r rfl) rfl (by rw[gn];omega) rfl rfl rfl rfl rfl (fun _=>rfl)<|aN ?_)
    rw[IF hpk hin (by omega)]
    refine aj<|eC [[0,1,2,3],[1,2,3]] [some 0,some 0,some 0,some 0,some 0,some 0,some 0,some 0,some 0,some 0,some 0,some 0,none] mixed (by kernel_rfl) rfl (aG (fun _ hJ=>aP (r:=6) sQ (.r rfl) rfl) rfl<|aG (fun _ hJ=>aP (r:=6) mj (.r rfl) rfl) rfl<|aG (fun _ hJ=>aC O3 (.r rfl) (fun _ hw=>cN (hJ _ hw) 0 rfl ⟨_,rfl⟩)) rfl<|aG (fun _ hJ=>aP (r:=5) lN (.r rfl) rfl) rfl<|aG (fun _ hJ=>aC zH (.r rfl) (fun _ hw=>cN (hJ _ hw) 3 rfl ⟨_,rfl⟩)) rfl<|cT rfl<|aG (fun _ hJ=>bM xq yA hv.some (.r rfl) (.r rfl) rfl (by omega)) rfl<|aG (fun _ hJ=>aP mj (.r rfl) rfl) rfl<|aG (fun _ hJ=>aC O3 (.r rfl) (fun w hw=>aA (off:=0) ((hv.at (j:=p) (by omega)) w (hJ _ hw)) ⟨_,rfl⟩)) rfl<|aG (fun _ hJ=>LO.add (.r rfl) (.r rfl) (wi (by omega) (by omega))) rfl<|aG (fun _ hJ=>aP (r:=6) sQ (.r rfl) rfl) rfl<|aG (fun _ hJ=>aP (r:=6) mj (.r rfl) rfl) rfl<|dC<|fj) (az<|az<|az<|az<|az<|az<|az<|az<|az<|az<|az<|az<|HX.h0<|cq 0 (vs:=[_]) (C':=[_,_,_,_,_,_,_,_]) (L':=[_,_,_,_]) N3 rfl rfl rfl rfl rfl rfl rfl rfl<|⟨fun _ hw=>hw.gY [1,2,3] rfl,fB ?_⟩)
    refine bB (aj<|aM (ag rfl<|da rfl rfl (by omega) (by omega) rfl<|ax rfl<|aN ?_))
    have hsc:=Ee (W:=gW g) (vs:=vs) (lv:=lv) hpk
    refine aZ fun a w ha hw=>⟨0+1,(by omega),(by omega),ha.sub (.c4 rfl rfl rfl rfl (.cons rfl (.cons rfl (.cons rfl .nil)))),(by rw[hsc];first |exact hw|(unfold nu;dsimp only;rw[if_pos hin];exact hw)|(unfold nu;dsimp only;rw[if_neg (fM.1 hin)];exact hw))⟩
   ·
    have hin:pF vs lv p=false:=decide_eq_false h92
    refine aE (bB (aj<|aM (ag rfl<|da rfl rfl (by omega) (by omega) rfl<|ax rfl<|aN ?_)))
    have hsc:=Ee (W:=gW g) (vs:=vs) (lv:=lv) hpk
    rw[Nv hpk hin]
    refine aZ fun a w ha hw=>⟨0+1,(by omega),(by omega),ha.sub (.c4 rfl rfl rfl rfl (.cons rfl (.cons rfl (.cons rfl .nil)))),(by rw[hsc];first |exact hw|(unfold nu;dsimp only;rw[if_pos hin];exact hw)|(unfold nu;dsimp only;rw[if_neg (fM.1 hin)];exact hw))⟩
  ·
   refine aE (aj<|au (bO (r:=2) ub rfl<|bO (r:=2) mj rfl<|cL 0 O3 rfl rfl ⟨_,rfl⟩ rfl<|ag rfl<|ah (LO.min (.r rfl) (.r rfl)) rfl<|bO (r:=2) ub rfl<|bO (r:=3) mF rfl<|cL 0 O3 rfl rfl ⟨_,rfl⟩ rfl<|ag rfl<|ah (qo (.r rfl) (.r rfl)) rfl<|ah (fA (ps:=[(_,_),(_,_)]) (vs:=[(_,_),(_,_)]) (C:=[_,_]) LW ⟨(.r rfl),(.r rfl),trivial⟩ rfl ⟨_,[_],[_,_],rfl,rfl,rfl,rfl,⟨_,[_],[_,_],rfl,rfl,rfl,rfl,rfl⟩⟩) rfl<|bO (r:=2) ub rfl<|cu<|cq 0 (vs:=[_,_]) (C':=[_,_,_,_,_,_,_,_]) (L':=[_,_,_,_]) yA rfl rfl rfl rfl rfl rfl rfl rfl<|aq<|au (bO (r:=4) ui rfl<|bO (r:=4) mj rfl<|cL 0 O3 rfl rfl ⟨_,rfl⟩ rfl<|ag rfl<|ah (LO.min (.r rfl) (.r rfl)) rfl<|bO (r:=4) ui rfl<|bO (r:=5) mF rfl<|cL 0 O3 rfl rfl ⟨_,rfl⟩ rfl<|ag rfl<|ah (qo (.r rfl) (.r rfl)) rfl<|ah (fA (ps:=[(_,_),(_,_)]) (vs:=[(_,_),(_,_)]) (C:=[_,_]) LW ⟨(.r rfl),(.r rfl),trivial⟩ rfl ⟨_,[_],[_,_],rfl,rfl,rfl,rfl,⟨_,[_],[_,_],rfl,rfl,rfl,rfl,rfl⟩⟩) rfl<|bO (r:=4) ui rfl<|cu<|cq 0 (vs:=[_,_]) (C':=[_,_,_,_,_,_,_,_]) (L':=[_,_,_,_]) yA rfl rfl rfl rfl rfl rfl rfl rfl<|aq ?_)))
   refine av<|eC [[0,1,2,3],[1,2,3]] [some 0,some 0,some 0,some 0,some 0,some 0,some 0,some 0,some 0,some 0,some 0,some 0,none] mixed (by kernel_rfl) rfl (aG (fun _ hJ=>aP (r:=6) sQ (.r rfl) rfl) rfl<|aG (fun _ hJ=>aP (r:=7) mF (.r rfl) rfl) rfl<|aG (fun _ hJ=>aC O3 (.r rfl) (fun _ hw=>cN (hJ _ hw) 0 rfl ⟨_,rfl⟩)) rfl<|aG (fun _ hJ=>aP (r:=5) lN (.r rfl) rfl) rfl<|aG (fun _ hJ=>aC zH (.r rfl) (fun _ hw=>cN (hJ _ hw) 3 rfl ⟨_,rfl⟩)) rfl<|cT rfl<|aG (fun _ hJ=>bM xq yA hv.some (.r rfl) (.r rfl) rfl (by omega)) rfl<|aG (fun _ hJ=>aP mF (.r rfl) rfl) rfl<|aG (fun _ hJ=>aC O3 (.r rfl) (fun w hw=>aA (off:=1) ((hv.at (j:=p) (by omega)) w (hJ _ hw)) ⟨_,rfl⟩)) rfl<|aG (fun _ hJ=>LO.add (.r rfl) (.r rfl) (wi (by omega) (by omega))) rfl<|aG (fun _ hJ=>aP (r:=6) sQ (.r rfl) rfl) rfl<|aG (fun _ hJ=>aP (r:=7) mF (.r rfl) rfl) rfl<|dC<|fj) (az<|az<|az<|az<|az<|az<|az<|az<|az<|az<|az<|az<|HX.h0<|cq 0 (vs:=[_]) (C':=[_,_,_,_,_,_,_,_]) (L':=[_,_,_,_]) N3 rfl rfl rfl rfl rfl rfl rfl rfl<|⟨fun _ hw=>hw.gY [1,2,3] rfl,fB ?_⟩)
   refine aj<|au (bO (r:=5) lN rfl<|cL 3 zH rfl rfl ⟨_,rfl⟩ rfl<|ag rfl<|ah (bM xq yA hv.some (.r rfl) (.r rfl) rfl (by omega)) rfl<|bO mj rfl<|ah (aC O3 (.r rfl) (fun w hw=>aA (off:=0) ((hv.at (j:=p) (by omega)) w hw) ⟨_,rfl⟩)) rfl<|ag rfl<|ah (iw (.r rfl) (.r rfl)) rfl<|aq<|ay rfl (fun h92=>?_) (fun h92=>?_))
   ·
    have hin:pF vs lv p=true:=decide_eq_true h92
    refine au (ag rfl<|ag rfl<|ah (cy jj N4 (fun _ hw=>(bL hw 1 rfl).some (by rw[ak,gn];omega)) (.r rfl) (.r rfl) rfl (by omega)) rfl<|cu<|iV 1 (fun R=>[_,R,_,_]) (true) (vs:=[_]) N4 (.r rfl) (.r rfl) rfl (by rw[gn];omega) rfl rfl rfl rfl rfl (fun _=>rfl)<|aN ?_)
    rw[IF hpk hin (by omega)]
    refine aj<|eC [[0,1,2,3],[1,2,3]] [some 0,some 0,some 0,some 0,some 0,some 0,some 0,some 0,some 0,some 0,some 0,some 0,none] mixed (by kernel_rfl) rfl (aG (fun _ hJ=>aP (r:=6) sQ (.r rfl) rfl) rfl<|aG (fun _ hJ=>aP (r:=6) mj (.r rfl) rfl) rfl<|aG (fun _ hJ=>aC O3 (.r rfl) (fun _ hw=>cN (hJ _ hw) 0 rfl ⟨_,rfl⟩)) rfl<|aG (fun _ hJ=>aP (r:=5) lN (.r rfl) rfl) rfl<|aG (fun _ hJ=>aC zH (.r rfl) (fun _ hw=>cN (hJ _ hw) 3 rfl ⟨_,rfl⟩)) rfl<|cT rfl<|aG (fun _ hJ=>bM xq yA hv.some (.r rfl) (.r rfl) rfl (by omega)) rfl<|aG (fun _ hJ=>aP mj (.r rfl) rfl) rfl<|aG (fun _ hJ=>aC O3 (.r rfl) (fun w hw=>aA (off:=0) ((hv.at (j:=p) (by omega)) w (hJ _ hw)) ⟨_,rfl⟩)) rfl<|aG (fun _ hJ=>LO.add (.r rfl) (.r rfl) (wi (by omega) (by omega))) rfl<|aG (fun _ hJ=>aP (r:=6) sQ (.r rfl) rfl) rfl<|aG (fun _ hJ=>aP (r:=6) mj (.r rfl) rfl) rfl<|dC<|fj) (az<|az<|az<|az<|az<|az<|az<|az<|az<|az<|az<|az<|HX.h0<|cq 0 (vs:=[_]) (C':=[_,_,_,_,_,_,_,_]) (L':=[_,_,_,_]) N3 rfl rfl rfl rfl rfl rfl rfl rfl<|⟨fun _ hw=>hw.gY [1,2,3] rfl,fB ?_⟩)
    refine bB (aj<|aM (ag rfl<|da rfl rfl (by omega) (by omega) rfl<|ax rfl<|aN ?_))
    have hsc:=IX (W:=gW g) (vs:=vs) (lv:=lv) hpk (by omega)
    refine aZ fun a w ha hw=>⟨i+1,(by omega),(by omega),ha.sub (.c4 rfl rfl rfl rfl (.cons rfl (.cons rfl (.cons rfl .nil)))),(by rw[hsc];first |exact hw|(unfold nu;dsimp only;rw[if_pos hin];exact hw)|(unfold nu;dsimp only;rw[if_neg (fM.1 hin)];exact hw))⟩
   ·
    have hin:pF vs lv p=false:=decide_eq_false h92
    refine aE (bB (aj<|aM (ag rfl<|da rfl rfl (by omega) (by omega) rfl<|ax rfl<|aN ?_)))
    have hsc:=IX (W:=gW g) (vs:=vs) (lv:=lv) hpk (by omega)
    rw[Nv hpk hin]
    refine aZ fun a w ha hw=>⟨i+1,(by omega),(by omega),ha.sub (.c4 rfl rfl rfl rfl (.cons rfl (.cons rfl (.cons rfl .nil)))),(by rw[hsc];first |exact hw|(unfold nu;dsimp only;rw[if_pos hin];exact hw)|(unfold nu;dsimp only;rw[if_neg (fM.1 hin)];exact hw))⟩
 ·
  have hie:i=l.length:=by omega
  subst hie
  rw[VG hne]
  refine bU (aH (aH (cB (aj<|au (bO (r:=0) lO rfl<|ah (aX (vs:=[_,_,_,_,_]) qw (.r rfl) (aF 3 rfl ⟨_,rfl⟩) rfl) rfl<|ag rfl<|aB rfl<|cd (xs:=[_,_]) (vs:=[_,_]) C70 ⟨(.r rfl),(.r rfl),trivial⟩ (fun w2 hw=>KO g (uv vs lv l l.length) vs.length hvl _ _ w2 hg (fK hw 1 rfl)) fun y hy=>bO (r:=1) BL rfl<|cu<|cq 2 (vs:=[_]) (C':=[_,_,_,_,_,_,_,_]) (L':=[_,_,_,_,_,_]) N56 rfl rfl rfl rfl rfl rfl rfl rfl<|aq<|au (ah (aX (vs:=[_,_,_,_,_,_,_,_]) Ap (.r rfl) (aF 2 rfl ⟨_,rfl⟩) rfl) rfl<|cu<|cq 4 (vs:=[_,_,_,_,_,_,_,_]) (C':=[_,_,_,_,_,_,_,_]) (L':=[_,_,_,_,_,_]) Fm rfl rfl rfl rfl rfl rfl rfl rfl<|aq ?_))))))
  refine be (dh (vs:=[_]) rfl ⟨RV.agg (vs:=[_,_,_,_,_,_,_,_]) Ap rfl (aF 4 rfl ⟨_,rfl⟩) rfl,trivial⟩ (fun w hw=>?_))
  exact⟨y,hy,rfl,dq [0,1] rfl rfl _ hw⟩
theorem Nq (g:eo) (vs:List Span) (pv:Option Addr) (cv:Nat) (lv:Int) (w:World) (hg:dH g) (hvl:vs.length=gW g*gH g) (hok:∀j,j<vs.length→iN 1073741824 (vs.getD j ⟨0,0⟩)) (hv:fL w pv vs):
 Calls af 36 #[im g pv vs.length cv,.int .i64 lv] w fun e w'=>∃y:uE,Ax (gW g) (gH g) vs lv y∧e= .returned (.slice y.p y.l.length y.c)∧St (bs w) (y.R 159) w':=by
 have har:=iM hg
 obtain⟨hW,hH,hW1,hW2,hH1,hH2⟩:=An hg
 refine enter (vs:=[_,_]) (env:=[(0,_),(1,_)]) Tryz.func36 rfl rfl rfl rfl ?_
 refine au (aB rfl<|c8 (C:=#[_,_,_,_,_,_]) rfl rfl fun b1=>ax rfl<|aq<|au (ax rfl<|aq<|av ?_))
 refine eC [[0],[0],[0],[0]] [some 1,some 1,some 0,some 0,none,none,none] mixed (by kernel_rfl) rfl (aG (fun _ hJ=>aP (r:=0) lO (.r rfl) rfl) rfl<|aG (fun _ hJ=>aX (vs:=[_,_,_,_,_]) qw (.r rfl) (fun _ hw=>cN (hJ _ hw) 0 rfl ⟨_,rfl⟩) rfl) rfl<|aG (fun _ hJ=>aX (vs:=[_,_,_,_,_,_]) oy (.r rfl) (fun _ hw=>cN (hJ _ hw) 0 rfl ⟨_,rfl⟩) rfl) rfl<|cT rfl<|dC<|dC<|dC<|fj) (az<|az<|az<|az<|HX.h rfl<|cd (xs:=[_,_]) (vs:=[_,_]) C71 ⟨(.r rfl),(.r rfl),trivial⟩ (fun w2 hw=>We g vs pv cv lv w2 (hv.b0 w2 hw) (by omega)) fun y1 _=>⟨fun _ hw=>hw.gY [1] rfl,HX.h rfl<|cd (xs:=[_,_]) (vs:=[_,_]) C70 ⟨(.r rfl),(.r rfl),trivial⟩ (fun w2 hw=>Eh g (et vs lv) (l1 vs.length (et vs lv)) y1.p y1.c w2 hg (fK hw 0 rfl) (by rw[hvl])) fun y2 hy2=>⟨fun _ hw=>hw.gY [3] rfl,HX.h rfl<|aW (LO.as (.r rfl))<|⟨fun _ hw=>hw.gY [3] rfl,fB ?_⟩⟩⟩)
 refine aj<|av<|av<|VC.nF fun w1 hst1=>?_
 have hRR:RR 1 nC w1 y2.p y2.rs:=RR.gM hst1 0 1 rfl rfl
 have hv1:=hv.b0 w1 hst1
 have hfb:fG w1 ⟨b1,0,none⟩ [.int .i64 g.x,.int .i64 g.y,.int .i64 g.size,.int .i64 g.wide,.int .i64 g.high,.slice pv vs.length cv]:=dQ (hst1.inv 3 _ rfl)
 refine aM (ax rfl<|aq<|aD<|bS (α:=Nat×(List di)×(Option Addr)×Nat) 0 (fun gx=>[(5,.slice gx.2.2.1 gx.2.1.length gx.2.2.2),(7,.int .i64 (gx.1:Nat))]) [(1,_),(2,_),(6,_)] (fun gx=>[own 159 8 gx.2.2.1 gx.2.2.2 (gx.2.1.map l7),bV (L5 gx.2.1)]) (fun gx=>gx.1≤y2.rs.length∧gx.2.1.map di.px=y2.rs.take gx.1∧∀a,a∈gx.2.1→a.m=qg (gW g) (gH g) vs lv a.px.l) (fun gx=>y2.rs.length-gx.1) (0,[],none,0) (by exact⟨aY _,rfl,by simp⟩) (.c4 rfl rfl rfl rfl (.cons rfl .nil)) (fun _ h=>((St.bV (Rs:=[]) h).fX 159 8)) ?_)
 rintro ⟨i,l,pa,ca⟩ ⟨hi,hpx,hms⟩
 show VC _ _ _ _ _ ([(5,.slice pa l.length ca),(7,.int .i64 (i:Nat))]++_) ([own 159 8 pa ca (l.map l7),bV (L5 l)]++_) _ _
 dsimp only at hi hpx hms
 have hll:=congrArg dv hpx
 rw[ak,List.length_take]at hll
 have hyl:y2.rs.length≤gW g*gH g:=by have:=congrArg dv hy2;rw[ak]at this;rw[this];exact kh
 refine av<|au (ag rfl<|ag rfl<|ah (bE tQ (.r rfl) rfl) rfl<|dK rfl<|aq<|ay rfl (fun h17=>?_) (fun h17=>?_))
 ·
  obtain⟨r,hr⟩:=du (l:=y2.rs) (n:=i) (by omega)
  obtain⟨p0,hp0,hp0l,⟨hrl1,hrl2,_⟩,hrm⟩:=zA hy2 hr
  have hrl2:r.l.length≤4096:=by omega
  have hrne:r.l≠[]:=fun z=>by rw[z]at hrl1;exact absurd hrl1 (Nat.lt_irrefl 0)
  have hTS:∀x,x<gW g*gH g→pF vs lv x=true→et vs lv x=true:=Vn (fun j hj=>hok j (by omega))
  refine aE (aj<|av<|aD<|eC [[0,1],[0,1],[0,1],[1],[1]] [some 2,some 0,some 0,some 0,some 0,some 0,some 0,none,none,none,none] mixed (by kernel_rfl) rfl (cT rfl<|aG (fun _ hJ=>aX (vs:=[_,_,_,_,_,_]) oy (.r rfl) (bj (bI (off:=0) hfb ⟨_,rfl⟩)) rfl) rfl<|cT rfl<|cT rfl<|cT rfl<|aG (fun _ hJ=>bM tQ qL hRR.1.sm (.r rfl) (.r rfl) rfl (by omega)) rfl<|aG (fun _ hJ=>aC iL (.r rfl) (fun w hw=>aA (off:=0) ((fun w3 h3=>RR.cell (RR.b0 hRR w3 h3) hr) w (hJ _ hw)) ⟨_,rfl⟩)) rfl<|dC<|dC<|dC<|dC<|fj) (az<|az<|az<|az<|az<|az<|az<|HX.h rfl<|cd (xs:=[_,_,_]) (vs:=[_,_,_]) C72 ⟨(.r rfl),(.r rfl),(.r rfl),trivial⟩ (fun w2 hw=>Su g vs pv cv lv r.l r.p r.c w2 hg hvl hok (hv1.b0 w2 hw) ((RR.row hRR hr).b0 w2 hw) hrm hrl2 hrne) fun y3 hy3=>⟨fun _ hw=>hw.gY [2,3] rfl,HX.h rfl<|eW (ps:=[(_,_)]) (vs:=[(_,_)]) (Z:=[_,_,_,_,_,_,_,_]) (C:=[_,_,_,_,_,_,_,_]) yE W2 Fm ⟨(.r rfl),trivial⟩ rfl rfl rfl rfl ⟨_,[_,_,_,_,_,_,_,_],[_,_,_,_,_,_,_,_],rfl,rfl,rfl,rfl,rfl⟩ fun b15=>⟨fun _ hw=>hw.gY [3,4] rfl,HX.h rfl<|eP ((⟨r,y3.p,y3.c,y3.rs,zy (gW g) vs lv r.l⟩:di)) 3 0 (fun R=>[_,_,_,R,_]) yE yE acf (.r rfl) (.r rfl) rfl rfl rfl rfl rfl rfl rfl (fun _=>rfl) rfl (by omega) fun p9 c9=>⟨fun _ hw=>hw.gY [4] rfl,HX.h rfl<|aW (LO.as (.r rfl))<|⟨fun _ hw=>hw.gY [4] rfl,fB ?_⟩⟩⟩⟩))
  refine bB (aj<|aM (ag rfl<|da rfl rfl (by omega) (by omega) rfl<|ax rfl<|aN<|aZ fun a w ha hw=>⟨(i+1,l++[(⟨r,y3.p,y3.c,y3.rs,zy (gW g) vs lv r.l⟩:di)],p9,c9),⟨by dsimp only;omega,by dsimp only;rw[bG,hpx,Ku hr];rfl,Fe hms (MW hTS (by rw[←hy2];exact bw (al hr)) hy3 rfl)⟩,(by dsimp only;omega),ha.sub (.c4 rfl rfl rfl rfl (.cons rfl .nil)),(by exact dq (L1:=[_,_]) [1,0] rfl rfl _ (St.kIn (a:=(⟨r,y3.p,y3.c,y3.rs,zy (gW g) vs lv r.l⟩:di)) (dq (L1:=[_,_,_,_]) [1,2,4,3] rfl rfl _ hw)))⟩))
 ·
  have hie:i=y2.rs.length:=by omega
  subst hie
  rw[eG]at hpx
  refine bU (aH (aH (cB (aj<|au (ag rfl<|ax rfl<|aq<|be (dP rfl rfl (fun w hw=>?_)))))))
  have hf:=hst1.call (dq (L1:=[_,_]) [0,1] rfl rfl _ hw)
  exact⟨⟨l,pa,ca,y2.rs⟩,Fz hy2 hpx hms,rfl,dq [0,1,3] rfl rfl _ hf⟩
structure ALB (l:List di):Prop where
 n:l.length≤4096
 px:∀a,a∈l→a.px.l.length≤4096
 kr:∀a,a∈l→a.kr.length≤4096
 kl:∀a,a∈l→∀k,k∈a.kr→k.l.length≤4096
theorem Dv {W H:Nat} {S:Nat→Bool} {l:List Nat} (h:l∈dM W H S):l.length≤W*H:=by
 obtain⟨p,hp,hs,rfl⟩:=k9 (p:=W*H) h
 have hn:(gU W H S p).Nodup:=(ja hp).imp fun h=>Nat.ne_of_lt h
 have:=length_le_of_subset (m:=bF (W*H)) hn (fun x hx=>List.mem_range.2 (pH hp hx))
 simpa using this
theorem OF {W H:Nat} {vs:List Span} {lv:Int} {l:List di} (hW:W*H≤4096) (h:l.map di.m=kL W H vs lv):ALB l:=by
 have hmem:∀a,a∈l→∃pl,pl∈dM W H (et vs lv)∧a.m=qg W H vs lv pl:=fun a ha=>by
  have:a.m∈kL W H vs lv:=by rw[←h];exact bw ha
  obtain⟨pl,h1,h2⟩:=bN.1 this
  exact⟨pl,h1,h2.symm⟩
 have hk:∀a,a∈l→∃pl,a.kr.map cG.l=(dM W H (pF vs lv)).filter (fun k=>decide (k.headD 0∈pl)):=fun a ha=>by
  obtain⟨pl,_,h2⟩:=hmem a ha
  exact⟨pl,congrArg qh.ks h2⟩
 refine⟨?_,fun a ha=>?_,fun a ha=>?_,fun a ha k hk2=>?_⟩
 ·have:=congrArg dv h
  unfold kL at this
  rw[ak,ak]at this
  have:=kh (W:=W) (H:=H) (S:=et vs lv) (p:=W*H)
  unfold dM at*
  omega
 ·obtain⟨pl,h1,h2⟩:=hmem a ha
  have:a.px.l=pl:=congrArg qh.px h2
  rw[this]
  have:=Dv h1;omega
 ·obtain⟨pl,h1⟩:=hk a ha
  have h2:=congrArg dv h1
  rw[ak]at h2
  have h3:=List.length_filter_le (fun k=>decide (k.headD 0∈pl)) (dM W H (pF vs lv))
  have h4:=kh (W:=W) (H:=H) (S:=pF vs lv) (p:=W*H)
  unfold dM at*
  omega
 ·obtain⟨pl,h1⟩:=hk a ha
  have:k.l∈(dM W H (pF vs lv)).filter (fun k=>decide (k.headD 0∈pl)):=by rw[←h1];exact bw hk2
  have:=Dv (List.mem_filter.1 this).1
  omega
theorem E9 (l:List Nat) (p:Option Addr) (c:Nat) (n:Nat) (w:World) (hl:RO 1 nC w p l) (hn:l.length≤1000000):Calls af 78 #[.slice p l.length c,.int .i64 (n:Int)] w fun e w'=>e= .returned (.bool (decide (n∈l)))∧St (bs w) [] w':=by
 have z:=OS (l.map fun n:Nat=>(n:Int)) p c n w (Rj hl) (by rw[ak];exact hn)
 rw[ak]at z
 refine z.mono fun e w' ⟨h1,h2⟩=>⟨?_,h2⟩
 rw[h1]
 refine congrArg (fun b=>bT (.bool b)) (decide_eq_decide.2 ?_)
 rw[bN]
 exact⟨fun⟨a,ha,e⟩=>by
   have e:(a:Int)=n:=e;have:a=n:=by omega
   subst this;exact ha,fun h=>⟨n,h,rfl⟩⟩
theorem Ua {W H:Nat} {vs:List Span} {lv:Int} {y:uE} (h:Ax W H vs lv y):y.l.map (fun a=>a.px.l)=dM W H (et vs lv):=by
 have:=congrArg (List.map qh.px) h.m
 rw[dV]at this
 unfold kL at this
 rw[dV]at this
 have e:(dM W H (et vs lv)).map (qh.px∘qg W H vs lv)=dM W H (et vs lv):=List.map_id _
 rw[e]at this
 exact this
theorem zg:cP af 159 0 0:=⟨_,_,kz,rfl,rfl,0,by kernel_rfl⟩
def Kv (W r p q:Nat):Bool:=decide (((((p%W:Nat):Int)-((q%W:Nat):Int)≤r∧ -(((p%W:Nat):Int)-((q%W:Nat):Int))≤r)∧((p / W:Nat):Int)-((q / W:Nat):Int)≤r)∧ -(((p / W:Nat):Int)-((q / W:Nat):Int))≤r)
def FG (W r:Nat) (l m:List Nat):Bool:=l.any fun p=>m.any fun q=>Kv W r p q
theorem T6 {W r i k p q:Nat} {l m:List Nat} (hp:l[i]? =some p) (hq:m[k]? =some q) (h:Kv W r p q=true):true=FG W r l m:=(dY.2 ⟨p,al hp,dY.2 ⟨q,al hq,h⟩⟩).symm
theorem T7 {W r:Nat} {l m:List Nat} (h:∀i,i<l.length→∀p,l[i]? =some p→∀q,q∈m→Kv W r p q=false):false=FG W r l m:=by
 symm
 refine fM.2 fun z=>?_
 obtain⟨p,hp,z2⟩:=dY.1 z
 obtain⟨q,hq,z3⟩:=dY.1 z2
 obtain⟨i,hi⟩:=eA.1 hp
 rw[h i (an.1 hi).1 p hi q hq]at z3;cases z3
theorem Kj {b:List Nat} {W r k p q:Nat} (h:∀j,j<k→∀q,b[j]? =some q→Kv W r p q=false) (hq:b[k]? =some q) (hn:Kv W r p q=false):∀j,j<k+1→∀q,b[j]? =some q→Kv W r p q=false:=fun j hj q2 hq2=>by
 rcases cZ.1 hj with z|rfl
 ·exact h j z q2 hq2
 ·rw[hq]at hq2;cases hq2;exact hn
theorem NC {a b:List Nat} {W r i p:Nat} (h:∀j,j<i→∀p,a[j]? =some p→∀q,q∈b→Kv W r p q=false) (hp:a[i]? =some p) (hn:∀j,j<b.length→∀q,b[j]? =some q→Kv W r p q=false):∀j,j<i+1→∀p,a[j]? =some p→∀q,q∈b→Kv W r p q=false:=fun j hj p2 hp2 q hq=>by
 rcases cZ.1 hj with z|rfl
 ·exact h j z p2 hp2 q hq
 ·rw[hp]at hp2;cases hp2
  obtain⟨k,hk⟩:=eA.1 hq
  exact hn k (an.1 hk).1 q hk
theorem Pu (g:eo) (a b:di) (r:Nat) (w:World) (hg:dH g) (ha:RO 1 nC w a.px.p a.px.l) (hb:RO 1 nC w b.px.p b.px.l) (han:∀p,p∈a.px.l→p<gW g*gH g) (hbn:∀p,p∈b.px.l→p<gW g*gH g) (hal:a.px.l.length≤4096) (hbl:b.px.l.length≤4096):
 Calls af 73 #[lL g,.agg #[.slice a.px.p a.px.l.length a.px.c,.slice a.kp a.kr.length a.kc,.int .i64 a.s.xl,.int .i64 a.s.xh,.int .i64 a.s.yl,.int .i64 a.s.yh,.int .i64 a.s.sl,.int .i64 a.s.sh],.agg #[.slice b.px.p b.px.l.length b.px.c,.slice b.kp b.kr.length b.kc,.int .i64 b.s.xl,.int .i64 b.s.xh,.int .i64 b.s.yl,.int .i64 b.s.yh,.int .i64 b.s.sl,.int .i64 b.s.sh],.int .i64 (r:Int)] w fun e w'=>e= .returned (.bool (FG (gW g) r a.px.l b.px.l))∧St (bs w) [] w':=by
 have har:=iM hg
 obtain⟨hW,hH,hW1,hW2,hH1,hH2⟩:=An hg
 refine enter (vs:=[_,_,_,_]) (env:=[(0,_),(1,_),(2,_),(3,_)]) Tryz.func73 rfl rfl rfl rfl ?_
 refine au (aB rfl<|c8 (C:=#[_,_,_,_,_]) rfl rfl fun b1=>aB rfl<|c8 (C:=#[_,_,_,_,_,_,_,_]) rfl rfl fun b2=>aB rfl<|c8 (C:=#[_,_,_,_,_,_,_,_]) rfl rfl fun b3=>ax rfl<|aq<|av<|au (ax rfl<|aq ?_))
 refine aD<|bS (α:=Nat) 0 (fun gx=>[(9,.int .i64 (gx:Nat))]) [(3,_),(4,_),(5,_),(6,_)] (fun gx=>[]) (fun gx=>gx≤a.px.l.length∧∀j,j<gx→∀p,a.px.l[j]? =some p→∀q,q∈b.px.l→Kv (gW g) r p q=false) (fun gx=>a.px.l.length-gx) 0 (by exact⟨aY _,fun j h=>absurd h (cQ _)⟩) (.c4 rfl rfl rfl rfl (.cons rfl .nil)) (fun _ h=>h) ?_
 rintro i ⟨hi,hz⟩
 refine av<|au (ag rfl<|bO (r:=0) zg rfl<|cL 1 iL rfl rfl ⟨_,rfl⟩ rfl<|ah (bE fk (.r rfl) rfl) rfl<|dK rfl<|aq<|ay rfl (fun h19=>?_) (fun h19=>?_))
 ·
  obtain⟨p,hpi⟩:=du (l:=a.px.l) (n:=i) (by omega)
  have hpl:=han p (al hpi)
  refine aE (aj<|av<|aD<|au (ax rfl<|aq<|aD ?_))
  refine bS (α:=Nat) 0 (fun gx=>[(10,.int .i64 (gx:Nat))]) [(3,_),(4,_),(5,_),(6,_),(9,_)] (fun gx=>[]) (fun gx=>gx≤b.px.l.length∧∀j,j<gx→∀q,b.px.l[j]? =some q→Kv (gW g) r p q=false) (fun gx=>b.px.l.length-gx) 0 (by exact⟨aY _,fun j h=>absurd h (cQ _)⟩) (.c4 rfl rfl rfl rfl (.cons rfl (.cons rfl .nil))) (fun _ h=>h) ?_
  rintro k ⟨hk,hy⟩
  refine av<|au (ag rfl<|bO (r:=0) zg rfl<|cL 0 iL rfl rfl ⟨_,rfl⟩ rfl<|ah (bE fk (.r rfl) rfl) rfl<|dK rfl<|aq<|ay rfl (fun h26=>?_) (fun h26=>?_))
  ·
   obtain⟨q,hqk⟩:=du (l:=b.px.l) (n:=k) (by omega)
   have hql:=hbn q (al hqk)
   refine aE (aj<|av<|aD<|av<|gj mixed (bl (aP (r:=0) zg (.r rfl) rfl) rfl<|bl (aC iL (.r rfl) (aF 1 rfl ⟨_,rfl⟩)) rfl<|eT rfl<|bl (bM fk N3 ha.sm (.r rfl) (.r rfl) rfl (by omega)) rfl<|bl (aC O3 (.r rfl) (fun w hw=>aA (off:=0) ((fun w3 h3=>cY (ha.b0 w3 h3) hpi) w hw) ⟨_,rfl⟩)) rfl<|bl (aP (r:=0) zg (.r rfl) rfl) rfl<|bl (aC iL (.r rfl) (aF 0 rfl ⟨_,rfl⟩)) rfl<|eT rfl<|bl (bM fk N3 hb.sm (.r rfl) (.r rfl) rfl (by omega)) rfl<|bl (aC O3 (.r rfl) (fun w hw=>aA (off:=0) ((fun w3 h3=>cY (hb.b0 w3 h3) hqk) w hw) ⟨_,rfl⟩)) rfl<|bl (LO.as (.r rfl)) rfl<|bl (LO.as (.r rfl)) rfl<|gy) (by kernel_rfl)<|aj<|av ?_)
   have hpd:=nE hg (p:=p) (by omega)
   have hqd:=nE hg (p:=q) (by omega)
   have hpr:p%gW g<gW g:=jW _ (by omega)
   have hqr:q%gW g<gW g:=jW _ (by omega)
   refine gj mixed (eT rfl<|bl (aP (r:=3) iQ (.r rfl) rfl) rfl<|bl (aC O3 (.r rfl) (aF 2 rfl ⟨_,rfl⟩)) rfl<|bl (eN (nk (.r rfl) (.r rfl) (by omega)) (congrArg (cX .i64) (sK hg p))) rfl<|eT rfl<|bl (aP (r:=3) iQ (.r rfl) rfl) rfl<|bl (aC O3 (.r rfl) (aF 2 rfl ⟨_,rfl⟩)) rfl<|bl (eN (nk (.r rfl) (.r rfl) (by omega)) (congrArg (cX .i64) (sK hg q))) rfl<|bl (gz (.r rfl) (.r rfl) (wi (by omega) (by omega))) rfl<|eT rfl<|bl (aP (r:=3) iQ (.r rfl) rfl) rfl<|bl (aC O3 (.r rfl) (aF 2 rfl ⟨_,rfl⟩)) rfl<|bl (eN (mz (.r rfl) (.r rfl) (by omega) (wi (by rw[jB hg];have:=nE hg (p:=p) (by omega);omega) (by rw[jB hg];have:=nE hg (p:=p) (by omega);omega))) (congrArg (cX .i64) (jB hg p))) rfl<|eT rfl<|bl (aP (r:=3) iQ (.r rfl) rfl) rfl<|bl (aC O3 (.r rfl) (aF 2 rfl ⟨_,rfl⟩)) rfl<|bl (eN (mz (.r rfl) (.r rfl) (by omega) (wi (by rw[jB hg];have:=nE hg (p:=q) (by omega);omega) (by rw[jB hg];have:=nE hg (p:=q) (by omega);omega))) (congrArg (cX .i64) (jB hg q))) rfl<|bl (gz (.r rfl) (.r rfl) (wi (by omega) (by omega))) rfl<|bl (LO.as (.r rfl)) rfl<|bl (LO.as (.r rfl)) rfl<|gy) (by kernel_rfl)<|aj<|au (ag rfl<|ag rfl<|ah (LO.le (.r rfl) (.r rfl)) rfl<|ag rfl<|bh rfl (fun hg=>aS (.r rfl))<|bh rfl (fun hg=>LO.neg (.g hg rfl) (wi (by omega) (by omega)))<|bh rfl (fun hg=>aS (.r rfl))<|bh rfl (fun hg=>LO.le (.g hg rfl) (.g hg rfl))<|ah (e7 (.r rfl) rfl rfl (.r rfl)) rfl<|ag rfl<|bh rfl (fun hg=>aS (.r rfl))<|bh rfl (fun hg=>aS (.r rfl))<|bh rfl (fun hg=>LO.le (.g hg rfl) (.g hg rfl))<|ah (e7 (.r rfl) rfl rfl (.r rfl)) rfl<|ag rfl<|bh rfl (fun hg=>aS (.r rfl))<|bh rfl (fun hg=>LO.neg (.g hg rfl) (wi (by omega) (by omega)))<|bh rfl (fun hg=>aS (.r rfl))<|bh rfl (fun hg=>LO.le (.g hg rfl) (.g hg rfl))<|ah (e7 (.r rfl) rfl rfl (.r rfl)) rfl<|aq<|ay rfl (fun h76=>?_) (fun h76=>?_))
   ·
    refine au (ax rfl<|aq<|be (dA (bA (bA (dA (dA (bA (bA (dA (bA (dP rfl rfl (fun w hw=>?_))))))))))))
    refine⟨congrArg (fun z=>bT (.bool z)) ?_,hw.nil⟩
    first |exact T6 hpi hqk (decide_eq_true h76)|exact T7 fun j hj p hp q hq=>hz j (by omega) p hp q hq
   ·
    refine aE (bB (aj<|aM (ag rfl<|da rfl rfl (by omega) (by omega) rfl<|ax rfl<|aN<|aZ fun a w ha hw=>⟨k+1,⟨by omega,fun j hj q2 hq2=>Kj hy hqk (decide_eq_false h76) j hj q2 hq2⟩,(by omega),ha.sub (.c4 rfl rfl rfl rfl (.cons rfl (.cons rfl .nil))),hw⟩)))
  ·
   have hke:k=b.px.l.length:=by omega
   subst hke
   refine bU (aH (aH (cB (bB (aj<|aM (ag rfl<|da rfl rfl (by omega) (by omega) rfl<|ax rfl<|aN<|aZ fun a w ha hw=>⟨i+1,⟨by omega,fun j hj p2 hp2 q hq=>NC hz hpi hy j hj p2 hp2 q hq⟩,(by omega),ha.sub (.c4 rfl rfl rfl rfl (.cons rfl .nil)),hw⟩))))))
 ·
  refine bU (aH (aH (cB (aj<|au (ax rfl<|aq<|be (dP rfl rfl (fun w hw=>?_)))))))
  refine⟨congrArg (fun z=>bT (.bool z)) ?_,hw.nil⟩
  first |exact T6 hpi hqk (decide_eq_true h76)|exact T7 fun j hj p hp q hq=>hz j (by omega) p hp q hq
theorem Ss (a b:Nat) (w:World):
 Calls af 95 #[.int .i64 (a:Int),.int .i64 (b:Int)] w fun e w'=>e= .returned (.int .i64 (iR a b))∧St (bs w) [] w':=by
 refine enter (vs:=[_,_]) (env:=[(0,_),(1,_)]) Tryz.func95 rfl rfl rfl rfl ?_
 refine au (ax rfl<|aq<|av<|aD<|au (ag rfl<|ah (ia (.r rfl) (.r rfl)) rfl<|ax rfl<|aN ?_))
 refine aj<|ay rfl (fun h5=>?_) (fun h5=>?_)
 ·
  refine au (ax rfl<|aq<|be (dA (bA (dP rfl rfl (fun w hw=>?_)))))
  refine⟨congrArg (fun z=>bT (.int .i64 z)) ?_,hw.nil⟩
  unfold iR
  first |rw[if_pos (by omega)]|rw[if_neg (by omega),if_pos (by omega)]|rw[if_neg (by omega),if_neg (by omega),if_pos (by omega),if_pos (by omega)]|rw[if_neg (by omega),if_neg (by omega),if_pos (by omega),if_neg (by omega)]|rw[if_neg (by omega),if_neg (by omega),if_neg (by omega),if_pos (by omega)]|rw[if_neg (by omega),if_neg (by omega),if_neg (by omega),if_neg (by omega)]
 ·
  refine au (ag rfl<|ah (ia (.r rfl) (.r rfl)) rfl<|ax rfl<|aq<|ay rfl (fun h8=>?_) (fun h8=>?_))
  ·
   refine au (ax rfl<|aq<|be (dA (bA (dP rfl rfl (fun w hw=>?_)))))
   refine⟨congrArg (fun z=>bT (.int .i64 z)) ?_,hw.nil⟩
   unfold iR
   first |rw[if_pos (by omega)]|rw[if_neg (by omega),if_pos (by omega)]|rw[if_neg (by omega),if_neg (by omega),if_pos (by omega),if_pos (by omega)]|rw[if_neg (by omega),if_neg (by omega),if_pos (by omega),if_neg (by omega)]|rw[if_neg (by omega),if_neg (by omega),if_neg (by omega),if_pos (by omega)]|rw[if_neg (by omega),if_neg (by omega),if_neg (by omega),if_neg (by omega)]
  ·
   refine au (ag rfl<|ah (ia (.r rfl) (.r rfl)) rfl<|ag rfl<|bh rfl (fun hg=>aS (.r rfl))<|bh rfl (fun hg=>ia (.g hg rfl) (.r rfl))<|ah (e7 (.r rfl) rfl rfl (.r rfl)) rfl<|ax rfl<|aq<|ay rfl (fun h11=>?_) (fun h11=>?_))
   ·
    refine au (ax rfl<|aq<|be (dA (bA (dP rfl rfl (fun w hw=>?_)))))
    refine⟨congrArg (fun z=>bT (.int .i64 z)) ?_,hw.nil⟩
    unfold iR
    first |rw[if_pos (by omega)]|rw[if_neg (by omega),if_pos (by omega)]|rw[if_neg (by omega),if_neg (by omega),if_pos (by omega),if_pos (by omega)]|rw[if_neg (by omega),if_neg (by omega),if_pos (by omega),if_neg (by omega)]|rw[if_neg (by omega),if_neg (by omega),if_neg (by omega),if_pos (by omega)]|rw[if_neg (by omega),if_neg (by omega),if_neg (by omega),if_neg (by omega)]
   ·
    refine au (ag rfl<|ah (ia (.r rfl) (.r rfl)) rfl<|ax rfl<|aq<|ay rfl (fun h18=>?_) (fun h18=>?_))
    ·
     refine au (ax rfl<|aq<|be (dA (bA (dP rfl rfl (fun w hw=>?_)))))
     refine⟨congrArg (fun z=>bT (.int .i64 z)) ?_,hw.nil⟩
     unfold iR
     first |rw[if_pos (by omega)]|rw[if_neg (by omega),if_pos (by omega)]|rw[if_neg (by omega),if_neg (by omega),if_pos (by omega),if_pos (by omega)]|rw[if_neg (by omega),if_neg (by omega),if_pos (by omega),if_neg (by omega)]|rw[if_neg (by omega),if_neg (by omega),if_neg (by omega),if_pos (by omega)]|rw[if_neg (by omega),if_neg (by omega),if_neg (by omega),if_neg (by omega)]
    ·
     refine au (ag rfl<|ah (ia (.r rfl) (.r rfl)) rfl<|ax rfl<|aq<|ay rfl (fun h21=>?_) (fun h21=>?_))
     ·
      refine au (ax rfl<|aq<|be (dA (bA (dP rfl rfl (fun w hw=>?_)))))
      refine⟨congrArg (fun z=>bT (.int .i64 z)) ?_,hw.nil⟩
      unfold iR
      first |rw[if_pos (by omega)]|rw[if_neg (by omega),if_pos (by omega)]|rw[if_neg (by omega),if_neg (by omega),if_pos (by omega),if_pos (by omega)]|rw[if_neg (by omega),if_neg (by omega),if_pos (by omega),if_neg (by omega)]|rw[if_neg (by omega),if_neg (by omega),if_neg (by omega),if_pos (by omega)]|rw[if_neg (by omega),if_neg (by omega),if_neg (by omega),if_neg (by omega)]
     ·
      refine aE (bB (aj<|au (ax rfl<|aq<|be (dP rfl rfl (fun w hw=>?_)))))
      refine⟨congrArg (fun z=>bT (.int .i64 z)) ?_,hw.nil⟩
      unfold iR
      first |rw[if_pos (by omega)]|rw[if_neg (by omega),if_pos (by omega)]|rw[if_neg (by omega),if_neg (by omega),if_pos (by omega),if_pos (by omega)]|rw[if_neg (by omega),if_neg (by omega),if_pos (by omega),if_neg (by omega)]|rw[if_neg (by omega),if_neg (by omega),if_neg (by omega),if_pos (by omega)]|rw[if_neg (by omega),if_neg (by omega),if_neg (by omega),if_neg (by omega)]
theorem Ef:dr af 104 (.agg #[.int .i64 0,.slice none 0 0,.slice none 0 0]):=by unfold dr;kernel_rfl
theorem Sl:ee af 161 157:=Tryz.underlying161
theorem ZF:(af.info? 157).map (·.size)=some 1:=by kernel_rfl
theorem abX:jJ af 157:=⟨⟨_,vJ,rfl⟩,by kernel_rfl⟩
theorem uh:cP af 104 1 1:=⟨_,_,jo,rfl,rfl,0,by kernel_rfl⟩
theorem rf:cP af 104 2 2:=⟨_,_,jo,rfl,rfl,0,by kernel_rfl⟩
theorem C95:fh af 95:=⟨_,Tryz.func95,by decide,rfl⟩
theorem uj:cP af 104 0 0:=⟨_,_,jo,rfl,rfl,0,by kernel_rfl⟩
theorem As:lh af 104 3:=⟨⟨_,jo,rfl⟩,by kernel_rfl⟩
theorem rZ:(af.info? 104).map (·.size)=some 3:=by kernel_rfl
def tJ (m:Nat) (T:Nat→Nat→Bool) (i:Nat):List Bool:=(bF m).map (T i)
structure R8 (w:World) (n m:Nat) (T:Nat→Nat→Bool) (p:Option Addr) (rs:List (cG Bool)):Prop where
 rr:RR 1 bC w p rs
 m:rs.map cG.l=(bF n).map (tJ m T)
theorem R8.b0 {w0:World} {n m:Nat} {T:Nat→Nat→Bool} {p:Option Addr} {rs:List (cG Bool)} (h:R8 w0 n m T p rs) {L:List dg}:∀w,St (bs w0) L w→R8 w n m T p rs:=fun w hw=>⟨RR.b0 h.rr w hw,h.m⟩
theorem R8.len {w:World} {n m:Nat} {T:Nat→Nat→Bool} {p:Option Addr} {rs:List (cG Bool)} (h:R8 w n m T p rs):rs.length=n:=by have:=congrArg dv h.m;simpa using this
theorem R8.at {w:World} {n m:Nat} {T:Nat→Nat→Bool} {p:Option Addr} {rs:List (cG Bool)} (h:R8 w n m T p rs) {i:Nat} (hi:i<n):∃r,rs[i]? =some r∧r.l=tJ m T i:=by
 obtain⟨r,hr⟩:=du (l:=rs) (n:=i) (by rw[h.len];exact hi)
 refine⟨r,hr,?_⟩
 have:=congrArg (fun l=>l[i]?) h.m
 simp only[aI,hr,fE hi,Option.map_some,Option.some.injEq]at this
 exact this
theorem NR {m i j:Nat} {T:Nat→Nat→Bool} (h:j<m):(tJ m T i)[j]? =some (T i j):=by unfold tJ;rw[aI,fE h];rfl
theorem DL {m i:Nat} {T:Nat→Nat→Bool}:(tJ m T i).length=m:=by unfold tJ;simp
theorem YC {κ:Nat→Bool×Int} {n m i j first:Nat} {T:Nat→Nat→Bool} {on on2:List Bool} {gr gr2:Bool} (h:ER κ n m T first on i j on2 gr2) (hg:gr=true):2*kI on2+gr2.toNat<2*kI on+gr.toNat:=by
 have h1:=h.le;have h2:=h.lt
 subst hg
 cases gr2 with
 |false=>show 2*kI on2+0<2*kI on+1;omega
 |true=>have:=h2 rfl;show 2*kI on2+1<2*kI on+1;omega
structure EdY where
 f:List Nat
 t:List Nat
 fp:Option Addr
 fc:Nat
 tp:Option Addr
 tc:Nat
theorem Ub {on:List Bool} {n k:Nat} (h:on.getD k false=true) (hk:k<n):(lf on n (k+1)).f=(lf on n k).f++[k]∧(lf on n (k+1)).t=(lf on n k).t:=by rw[I6 h,if_pos hk];exact⟨rfl,rfl⟩
theorem TH {on:List Bool} {n k:Nat} (h:on.getD k false=true) (hk:¬k<n):(lf on n (k+1)).f=(lf on n k).f∧(lf on n (k+1)).t=(lf on n k).t++[k-n]:=by rw[I6 h,if_neg hk];exact⟨rfl,rfl⟩
theorem TC {b:Bool} {k n:Nat} (h1:¬(b=true∧(k:Int)<n)) (h2:¬(b=true∧(n:Int)≤k)):b=false:=by
 cases b with
 |false=>rfl
 |true=>
  by_cases hk:(k:Int)<n
  ·exact absurd ⟨rfl,hk⟩ h1
  ·exact absurd ⟨rfl,by omega⟩ h2
theorem NF (n m first:Nat) (T:Nat→Nat→Bool) (J:Bool×Int→Bool×Int→Prop) (ld:Bool×Int→Bool×Int) (p:Option Addr) (c:Nat) (rs:List (cG Bool)) (w:World) (hT:R8 w n m T p rs) (hJ:TJ n m T J ld) (hf:first<n+m) (hnm:n+m≤100000):
 Calls af 74 #[.slice p rs.length c,.int .i64 (n:Int),.int .i64 (m:Int),.int .i64 (first:Int)] w fun e w'=>∃y:EdY,(y.f=(rU (xg ld n) n (n+m) first).f∧y.t=(rU (xg ld n) n (n+m) first).t)∧e= .returned (.agg #[.int .i64 (iR y.f.length y.t.length),.slice y.fp y.f.length y.fc,.slice y.tp y.t.length y.tc])∧St (bs w) [own 3 1 y.fp y.fc (y.f.map nC),own 3 1 y.tp y.tc (y.t.map nC)] w':=by
 have htl:=hT.len
 refine enter (vs:=[_,_,_,_]) (env:=[(0,_),(1,_),(2,_),(3,_)]) Tryz.func74 rfl rfl rfl rfl ?_
 refine au (aB rfl<|cJ (C:=#[_,_,_]) Ef rfl fun b1=>aq<|au (ag rfl<|ag rfl<|ah (eN (LO.add (.r rfl) (.r rfl) (wi (by omega) (by omega))) (congrArg (cX .i64) (mA _ _).symm)) rfl<|aB rfl<|HO.Au (f:=bC) (z0:=false) (n:=(n+m)) rfl jj I4 (.r rfl) (.r rfl) rfl (by decide) (by omega) (by omega) fun b2=>aB rfl<|aW (LO.as (.r rfl))<|aq<|av ?_))
 refine aM (ag rfl<|ag rfl<|ah (cy jj N4 (fun _ hw=>(bL hw 0 rfl).some (by rw[ak];first |omega|(simp;done)|(simp;omega))) (.r rfl) (.r rfl) rfl (by omega)) rfl<|cu<|iV 0 (fun R=>[R,_]) (true) (vs:=[_]) N4 (.r rfl) (.r rfl) rfl (by simp;omega) rfl rfl rfl rfl rfl (fun _=>rfl)<|aq<|av<|au (ax rfl<|aq<|aD ?_))
 refine bS (α:=(List Bool)×Bool) 1 (fun gx=>[(10,.bool gx.2)]) [(0,_),(1,_),(2,_),(8,_),(9,_)] (fun gx=>[own 4 1 (some ⟨b2,0,none⟩) (n+m) (gx.1.map bC)]) (fun gx=>DE (xg ld n) n m first gx.1∧(gx.2=false→gx.1=l1 (n+m) fun t=>decide (xg ld n t=xg ld n first))) (fun gx=>2*kI gx.1+gx.2.toNat) (((bH (n+m) false).set first true),true) (by exact⟨DE.zero hf,fun z=>by cases z⟩) (.c4 rfl rfl rfl rfl (.cons rfl (.cons rfl .nil))) (fun _ h=>h) ?_
 rintro ⟨on,gr⟩ ⟨hDE,hfin⟩
 show VC _ _ _ _ _ ([(10,.bool gr)]++_) ([own 4 1 (some ⟨b2,0,none⟩) (n+m) (on.map bC)]++_) _ _
 dsimp only at hDE hfin
 have holn:=hDE.len
 refine av<|au (ag rfl<|aq<|ay rfl (fun h22=>?_) (fun h22=>?_))
 ·
  refine aE (aj<|aD<|au (ax rfl<|aq<|au (ax rfl<|aN ?_)))
  refine aj<|aD<|bS (α:=Nat×(List Bool)×Bool) 1 (fun gx=>[(10,.bool gx.2.2),(11,.int .i64 (gx.1:Nat))]) [(0,_),(1,_),(2,_),(8,_),(9,_)] (fun gx=>[own 4 1 (some ⟨b2,0,none⟩) (n+m) (gx.2.1.map bC)]) (fun gx=>gx.1≤n∧ER (xg ld n) n m T first on gx.1 0 gx.2.1 gx.2.2) (fun gx=>n-gx.1) (0,on,false) (by exact⟨aY _,ER.zero hDE⟩) (.c4 rfl rfl rfl rfl (.cons rfl (.cons rfl (.cons rfl .nil)))) (fun _ h=>h) ?_
  rintro ⟨i,on2,gr2⟩ ⟨hi,hER⟩
  show VC _ _ _ _ _ ([(10,.bool gr2),(11,.int .i64 (i:Nat))]++_) ([own 4 1 (some ⟨b2,0,none⟩) (n+m) (on2.map bC)]++_) _ _
  dsimp only at hi hER
  have hol2:=hER.de.len
  refine av<|au (ag rfl<|ag rfl<|dK rfl<|aq<|ay rfl (fun h25=>?_) (fun h25=>?_))
  ·
   refine aE (aj<|av<|aD<|au (ax rfl<|aq<|aD ?_))
   refine bS (α:=Nat×(List Bool)×Bool) 1 (fun gx=>[(10,.bool gx.2.2),(12,.int .i64 (gx.1:Nat))]) [(0,_),(1,_),(2,_),(8,_),(9,_),(11,_)] (fun gx=>[own 4 1 (some ⟨b2,0,none⟩) (n+m) (gx.2.1.map bC)]) (fun gx=>gx.1≤m∧ER (xg ld n) n m T first on i gx.1 gx.2.1 gx.2.2) (fun gx=>m-gx.1) (0,on2,gr2) (by exact⟨aY _,hER⟩) (.c4 rfl rfl rfl rfl (.c4 rfl rfl rfl rfl .nil)) (fun _ h=>h) ?_
   rintro ⟨j,on3,gr3⟩ ⟨hj,XJ⟩
   show VC _ _ _ _ _ ([(10,.bool gr3),(12,.int .i64 (j:Nat))]++_) ([own 4 1 (some ⟨b2,0,none⟩) (n+m) (on3.map bC)]++_) _ _
   dsimp only at hj XJ
   have hol3:=XJ.de.len
   refine av<|au (ag rfl<|ag rfl<|dK rfl<|aq<|ay rfl (fun h30=>?_) (fun h30=>?_))
   ·
    obtain⟨r,hri,hrl⟩:=hT.at (i:=i) (by omega)
    have hrj:r.l[j]? =some (T i j):=by rw[hrl];exact NR (by omega)
    refine aE (aj<|av<|aD<|av<|gj mixed (eT rfl<|eT rfl<|bl (bM Sl ZF hT.rr.1.sm (.r rfl) (.r rfl) rfl (by omega)) rfl<|bl (aC abX (.r rfl) (fun w hw=>aA (off:=0) ((fun w3 h3=>RR.cell (RR.b0 hT.rr w3 h3) hri) w hw) ⟨_,rfl⟩)) rfl<|eT rfl<|bl (bM jj N4 (RR.row hT.rr hri).sm (.r rfl) (.r rfl) rfl (by rw[hrl,DL];omega)) rfl<|bl (aC O4 (.r rfl) (fun w hw=>aA (off:=0) ((fun w3 h3=>cY (RR.row (RR.b0 hT.rr w3 h3) hri) hrj) w hw) ⟨_,rfl⟩)) rfl<|eT rfl<|gm rfl (fun hg=>aS (.r rfl))<|gm rfl (fun hg=>aS (.r rfl))<|gm rfl (fun hg=>cy jj N4 (fun _ hw=>(bL hw 0 rfl).some (by rw[ak];first |omega|(simp;done)|(simp;omega))) (.g hg rfl) (.g hg rfl) rfl (by omega))<|gm rfl (fun hg=>aC O4 (.g hg rfl) (fun w hw=>aA (off:=0) (cO hw 0 rfl (sg (n:=i) (by first |omega|(simp;omega)))) ⟨_,rfl⟩))<|gm rfl (fun hg=>aS (.r rfl))<|gm rfl (fun hg=>aS (.r rfl))<|gm rfl (fun hg=>aS (.r rfl))<|gm rfl (fun hg=>eN (LO.add (.g hg rfl) (.g hg rfl) (wi (by omega) (by omega))) (congrArg (cX .i64) (mA _ _).symm))<|gm rfl (fun hg=>cy jj N4 (fun _ hw=>(bL hw 0 rfl).some (by rw[ak];first |omega|(simp;done)|(simp;omega))) (.g hg rfl) (.g hg rfl) rfl (by omega))<|gm rfl (fun hg=>aC O4 (.g hg rfl) (fun w hw=>aA (off:=0) (cO hw 0 rfl (sg (n:=(n+j)) (by first |omega|(simp;omega)))) ⟨_,rfl⟩))<|gm rfl (fun hg=>LO.neB Tryz.underlying4 (.g hg rfl) (.g hg rfl))<|bl (e7 (.r rfl) rfl rfl (.r rfl)) rfl<|gy) (by kernel_rfl)<|aj<|ay rfl (fun h52=>?_) (fun h52=>?_))
    ·
     refine au (ag rfl<|ag rfl<|ah (cy jj N4 (fun _ hw=>(bL hw 0 rfl).some (by rw[ak];first |omega|(simp;done)|(simp;omega))) (.r rfl) (.r rfl) rfl (by omega)) rfl<|cu<|iV 0 (fun R=>[R,_]) (true) (vs:=[_]) N4 (.r rfl) (.r rfl) rfl (by omega) rfl rfl rfl rfl rfl (fun _=>rfl)<|aq<|au (ag rfl<|ag rfl<|ag rfl<|ah (eN (LO.add (.r rfl) (.r rfl) (wi (by omega) (by omega))) (congrArg (cX .i64) (mA _ _).symm)) rfl<|ah (cy jj N4 (fun _ hw=>(bL hw 0 rfl).some (by rw[ak];first |omega|(simp;done)|(simp;omega))) (.r rfl) (.r rfl) rfl (by omega)) rfl<|cu<|iV 0 (fun R=>[R,_]) (true) (vs:=[_]) N4 (.r rfl) (.r rfl) rfl (by rw[eB];omega) rfl rfl rfl rfl rfl (fun _=>rfl)<|aq<|aM (ax rfl<|aN ?_)))
     refine bB (aj<|aM (ag rfl<|da rfl rfl (by omega) (by omega) rfl<|ax rfl<|aN<|aZ fun a w ha hw=>⟨(j+1,((on3.set i true).set (n+j) true),true),⟨by dsimp only;omega,XJ.yes (by omega) (by omega) (hJ.Y3 (by omega) (by omega) h52.1) h52.2⟩,(by dsimp only;omega),ha.sub (.c4 rfl rfl rfl rfl (.c4 rfl rfl rfl rfl .nil)),hw⟩))
    ·
     refine aE (bB (aj<|aM (ag rfl<|da rfl rfl (by omega) (by omega) rfl<|ax rfl<|aN<|aZ fun a w ha hw=>⟨(j+1,on3,gr3),⟨by dsimp only;omega,XJ.no h52⟩,(by dsimp only;omega),ha.sub (.c4 rfl rfl rfl rfl (.c4 rfl rfl rfl rfl .nil)),hw⟩)))
   ·
    have hje:j=m:=by omega
    subst hje
    refine bU (aH (aH (cB (bB (aj<|aM (ag rfl<|da rfl rfl (by omega) (by omega) rfl<|ax rfl<|aN<|aZ fun a w ha hw=>⟨(i+1,on3,gr3),⟨by dsimp only;omega,XJ.next⟩,(by dsimp only;omega),ha.sub (.c4 rfl rfl rfl rfl (.cons rfl (.cons rfl (.cons rfl .nil)))),hw⟩))))))
  ·
   have hie:i=n:=by omega
   subst hie
   refine bU (aH (aH (cB (bB<|aZ fun a w ha hw=>⟨(on2,gr2),⟨hER.de,fun z=>by dsimp only at z;subst z;exact hER.fin hJ hf⟩,(YC hER h22),ha.sub (.c4 rfl rfl rfl rfl (.cons rfl (.cons rfl .nil))),hw⟩))))
 ·
  have hgf:gr=false:=fM.2 h22
  have hoe:=hfin hgf
  refine bU (aH (aH (cB (aj<|au (aB rfl<|cJ (C:=#[_,_,_]) Ef rfl fun b3=>aq<|av<|au (ax rfl<|aN ?_))))))
  refine aj<|aD<|bS (α:=Nat×(List Nat)×(Option Addr)×Nat×(List Nat)×(Option Addr)×Nat) 1 (fun gx=>[(14,.int .i64 (gx.1:Nat))]) [(1,_),(2,_),(8,_),(9,_),(13,_)] (fun gx=>[gq b3 (.cells #[.int .i64 0,.slice gx.2.2.1 gx.2.1.length gx.2.2.2.1,.slice gx.2.2.2.2.2.1 gx.2.2.2.2.1.length gx.2.2.2.2.2.2] 104),own 3 1 gx.2.2.1 gx.2.2.2.1 (gx.2.1.map nC),own 3 1 gx.2.2.2.2.2.1 gx.2.2.2.2.2.2 (gx.2.2.2.2.1.map nC)]) (fun gx=>gx.1≤n+m∧gx.2.1=(lf on n gx.1).f∧gx.2.2.2.2.1=(lf on n gx.1).t) (fun gx=>n+m-gx.1) (0,[],none,0,[],none,0) (by exact⟨aY _,by rw[zK],by rw[zK]⟩) (.c4 rfl rfl rfl rfl (.cons rfl (.cons rfl .nil))) (fun _ h=>(((h.fX 3 1).fX 3 1)).gY [2,0,1,3,4] rfl) ?_
  rintro ⟨k,f,pf,cf,t,pt,ct⟩ ⟨hk,hff,htt⟩
  show VC _ _ _ _ _ ([(14,.int .i64 (k:Nat))]++_) ([gq b3 (.cells #[.int .i64 0,.slice pf f.length cf,.slice pt t.length ct] 104),own 3 1 pf cf (f.map nC),own 3 1 pt ct (t.map nC)]++_) _ _
  dsimp only at hk hff htt
  have hel:=@K4 n k on
  rw[←hff, ←htt]at hel
  refine av<|au (ag rfl<|ag rfl<|ag rfl<|da rfl rfl (by omega) (by omega) rfl<|dK rfl<|aq<|ay rfl (fun h65=>?_) (fun h65=>?_))
  ·
   refine aE (aj<|av<|aD<|av<|au (ag rfl<|ag rfl<|ah (cy jj N4 (fun _ hw=>(bL hw 3 rfl).some (by rw[ak];first |omega|(simp;done)|(simp;omega))) (.r rfl) (.r rfl) rfl (by omega)) rfl<|ah (aC O4 (.r rfl) (fun w hw=>aA (off:=0) (cO hw 3 rfl (sg (n:=k) (by first |omega|(simp;omega)))) ⟨_,rfl⟩)) rfl<|ag rfl<|bh rfl (fun hg=>aS (.r rfl))<|bh rfl (fun hg=>aS (.r rfl))<|bh rfl (fun hg=>LO.lt (.g hg rfl) (.g hg rfl))<|ah (e7 (.r rfl) rfl rfl (.r rfl)) rfl<|aq ?_))
   refine ay rfl (fun h76=>?_) (fun h76=>?_)
   ·
    refine aM (bO (r:=1) uh rfl<|cL 0 iL rfl rfl ⟨_,rfl⟩ rfl<|ag rfl<|aB rfl<|eW (ps:=[(_,_)]) (vs:=[(_,_)]) (Z:=[_]) (C:=[_]) fk Z3 N3 ⟨(.r rfl),trivial⟩ rfl rfl rfl rfl ⟨_,[_],[_],rfl,rfl,rfl,rfl,rfl⟩ fun b7=>aB rfl<|eP (k) 2 0 (fun R=>[_,_,R,_,_,_]) fk fk I3 (.r rfl) (.r rfl) rfl rfl rfl rfl rfl rfl rfl (fun _=>rfl) rfl (by omega) fun p4 c4=>bO (r:=1) uh rfl<|cu<|cq 1 (vs:=[_]) (C':=[_,_,_]) (L':=[_,_,_,_,_,_]) qL rfl rfl rfl rfl rfl rfl rfl rfl<|aq<|au (ag rfl<|ag rfl<|ah (cy jj N4 (fun _ hw=>(bL hw 4 rfl).some (by rw[ak];first |omega|(simp;done)|(simp;omega))) (.r rfl) (.r rfl) rfl (by omega)) rfl<|ah (aC O4 (.r rfl) (fun w hw=>aA (off:=0) (cO hw 4 rfl (sg (n:=k) (by first |omega|(simp;omega)))) ⟨_,rfl⟩)) rfl<|ag rfl<|bh rfl (fun hg=>aS (.r rfl))<|bh rfl (fun hg=>aS (.r rfl))<|bh rfl (fun hg=>iw (.g hg rfl) (.g hg rfl))<|ah (e7 (.r rfl) rfl rfl (.r rfl)) rfl<|aq<|ay rfl (fun h91=>?_) (fun h91=>?_)))
    · (exfalso;(have z1:=h76.2;have z2:=h91.2;omega))
    ·
     refine aE (bB (aj<|aM (ag rfl<|da rfl rfl (by omega) (by omega) rfl<|ax rfl<|aN<|aZ fun a w ha hw=>⟨(k+1,f++[k],p4,c4,t,pt,ct),⟨by dsimp only;omega,by dsimp only;rw[(Ub h76.1 (by omega)).1,hff],by dsimp only;rw[(Ub h76.1 (by omega)).2,htt]⟩,(by dsimp only;omega),ha.sub (.c4 rfl rfl rfl rfl (.cons rfl (.cons rfl .nil))),hw.gY [1,2,3,4,5] rfl⟩)))
   ·
    refine aE (aj<|au (ag rfl<|ag rfl<|ah (cy jj N4 (fun _ hw=>(bL hw 3 rfl).some (by rw[ak];first |omega|(simp;done)|(simp;omega))) (.r rfl) (.r rfl) rfl (by omega)) rfl<|ah (aC O4 (.r rfl) (fun w hw=>aA (off:=0) (cO hw 3 rfl (sg (n:=k) (by first |omega|(simp;omega)))) ⟨_,rfl⟩)) rfl<|ag rfl<|bh rfl (fun hg=>aS (.r rfl))<|bh rfl (fun hg=>aS (.r rfl))<|bh rfl (fun hg=>iw (.g hg rfl) (.g hg rfl))<|ah (e7 (.r rfl) rfl rfl (.r rfl)) rfl<|aq<|ay rfl (fun h91=>?_) (fun h91=>?_)))
    ·
     refine aM (bO (r:=2) rf rfl<|cL 0 iL rfl rfl ⟨_,rfl⟩ rfl<|ag rfl<|ag rfl<|ah (eN (gz (.r rfl) (.r rfl) (wi (by omega) (by omega))) (congrArg (cX .i64) (show(k:Int)-n=((k-n:Nat):Int) by omega))) rfl<|aB rfl<|eW (ps:=[(_,_)]) (vs:=[(_,_)]) (Z:=[_]) (C:=[_]) fk Z3 N3 ⟨(.r rfl),trivial⟩ rfl rfl rfl rfl ⟨_,[_],[_],rfl,rfl,rfl,rfl,rfl⟩ fun b9=>aB rfl<|eP ((k-n)) 3 0 (fun R=>[_,_,_,R,_,_]) fk fk I3 (.r rfl) (.r rfl) rfl rfl rfl rfl rfl rfl rfl (fun _=>rfl) rfl (by omega) fun p6 c6=>bO (r:=2) rf rfl<|cu<|cq 1 (vs:=[_]) (C':=[_,_,_]) (L':=[_,_,_,_,_,_]) qL rfl rfl rfl rfl rfl rfl rfl rfl<|aN<|bB (aj<|aM (ag rfl<|da rfl rfl (by omega) (by omega) rfl<|ax rfl<|aN<|aZ fun a w ha hw=>⟨(k+1,f,pf,cf,t++[k-n],p6,c6),⟨by dsimp only;omega,by dsimp only;rw[(TH h91.1 (by omega)).1,hff],by dsimp only;rw[(TH h91.1 (by omega)).2,htt]⟩,(by dsimp only;omega),ha.sub (.c4 rfl rfl rfl rfl (.cons rfl (.cons rfl .nil))),hw.gY [1,2,3,4,5] rfl⟩)))
    ·
     refine aE (bB (aj<|aM (ag rfl<|da rfl rfl (by omega) (by omega) rfl<|ax rfl<|aN<|aZ fun a w ha hw=>⟨(k+1,f,pf,cf,t,pt,ct),⟨by dsimp only;omega,by dsimp only;rw[IC (TC h76 h91),hff],by dsimp only;rw[IC (TC h76 h91),htt]⟩,(by dsimp only;omega),ha.sub (.c4 rfl rfl rfl rfl (.cons rfl (.cons rfl .nil))),hw⟩)))
  ·
   have hke:k=n+m:=by omega
   subst hke
   rw[hoe,Kz]at hff htt
   refine bU (aH (aH (cB (aj<|au (bO (r:=1) uh rfl<|cL 0 iL rfl rfl ⟨_,rfl⟩ rfl<|ah (bE fk (.r rfl) rfl) rfl<|bO (r:=2) rf rfl<|cL 0 iL rfl rfl ⟨_,rfl⟩ rfl<|ah (bE fk (.r rfl) rfl) rfl<|ah (bK (xs:=[_,_]) (vs:=[_,_]) C95 ⟨(.r rfl),(.r rfl),trivial⟩ (fun w2 hw=>Ss f.length t.length w2)) rfl<|bO (r:=0) uj rfl<|cu<|cq 0 (vs:=[_]) (C':=[_,_,_]) (L':=[_,_,_,_,_]) N3 rfl rfl rfl rfl rfl rfl rfl rfl<|aq<|au (ah (aX (vs:=[_,_,_]) As (.r rfl) (aF 0 rfl ⟨_,rfl⟩) rfl) rfl<|cu<|cq 4 (vs:=[_,_,_]) (C':=[_,_,_]) (L':=[_,_,_,_,_]) rZ rfl rfl rfl rfl rfl rfl rfl rfl<|aq ?_))))))
   refine be (dh (vs:=[_]) rfl ⟨RV.agg (vs:=[_,_,_]) As rfl (aF 4 rfl ⟨_,rfl⟩) rfl,trivial⟩ (fun w hw=>?_))
   exact⟨⟨f,t,pf,cf,pt,ct⟩,⟨hff,htt⟩,rfl,dq [1,2] rfl rfl _ hw⟩
end Go.Proofs.YtgemekpofpoopaaGreat
