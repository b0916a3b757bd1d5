/-
  Pairs of maps, spreads, kinds.
  (and more)
-/
import Derived.Test.YtgemekpofpoopaaGreatKBOO04
open Go.Proofs.Tryz renaming prog→af,underlying92→nX,underlying184→gK,underlying185→ik,underlying72→nY,underlying4→jy,underlying144→vz,underlying142→vA,underlying147→qs,underlying3→dJ,underlying148→vB,underlying39→wK,underlying70→nZ,underlying85→iE,underlying81→l9,underlying95→oc,underlying73→wL,underlying76→jP,underlying83→iZ
open Go.SL.fU renaming mk→lA
open Classical renaming not_not→eK
open List renaming all_eq_true→cz,getElem?_eq_getElem→aw,mem_of_getElem?→al,range_succ→eZ,map_append→bG,filter_append→dI,length_filter_le→cE,mem_range→a8,mem_filter→bR,mem_map_of_mem→bw,mem_map→bN,length_map→ak,getElem?_eq_some_iff→an,getElem?_map→aI,ext_getElem?→cM,getElem?_modify→jE,getElem?_set→eQ,append_assoc→dk,map_map→dV,length_pos_of_mem→j5,map_set→iS,length_set→eB
open Nat renaming le_trans→dE,mod_lt→jW,zero_le→aY,not_lt_zero→cQ,le_of_ble_eq_true→bz
open Go.SL.VC renaming q→au,seq→av,block→aD,eg→bS,cond→ay,skip→aE,eX→aM,ret→be,exit→bU,iI→eC,perm→gw,res→iv
open Go.SL.VO renaming h→aB,a→ax,n→aq,l→ah,m→ag,t→dK,h0→cu,nil→aN,p→da,f→bO,gf→aK,c→cL,gt→bh
open Go.SL.HO renaming box→c8,bs→eW,lo→aW,alloc→cJ,st→cq,eS→cd,k8→eP
open Go.SL.LO renaming fT→aX,len→bE,call→bK,mv→aS,gt→gu,jZ→cD,bd→fA,ex→cU,sd→fS,min→ig,Rf→qq,iy→bM,ld→aC,fa→aP,mul→mw,sub→gz,jA→cy,nc→cV
open Go.SL.VE renaming aU→aj,mq→dA,dB→bA,s→dP,gO→bB,df→aZ,bZ→aH,jT→cB,res→dh
open Go.Ending renaming returned→bT
open Go.SL.cG renaming l→dw
open Go.Proofs.YtgemekpofpoopaaGreat.RO renaming jX→cY
open Go.SL.LL renaming l→bl
open Go.Proofs.YtgemekpofpoopaaGreat.LO renaming eqv→eN
open Go.Value renaming int→cX,slice→il
open Int renaming natCast_nonneg→fW
open Go.SL.LX renaming m→cT,l→aG,s→dC,nil→fj
open Go.SL.HX renaming s→az,h→ga,h0→hX,nil→fB
open Bool renaming and_eq_true→bD
open Option renaming ne_none_iff_exists'→mM,getD_some→gR
open List.Perm renaming swap→sY
open Go.SL.St renaming fz→iH

set_option linter.unusedSimpArgs false
set_option maxRecDepth 20000
set_option maxHeartbeats 8000000
namespace Go.Proofs.YtgemekpofpoopaaGreat
open Go.SL Go.Proofs Go.sM Go.Cell
set_option linter.unusedVariables false
theorem Re:ee af 180 35:=Tryz.underlying180
theorem WK:dr af 35 (.agg #[.int .i64 0,.int .i64 0,.int .i64 0,.int .i64 0,.int .i64 0,.slice none 0 0]):=by unfold dr;kernel_rfl
theorem RX:(af.info? 35).map (·.size)=some 6:=by kernel_rfl
theorem J5:yQ af 23 5:=⟨⟨_,Tryz.underlying23,rfl⟩,by kernel_rfl,by kernel_rfl⟩
theorem YA:dr af 92 (.agg #[.int .i64 0,.int .i64 0,.int .i64 0,.int .i64 0,.int .i64 0,.slice none 0 0,.slice none 0 0]):=by unfold dr;kernel_rfl
theorem B92:fU af 92 [(0,5),(5,1),(6,1)] [.int .i64 0,.int .i64 0,.int .i64 0,.int .i64 0,.int .i64 0,.slice none 0 0,.slice none 0 0]:=lA fun _=>by kernel_rfl
theorem L8:(af.info? 92).map (·.size)=some 7:=by kernel_rfl
theorem Pj:lh af 92 7:=⟨⟨_,nX,rfl⟩,by kernel_rfl⟩
theorem nI:rk af 184 [(0,1),(1,1),(2,1)] [.int .i64 0,.int .i64 0,.int .i64 0]:=rk.mk (z:=1) (n:=3) (fun _=>by kernel_rfl) rfl
theorem B7:rk af 185 [(0,3),(3,3),(6,3)] [.int .i64 0,.int .i64 0,.int .i64 0,.int .i64 0,.int .i64 0,.int .i64 0,.int .i64 0,.int .i64 0,.int .i64 0]:=rk.mk (z:=3) (n:=3) (fun _=>by kernel_rfl) rfl
theorem B8:lh af 184 3:=⟨⟨_,gK,rfl⟩,by kernel_rfl⟩
theorem _root_.Go.SL.LO.Sm {P:Program} {β:Bs} {env:Env} {L:List dg} {d:Option Nat} {ty:TypeId} {pos:String} {aft:Array Edge} {g:Option (Nat×Bool)} {x i:Operand} {T E n z:Nat} {C:Array Value} {j:Nat} {k:IntKind} {e:Int} {vs:List Value} (hT:P.underlying T=some (.array n E)) (hE:lh P E z) (hx:OV env x (.agg C)) (hi:OV env i (.int k e)) (he:e=(j:Int)) (hj:j<n) (hv:(C.extract (j*z) (j*z+z)).toList=vs):
  LO P β env L ⟨d,.index T x i,ty,pos,aft,g⟩ (.agg vs.toArray):=
 .fy fun a w h hw=>⟨w,by
  subst he
  have he':C.extract (j*z) (j*z+z)=vs.toArray:=by rw[←hv]
  simp [execOp,h x (by simp [Op.operands]) _ hx,h i (by simp [Op.operands]) _ hi,Instr.index,asIntOf,run_underlying hT,iz hE.2,hj,part,tw hE,he'],hw⟩
def qj (g:eo):List Int:=[g.x,g.y,g.size,g.wide,g.high]
def om (g1:eo) (v1:List Span) (g2:eo) (v2:List Span) (lv reach:Int):Int:=
 if eY 1073741824 ⟨g1,v1⟩≠0 then eY 1073741824 ⟨g1,v1⟩ else if eY 1073741824 ⟨g2,v2⟩≠0 then eY 1073741824 ⟨g2,v2⟩ else if ¬qj g1=qj g2 then 11 else if lv<1∨1073741824<lv∨reach<0∨8<reach then 3 else 0
def Fy (g1:eo) (v1:List Span) (g2:eo) (v2:List Span) (k:Nat):Int:=if k=0 then eY 1073741824 ⟨g1,v1⟩ else eY 1073741824 ⟨g2,v2⟩
section
variable {g1 g2:eo} {v1 v2:List Span} {lv reach:Int}
theorem Za (h:eY 1073741824 ⟨g1,v1⟩≠0):eY 1073741824 ⟨g1,v1⟩=om g1 v1 g2 v2 lv reach:=(if_pos h).symm
theorem Yh (h:¬eY 1073741824 ⟨g1,v1⟩≠0) (k:eY 1073741824 ⟨g2,v2⟩≠0):eY 1073741824 ⟨g2,v2⟩=om g1 v1 g2 v2 lv reach:=by unfold om;rw[if_neg h,if_pos k]
theorem Yk (h:¬eY 1073741824 ⟨g1,v1⟩≠0) (k:¬eY 1073741824 ⟨g2,v2⟩≠0) (j:¬[g1.x,g1.y,g1.size,g1.wide,g1.high]=[g2.x,g2.y,g2.size,g2.wide,g2.high]):11=om g1 v1 g2 v2 lv reach:=by unfold om qj;rw[if_neg h,if_neg k,if_pos j]
theorem YZ (h:¬eY 1073741824 ⟨g1,v1⟩≠0) (k:¬eY 1073741824 ⟨g2,v2⟩≠0) (j:¬¬[g1.x,g1.y,g1.size,g1.wide,g1.high]=[g2.x,g2.y,g2.size,g2.wide,g2.high]) (i:lv<1∨1073741824<lv∨reach<0∨8<reach):3=om g1 v1 g2 v2 lv reach:=by unfold om qj;rw[if_neg h,if_neg k,if_neg j,if_pos i]
theorem Zd (h:¬eY 1073741824 ⟨g1,v1⟩≠0) (k:¬eY 1073741824 ⟨g2,v2⟩≠0) (j:¬¬[g1.x,g1.y,g1.size,g1.wide,g1.high]=[g2.x,g2.y,g2.size,g2.wide,g2.high]) (i:¬(lv<1∨1073741824<lv∨reach<0∨8<reach)):0=om g1 v1 g2 v2 lv reach:=by unfold om qj;rw[if_neg h,if_neg k,if_neg j,if_neg i]
theorem My (h:om g1 v1 g2 v2 lv reach=0):eY 1073741824 ⟨g1,v1⟩=0∧eY 1073741824 ⟨g2,v2⟩=0∧g1=g2∧1≤lv∧lv≤1073741824∧0≤reach∧reach≤8:=by
 unfold om at h
 split at h
 ·rename_i q;exact absurd h q
 ·rename_i q
  split at h
  ·rename_i r;exact absurd h r
  ·rename_i r
   split at h
   ·omega
   ·rename_i s
    split at h
    ·omega
    ·refine⟨eK.1 q,eK.1 r,?_,by omega,by omega,by omega,by omega⟩
     have e:=eK.1 s
     cases g1;cases g2
     simp only[qj,List.cons.injEq]at e
     obtain⟨rfl,rfl,rfl,rfl,rfl,_⟩:=e
     rfl
end
abbrev R6 (g:eo) (y:oV):Value:=.agg #[.int .i64 g.x,.int .i64 g.y,.int .i64 g.size,.int .i64 g.wide,.int .i64 g.high,.slice y.p y.l.length y.c,.slice y.po (gW g*gH g) y.co]
theorem min2 (a:Nat):(a=0∧min (a:Int) 2=0)∨(a=1∧min (a:Int) 2=1)∨(2≤a∧min (a:Int) 2=2):=by omega
structure vO (w:World) (y:oV) (of:List Int):Prop where
 ar:RO 8 di.cells w y.p y.l
 kr:∀a,a∈y.l→RR 1 nC w a.kp a.kr
 of:RO 1 iC w y.po of
theorem vO.b0 {w0:World} {y:oV} {of:List Int} {L:List dg} (h:vO w0 y of):∀w,St (bs w0) L w→vO w y of:=fun w hw=>⟨h.ar.b0 w hw,fun a ha=>(h.kr a ha).b0 w hw,h.of.b0 w hw⟩
def rS (W H:Nat) (of:List Int) (j x y:Int) (p:Nat):Bool:=
 decide (((p%W:Nat):Int)+x<0∨(W:Int)≤((p%W:Nat):Int)+x∨((p / W:Nat):Int)+y<0∨(H:Int)≤((p / W:Nat):Int)+y)||decide (of.getD ((((p / W:Nat):Int)+y)*W+(((p%W:Nat):Int)+x)).toNat (-1)=j)
def oC (W H:Nat) (ks:List (List Nat)) (of:List Int) (j x y:Int):Bool:=ks.all fun k=>k.all (rS W H of j x y)
theorem sP {α:Type} {l:List α} {f:α→Bool} {k:Nat} {r:α} (hz:∀i a,i<k→l[i]? =some a→f a=true) (hr:l[k]? =some r) (hf:f r=true):∀i a,i<k+1→l[i]? =some a→f a=true:=fun i a hi ha=>by
 rcases Nat.lt_succ_iff_lt_or_eq.1 hi with q|rfl
 ·exact hz i a q ha
 ·rw[hr]at ha;cases ha;exact hf
theorem BX {α:Type} {l:List α} {f:α→Bool} {k:Nat} (hz:∀i a,i<k→l[i]? =some a→f a=true) (hk:l.length≤k):l.all f=true:=by
 refine cz.2 fun a ha=>?_
 obtain⟨i,hi,rfl⟩:=List.mem_iff_getElem.1 ha
 exact hz i _ (by omega) (aw hi)
theorem zk {α:Type} {l:List α} {f:α→Bool} {k:Nat} {r:α} (hr:l[k]? =some r) (hf:¬f r=true):l.all f=false:=Bool.eq_false_iff.2 fun h=>hf (cz.1 h r (al hr))
theorem target {g:eo} (h:dH g) {x y:Int} (hx:¬(x<0∨g.wide≤x∨y<0∨g.high≤y)):∃q:Nat,y*g.wide+x=q∧q<gW g*gH g∧(y*(gW g:Int)+x).toNat=q:=by
 obtain⟨e1,e2,w1,w2,h1,h2⟩:=An h
 obtain⟨u,rfl⟩:∃u:Nat,x=u:=⟨x.toNat,by omega⟩
 obtain⟨v,rfl⟩:∃v:Nat,y=v:=⟨y.toNat,by omega⟩
 have hu:u<gW g:=by omega
 have hv:v<gH g:=by omega
 refine⟨v*gW g+u,by rw[←e1];push_cast;rfl,?_,?_⟩
 ·have:(v+1)*gW g≤gH g*gW g:=Nat.mul_le_mul_right _ hv
  rw[Nat.add_mul,Nat.one_mul]at this
  rw[Nat.mul_comm (gW g)]
  omega
 ·have:((v:Int)*(gW g:Int)+(u:Int))=((v*gW g+u:Nat):Int):=by push_cast;rfl
  rw[this];rfl
structure Mv where
 x:Int
 y:Int
def Mv.cells (m:Mv):List Value:=[.int .i64 m.x,.int .i64 m.y]
def Mv.neg (m:Mv):Mv:=⟨-m.x, -m.y⟩
def Fu (r n:Nat):Mv:=⟨((n%(2*r+1):Nat):Int)-r,((n / (2*r+1):Nat):Int)-r⟩
def FC (W H:Nat) (ka kb:List (List Nat)) (ofa ofb:List Int) (i j:Nat) (m:Mv):Bool:=oC W H ka ofb j m.x m.y&&oC W H kb ofa i m.neg.x m.neg.y
def iU (W H:Nat) (ka kb:List (List Nat)) (ofa ofb:List Int) (i j r n:Nat):List Mv:=((List.range n).map (Fu r)).filter (FC W H ka kb ofa ofb i j)
def rp (W H:Nat) (ka kb:List (List Nat)) (ofa ofb:List Int) (i j r:Nat):List Mv:=iU W H ka kb ofa ofb i j r ((2*r+1)*(2*r+1))
section
variable {W H i j r n:Nat} {ka kb:List (List Nat)} {ofa ofb:List Int}
theorem AZ (h:FC W H ka kb ofa ofb i j (Fu r n)=true):iU W H ka kb ofa ofb i j r (n+1)=iU W H ka kb ofa ofb i j r n++[Fu r n]:=by unfold iU;rw[eZ,bG,dI];simp [h]
theorem A0 (h:¬FC W H ka kb ofa ofb i j (Fu r n)=true):iU W H ka kb ofa ofb i j r (n+1)=iU W H ka kb ofa ofb i j r n:=by unfold iU;rw[eZ,bG,dI];simp [h]
theorem sC:(iU W H ka kb ofa ofb i j r n).length≤n:=by unfold iU;refine dE (cE _ _) ?_;simp
end
theorem Vf (n r:Nat):((n:Int)).tmod (2*(r:Int)+1)=((n%(2*r+1):Nat):Int):=by
 rw[show(2*(r:Int)+1)=((2*r+1:Nat):Int) by push_cast;rfl];rfl
theorem Gg (n r:Nat):((n:Int)).tdiv (2*(r:Int)+1)=((n / (2*r+1):Nat):Int):=by
 rw[show(2*(r:Int)+1)=((2*r+1:Nat):Int) by push_cast;rfl];rfl
theorem YO {n r:Nat} (h:n<(2*r+1)*(2*r+1)):n%(2*r+1)≤2*r∧n / (2*r+1)≤2*r:=⟨by have:=jW n (show 0<2*r+1 by omega);omega,by have:=Nat.div_lt_of_lt_mul h;omega⟩
theorem Dz (g1:eo) (v1:List Span) (p1:Option Addr) (c1:Nat) (g2:eo) (v2:List Span) (p2:Option Addr) (c2:Nat) (lv reach:Int) (w:World) (hv1:fL w p1 v1) (hv2:fL w p2 v2):
 Calls af 56 #[im g1 p1 v1.length c1,im g2 p2 v2.length c2,.int .i64 lv,.int .i64 reach] w fun e w'=>e= .returned (.int .i64 (om g1 v1 g2 v2 lv reach))∧St (bs w) [] w':=by
 refine enter (vs:=[_,_,_,_]) (env:=[(0,_),(1,_),(2,_),(3,_)]) Tryz.func56 rfl rfl rfl rfl ?_
 refine au (aB rfl<|c8 (C:=#[_,_,_,_,_,_]) rfl rfl fun b1=>aB rfl<|c8 (C:=#[_,_,_,_,_,_]) rfl rfl fun b2=>ax rfl<|aq<|av<|au (ah (aX (vs:=[_,_,_,_,_,_]) oy (.r rfl) (aF 1 rfl ⟨_,rfl⟩) rfl) rfl<|ah (aX (vs:=[_,_,_,_,_,_]) oy (.r rfl) (aF 0 rfl ⟨_,rfl⟩) rfl) rfl<|aB rfl<|eW (ps:=[(_,_),(_,_)]) (vs:=[(_,_),(_,_)]) (Z:=[_,_,_,_,_,_,_,_,_,_,_,_]) (C:=[_,_,_,_,_,_,_,_,_,_,_,_]) Re WK RX ⟨(.r rfl),(.r rfl),trivial⟩ rfl rfl rfl rfl ⟨_,[_,_,_,_,_,_],[_,_,_,_,_,_,_,_,_,_,_,_],rfl,rfl,rfl,rfl,⟨_,[_,_,_,_,_,_],[_,_,_,_,_,_,_,_,_,_,_,_],rfl,rfl,rfl,rfl,rfl⟩⟩ fun b3=>aB rfl<|aW (bE Re (.r rfl) rfl)<|ag rfl<|aq ?_))
 refine aD<|bS (α:=Nat) 0 (fun gx=>[(16,.int .i64 (gx:Nat))]) [(2,_),(3,_),(4,_),(5,_),(14,_),(15,_)] (fun gx=>[]) (fun gx=>gx≤2∧∀k,k<gx→Fy g1 v1 g2 v2 k=0) (fun gx=>2-gx) 0 (by exact⟨aY _,fun k hk=>absurd hk (cQ _)⟩) (.c4 rfl rfl rfl rfl (.cons rfl (.cons rfl (.cons rfl .nil)))) (fun _ h=>h) ?_
 rintro i ⟨hi,hz⟩
 refine au (dK rfl<|aq<|av<|ay rfl (fun h17=>?_) (fun h17=>?_))
 ·
  refine aE (aj<|av<|aD<|av ?_)
  rcases(by omega:i=0∨i=1) with rfl|rfl
  ·
   refine aM (ah (LO.ix (j:=0) Re RX (.r rfl) (.r rfl) (by decide)) rfl<|ah (aX (vs:=[_,_,_,_,_,_]) oy (.r rfl) (aF 0 rfl ⟨_,rfl⟩) rfl) rfl<|aB rfl<|cJ (C:=#[_,_,_,_,_,_]) WK rfl fun b4=>cu<|cq 0 (vs:=[_,_,_,_,_,_]) (C':=[_,_,_,_,_,_]) (L':=[_,_,_,_]) RX rfl rfl rfl rfl rfl rfl rfl rfl<|aq<|au (ah (aX (vs:=[_,_,_,_,_,_]) oy (.r rfl) (aF 0 rfl ⟨_,rfl⟩) rfl) rfl<|ah (bK (xs:=[_]) (vs:=[_]) V6 ⟨(.r rfl),trivial⟩ (fun w hw=>kA ⟨g1,v1⟩ p1 c1 w (hv1.b0 w hw))) rfl<|ax rfl<|aq<|au (ag rfl<|VO.u rfl<|aN ?_)))
   refine aj<|ay rfl (fun h23=>?_) (fun h23=>?_)
   ·
    refine au (ag rfl<|ax rfl<|aq<|be (dA (bA (bA (dA (bA (dP rfl rfl (fun w hw=>?_))))))))
    refine⟨?_,hw.nil⟩
    refine congrArg (fun z=>bT (.int .i64 z)) ?_
    first |exact Za h23|exact Yh (by simpa [Fy]using hz1) h23|exact Yk (fun z=>z hz1) (fun z=>z hz2) h26|exact YZ (lv:=lv) (reach:=reach) (fun z=>z hz1) (fun z=>z hz2) h26 (by omega)|exact Zd (lv:=lv) (reach:=reach) (fun z=>z hz1) (fun z=>z hz2) h26 (by omega)
   ·
    refine aE (bB (aj<|aM (da rfl rfl (by omega) (by omega) rfl<|ag rfl<|aN<|aZ fun a w ha hw=>⟨_+1,⟨by omega,tf hz (by first |exact eK.1 h23)⟩,(by omega),ha.sub (.c4 rfl rfl rfl rfl (.cons rfl (.cons rfl (.cons rfl .nil)))),hw.gY [1,2,3] rfl⟩)))
  ·
   have hz1:=hz 0 (by omega)
   refine aM (ah (LO.ix (j:=1) Re RX (.r rfl) (.r rfl) (by decide)) rfl<|ah (aX (vs:=[_,_,_,_,_,_]) oy (.r rfl) (aF 0 rfl ⟨_,rfl⟩) rfl) rfl<|aB rfl<|cJ (C:=#[_,_,_,_,_,_]) WK rfl fun b6=>cu<|cq 0 (vs:=[_,_,_,_,_,_]) (C':=[_,_,_,_,_,_]) (L':=[_,_,_,_]) RX rfl rfl rfl rfl rfl rfl rfl rfl<|aq<|au (ah (aX (vs:=[_,_,_,_,_,_]) oy (.r rfl) (aF 0 rfl ⟨_,rfl⟩) rfl) rfl<|ah (bK (xs:=[_]) (vs:=[_]) V6 ⟨(.r rfl),trivial⟩ (fun w hw=>kA ⟨g2,v2⟩ p2 c2 w (hv2.b0 w hw))) rfl<|ax rfl<|aq<|au (ag rfl<|VO.u rfl<|aN ?_)))
   refine aj<|ay rfl (fun h23=>?_) (fun h23=>?_)
   ·
    refine au (ag rfl<|ax rfl<|aq<|be (dA (bA (bA (dA (bA (dP rfl rfl (fun w hw=>?_))))))))
    refine⟨?_,hw.nil⟩
    refine congrArg (fun z=>bT (.int .i64 z)) ?_
    first |exact Za h23|exact Yh (by simpa [Fy]using hz1) h23|exact Yk (fun z=>z hz1) (fun z=>z hz2) h26|exact YZ (lv:=lv) (reach:=reach) (fun z=>z hz1) (fun z=>z hz2) h26 (by omega)|exact Zd (lv:=lv) (reach:=reach) (fun z=>z hz1) (fun z=>z hz2) h26 (by omega)
   ·
    refine aE (bB (aj<|aM (da rfl rfl (by omega) (by omega) rfl<|ag rfl<|aN<|aZ fun a w ha hw=>⟨_+1,⟨by omega,tf hz (by first |exact eK.1 h23)⟩,(by omega),ha.sub (.c4 rfl rfl rfl rfl (.cons rfl (.cons rfl (.cons rfl .nil)))),hw.gY [1,2,3] rfl⟩)))
 ·
  have hz1:=hz 0 (by omega)
  have hz2:=hz 1 (by omega)
  unfold Fy at hz1 hz2
  simp only[if_true,if_false]at hz1 hz2
  refine bU (aH (aH (cB (aj<|av<|aD<|au (bO (r:=0) lO rfl<|ah (aX (vs:=[_,_,_,_,_]) qw (.r rfl) (aF 2 rfl ⟨_,rfl⟩) rfl) rfl<|bO (r:=0) lO rfl<|ah (aX (vs:=[_,_,_,_,_]) qw (.r rfl) (aF 1 rfl ⟨_,rfl⟩) rfl) rfl<|ah (LO.Qr («as» :=[_,_,_,_,_]) (bs:=[_,_,_,_,_]) J5 (.r rfl) (.r rfl) rfl rfl) rfl<|ax rfl<|aq<|ay rfl (fun h26=>?_) (fun h26=>?_))))))
  ·
   refine au (ax rfl<|aq<|be (dA (bA (dP rfl rfl (fun w hw=>?_)))))
   refine⟨?_,hw.nil⟩
   refine congrArg (fun z=>bT (.int .i64 z)) ?_
   first |exact Za h23|exact Yh (by simpa [Fy]using hz1) h23|exact Yk (fun z=>z hz1) (fun z=>z hz2) h26|exact YZ (lv:=lv) (reach:=reach) (fun z=>z hz1) (fun z=>z hz2) h26 (by omega)|exact Zd (lv:=lv) (reach:=reach) (fun z=>z hz1) (fun z=>z hz2) h26 (by omega)
  ·
   refine au (ag rfl<|dK rfl<|ag rfl<|aK rfl (fun hg=>aS (.r rfl))<|aK rfl (fun hg=>gu (.g hg rfl) (.r rfl))<|ah (cD (.r rfl) (.r rfl) rfl rfl) rfl<|ag rfl<|aK rfl (fun hg=>aS (.r rfl))<|aK rfl (fun hg=>LO.lt (.g hg rfl) (.r rfl))<|ah (cD (.r rfl) (.r rfl) rfl rfl) rfl<|ag rfl<|aK rfl (fun hg=>aS (.r rfl))<|aK rfl (fun hg=>gu (.g hg rfl) (.r rfl))<|ah (cD (.r rfl) (.r rfl) rfl rfl) rfl<|ax rfl<|aq<|ay rfl (fun h32=>?_) (fun h32=>?_))
   ·
    refine au (ax rfl<|aq<|be (dA (bA (dP rfl rfl (fun w hw=>?_)))))
    refine⟨?_,hw.nil⟩
    refine congrArg (fun z=>bT (.int .i64 z)) ?_
    first |exact Za h23|exact Yh (by simpa [Fy]using hz1) h23|exact Yk (fun z=>z hz1) (fun z=>z hz2) h26|exact YZ (lv:=lv) (reach:=reach) (fun z=>z hz1) (fun z=>z hz2) h26 (by omega)|exact Zd (lv:=lv) (reach:=reach) (fun z=>z hz1) (fun z=>z hz2) h26 (by omega)
   ·
    refine aE (bB (aj<|au (ax rfl<|aq<|be (dP rfl rfl (fun w hw=>?_)))))
    refine⟨?_,hw.nil⟩
    refine congrArg (fun z=>bT (.int .i64 z)) ?_
    first |exact Za h23|exact Yh (by simpa [Fy]using hz1) h23|exact Yk (fun z=>z hz1) (fun z=>z hz2) h26|exact YZ (lv:=lv) (reach:=reach) (fun z=>z hz1) (fun z=>z hz2) h26 (by omega)|exact Zd (lv:=lv) (reach:=reach) (fun z=>z hz1) (fun z=>z hz2) h26 (by omega)
theorem nJ (g:eo) (vs:List Span) (pv:Option Addr) (cv:Nat) (lv:Int) (w:World) (hg:dH g) (hlen:(vs.length:Int)=g.wide*g.high) (hok:∀j,j<vs.length→iN 1073741824 (vs.getD j ⟨0,0⟩)) (hv:fL w pv vs):
 Calls af 31 #[im g pv vs.length cv,.int .i64 lv] w fun e w'=>∃y:oV,AR (gW g) (gH g) vs lv y∧e= .returned (R6 g y)∧St (bs w) (y.R (mH (gW g) (gH g) (et vs lv))) w':=by
 refine enter (vs:=[_,_]) (env:=[(0,_),(1,_)]) Tryz.func31 rfl rfl rfl rfl ?_
 refine au (aB rfl<|c8 (C:=#[_,_,_,_,_,_]) rfl rfl fun b1=>aB rfl<|cJ (C:=#[_,_,_,_,_,_,_]) YA rfl fun b2=>aq<|au (ah (aX (vs:=[_,_,_,_,_,_]) oy (.r rfl) (aF 1 rfl ⟨_,rfl⟩) rfl) rfl<|ag rfl<|ah (fA (ps:=[(_,_),(_,_)]) (vs:=[(_,_),(_,_)]) (C:=[_,_,_,_,_,_,_]) Vm ⟨(.r rfl),(.r rfl),trivial⟩ rfl ⟨_,[_,_,_,_,_,_],[_,_,_,_,_,_,_],rfl,rfl,rfl,rfl,⟨_,[_],[_,_,_,_,_,_,_],rfl,rfl,rfl,rfl,rfl⟩⟩) rfl<|aB rfl<|cd (xs:=[_]) (vs:=[_]) C48 ⟨(.r rfl),trivial⟩ (fun w hw=>B5 g vs pv cv lv w hg hlen hok (hv.b0 w hw)) fun y hy=>aB rfl<|aW (aS (.r rfl))<|aB rfl<|aW (cU (.r rfl) rfl)<|aB rfl<|aW (cU (.r rfl) rfl)<|aB rfl<|aW (LO.as (.r rfl))<|aB rfl<|aW (LO.as (.r rfl))<|aq<|av ?_))
 refine aM (bO (r:=0) lO rfl<|ah (aX (vs:=[_,_,_,_,_]) qw (.r rfl) (aF 9 rfl ⟨_,rfl⟩) rfl) rfl<|ag rfl<|ag rfl<|ah (fA (ps:=[(_,_),(_,_),(_,_)]) (vs:=[(_,_),(_,_),(_,_)]) (C:=[_,_,_,_,_,_,_]) B92 ⟨(.r rfl),(.r rfl),(.r rfl),trivial⟩ rfl ⟨_,[_,_,_,_,_],[_,_,_,_,_,_,_],rfl,rfl,rfl,rfl,⟨_,[_],[_,_,_,_,_,_,_],rfl,rfl,rfl,rfl,⟨_,[_],[_,_,_,_,_,_,_],rfl,rfl,rfl,rfl,rfl⟩⟩⟩) rfl<|cu<|cq 8 (vs:=[_,_,_,_,_,_,_]) (C':=[_,_,_,_,_,_,_]) (L':=[_,_,_,_,_,_,_,_,_,_]) L8 rfl rfl rfl rfl rfl rfl rfl rfl<|aq<|be (dh (vs:=[_]) rfl ⟨RV.agg (vs:=[_,_,_,_,_,_,_]) Pj rfl (aF 8 rfl ⟨_,rfl⟩) rfl,trivial⟩ (fun w hw=>?_)))
 exact⟨y,hy,rfl,dq [0,1,2,3,4,5,6,7] rfl rfl _ hw⟩
theorem Wo (a b:Nat) (w:World) (ha:a<1000000) (hb:b<1000000) (hab:0<a+b):
 Calls af 66 #[.int .i64 (a:Int),.int .i64 (b:Int)] w fun e w'=>e= .returned (.int .i64 (iR a b))∧St (bs w) [] w':=by
 refine enter (vs:=[_,_]) (env:=[(0,_),(1,_)]) Tryz.func66 rfl rfl rfl rfl ?_
 refine au (ax rfl<|aq<|av ?_)
 rcases min2 a with⟨ea,ma⟩|⟨ea,ma⟩|⟨ea,ma⟩<;>rcases min2 b with⟨eb,mb⟩|⟨eb,mb⟩|⟨eb,mb⟩
 ·
  subst ea
  subst eb
  refine aM (ah (fS (ps:=[(_,_),(_,_),(_,_)]) (vs:=[(_,_),(_,_),(_,_)]) (C:=[_,_,_]) nI rfl ⟨(.r rfl),(.r rfl),(.r rfl),trivial⟩ rfl ⟨_,[_],[_,_,_],rfl,rfl,rfl,rfl,⟨_,[_],[_,_,_],rfl,rfl,rfl,rfl,⟨_,[_],[_,_,_],rfl,rfl,rfl,rfl,rfl⟩⟩⟩) rfl<|ah (fS (ps:=[(_,_),(_,_),(_,_)]) (vs:=[(_,_),(_,_),(_,_)]) (C:=[_,_,_]) nI rfl ⟨(.r rfl),(.r rfl),(.r rfl),trivial⟩ rfl ⟨_,[_],[_,_,_],rfl,rfl,rfl,rfl,⟨_,[_],[_,_,_],rfl,rfl,rfl,rfl,⟨_,[_],[_,_,_],rfl,rfl,rfl,rfl,rfl⟩⟩⟩) rfl<|ah (fS (ps:=[(_,_),(_,_),(_,_)]) (vs:=[(_,_),(_,_),(_,_)]) (C:=[_,_,_]) nI rfl ⟨(.r rfl),(.r rfl),(.r rfl),trivial⟩ rfl ⟨_,[_],[_,_,_],rfl,rfl,rfl,rfl,⟨_,[_],[_,_,_],rfl,rfl,rfl,rfl,⟨_,[_],[_,_,_],rfl,rfl,rfl,rfl,rfl⟩⟩⟩) rfl<|ah (fS (ps:=[(_,_),(_,_),(_,_)]) (vs:=[(_,_),(_,_),(_,_)]) (C:=[_,_,_,_,_,_,_,_,_]) B7 rfl ⟨(.r rfl),(.r rfl),(.r rfl),trivial⟩ rfl ⟨_,[_,_,_],[_,_,_,_,_,_,_,_,_],rfl,rfl,rfl,rfl,⟨_,[_,_,_],[_,_,_,_,_,_,_,_,_],rfl,rfl,rfl,rfl,⟨_,[_,_,_],[_,_,_,_,_,_,_,_,_],rfl,rfl,rfl,rfl,rfl⟩⟩⟩) rfl<|ag rfl<|ah (ig (.r rfl) (.r rfl)) rfl<|ah (LO.Sm (j:=0) (vs:=[_,_,_]) ik B8 (.r rfl) (.r rfl) ma (by decide) rfl) rfl<|ag rfl<|ah (ig (.r rfl) (.r rfl)) rfl<|ah (qq (j:=0) gK O3 (.r rfl) (.r rfl) mb (by decide) rfl) rfl<|ax rfl<|aq<|be (dP rfl rfl (fun w hw=>?_)))
  refine⟨?_,hw.nil⟩
  refine congrArg (fun z=>bT (.int .i64 z)) ?_
  unfold iR
  first |(exfalso;omega)|(simp [ea,eb];done)|(rw[if_neg (by omega),if_neg (by omega)];first |rw[if_pos (by omega),if_pos (by omega)]|rw[if_pos (by omega),if_neg (by omega)]|rw[if_neg (by omega),if_pos (by omega)]|rw[if_neg (by omega),if_neg (by omega)])|(rw[if_pos (by omega)])|(rw[if_neg (by omega),if_pos (by omega)])
 ·
  refine aM (ah (fS (ps:=[(_,_),(_,_),(_,_)]) (vs:=[(_,_),(_,_),(_,_)]) (C:=[_,_,_]) nI rfl ⟨(.r rfl),(.r rfl),(.r rfl),trivial⟩ rfl ⟨_,[_],[_,_,_],rfl,rfl,rfl,rfl,⟨_,[_],[_,_,_],rfl,rfl,rfl,rfl,⟨_,[_],[_,_,_],rfl,rfl,rfl,rfl,rfl⟩⟩⟩) rfl<|ah (fS (ps:=[(_,_),(_,_),(_,_)]) (vs:=[(_,_),(_,_),(_,_)]) (C:=[_,_,_]) nI rfl ⟨(.r rfl),(.r rfl),(.r rfl),trivial⟩ rfl ⟨_,[_],[_,_,_],rfl,rfl,rfl,rfl,⟨_,[_],[_,_,_],rfl,rfl,rfl,rfl,⟨_,[_],[_,_,_],rfl,rfl,rfl,rfl,rfl⟩⟩⟩) rfl<|ah (fS (ps:=[(_,_),(_,_),(_,_)]) (vs:=[(_,_),(_,_),(_,_)]) (C:=[_,_,_]) nI rfl ⟨(.r rfl),(.r rfl),(.r rfl),trivial⟩ rfl ⟨_,[_],[_,_,_],rfl,rfl,rfl,rfl,⟨_,[_],[_,_,_],rfl,rfl,rfl,rfl,⟨_,[_],[_,_,_],rfl,rfl,rfl,rfl,rfl⟩⟩⟩) rfl<|ah (fS (ps:=[(_,_),(_,_),(_,_)]) (vs:=[(_,_),(_,_),(_,_)]) (C:=[_,_,_,_,_,_,_,_,_]) B7 rfl ⟨(.r rfl),(.r rfl),(.r rfl),trivial⟩ rfl ⟨_,[_,_,_],[_,_,_,_,_,_,_,_,_],rfl,rfl,rfl,rfl,⟨_,[_,_,_],[_,_,_,_,_,_,_,_,_],rfl,rfl,rfl,rfl,⟨_,[_,_,_],[_,_,_,_,_,_,_,_,_],rfl,rfl,rfl,rfl,rfl⟩⟩⟩) rfl<|ag rfl<|ah (ig (.r rfl) (.r rfl)) rfl<|ah (LO.Sm (j:=0) (vs:=[_,_,_]) ik B8 (.r rfl) (.r rfl) ma (by decide) rfl) rfl<|ag rfl<|ah (ig (.r rfl) (.r rfl)) rfl<|ah (qq (j:=1) gK O3 (.r rfl) (.r rfl) mb (by decide) rfl) rfl<|ax rfl<|aq<|be (dP rfl rfl (fun w hw=>?_)))
  refine⟨?_,hw.nil⟩
  refine congrArg (fun z=>bT (.int .i64 z)) ?_
  unfold iR
  first |(exfalso;omega)|(simp [ea,eb];done)|(rw[if_neg (by omega),if_neg (by omega)];first |rw[if_pos (by omega),if_pos (by omega)]|rw[if_pos (by omega),if_neg (by omega)]|rw[if_neg (by omega),if_pos (by omega)]|rw[if_neg (by omega),if_neg (by omega)])|(rw[if_pos (by omega)])|(rw[if_neg (by omega),if_pos (by omega)])
 ·
  refine aM (ah (fS (ps:=[(_,_),(_,_),(_,_)]) (vs:=[(_,_),(_,_),(_,_)]) (C:=[_,_,_]) nI rfl ⟨(.r rfl),(.r rfl),(.r rfl),trivial⟩ rfl ⟨_,[_],[_,_,_],rfl,rfl,rfl,rfl,⟨_,[_],[_,_,_],rfl,rfl,rfl,rfl,⟨_,[_],[_,_,_],rfl,rfl,rfl,rfl,rfl⟩⟩⟩) rfl<|ah (fS (ps:=[(_,_),(_,_),(_,_)]) (vs:=[(_,_),(_,_),(_,_)]) (C:=[_,_,_]) nI rfl ⟨(.r rfl),(.r rfl),(.r rfl),trivial⟩ rfl ⟨_,[_],[_,_,_],rfl,rfl,rfl,rfl,⟨_,[_],[_,_,_],rfl,rfl,rfl,rfl,⟨_,[_],[_,_,_],rfl,rfl,rfl,rfl,rfl⟩⟩⟩) rfl<|ah (fS (ps:=[(_,_),(_,_),(_,_)]) (vs:=[(_,_),(_,_),(_,_)]) (C:=[_,_,_]) nI rfl ⟨(.r rfl),(.r rfl),(.r rfl),trivial⟩ rfl ⟨_,[_],[_,_,_],rfl,rfl,rfl,rfl,⟨_,[_],[_,_,_],rfl,rfl,rfl,rfl,⟨_,[_],[_,_,_],rfl,rfl,rfl,rfl,rfl⟩⟩⟩) rfl<|ah (fS (ps:=[(_,_),(_,_),(_,_)]) (vs:=[(_,_),(_,_),(_,_)]) (C:=[_,_,_,_,_,_,_,_,_]) B7 rfl ⟨(.r rfl),(.r rfl),(.r rfl),trivial⟩ rfl ⟨_,[_,_,_],[_,_,_,_,_,_,_,_,_],rfl,rfl,rfl,rfl,⟨_,[_,_,_],[_,_,_,_,_,_,_,_,_],rfl,rfl,rfl,rfl,⟨_,[_,_,_],[_,_,_,_,_,_,_,_,_],rfl,rfl,rfl,rfl,rfl⟩⟩⟩) rfl<|ag rfl<|ah (ig (.r rfl) (.r rfl)) rfl<|ah (LO.Sm (j:=0) (vs:=[_,_,_]) ik B8 (.r rfl) (.r rfl) ma (by decide) rfl) rfl<|ag rfl<|ah (ig (.r rfl) (.r rfl)) rfl<|ah (qq (j:=2) gK O3 (.r rfl) (.r rfl) mb (by decide) rfl) rfl<|ax rfl<|aq<|be (dP rfl rfl (fun w hw=>?_)))
  refine⟨?_,hw.nil⟩
  refine congrArg (fun z=>bT (.int .i64 z)) ?_
  unfold iR
  first |(exfalso;omega)|(simp [ea,eb];done)|(rw[if_neg (by omega),if_neg (by omega)];first |rw[if_pos (by omega),if_pos (by omega)]|rw[if_pos (by omega),if_neg (by omega)]|rw[if_neg (by omega),if_pos (by omega)]|rw[if_neg (by omega),if_neg (by omega)])|(rw[if_pos (by omega)])|(rw[if_neg (by omega),if_pos (by omega)])
 ·
  refine aM (ah (fS (ps:=[(_,_),(_,_),(_,_)]) (vs:=[(_,_),(_,_),(_,_)]) (C:=[_,_,_]) nI rfl ⟨(.r rfl),(.r rfl),(.r rfl),trivial⟩ rfl ⟨_,[_],[_,_,_],rfl,rfl,rfl,rfl,⟨_,[_],[_,_,_],rfl,rfl,rfl,rfl,⟨_,[_],[_,_,_],rfl,rfl,rfl,rfl,rfl⟩⟩⟩) rfl<|ah (fS (ps:=[(_,_),(_,_),(_,_)]) (vs:=[(_,_),(_,_),(_,_)]) (C:=[_,_,_]) nI rfl ⟨(.r rfl),(.r rfl),(.r rfl),trivial⟩ rfl ⟨_,[_],[_,_,_],rfl,rfl,rfl,rfl,⟨_,[_],[_,_,_],rfl,rfl,rfl,rfl,⟨_,[_],[_,_,_],rfl,rfl,rfl,rfl,rfl⟩⟩⟩) rfl<|ah (fS (ps:=[(_,_),(_,_),(_,_)]) (vs:=[(_,_),(_,_),(_,_)]) (C:=[_,_,_]) nI rfl ⟨(.r rfl),(.r rfl),(.r rfl),trivial⟩ rfl ⟨_,[_],[_,_,_],rfl,rfl,rfl,rfl,⟨_,[_],[_,_,_],rfl,rfl,rfl,rfl,⟨_,[_],[_,_,_],rfl,rfl,rfl,rfl,rfl⟩⟩⟩) rfl<|ah (fS (ps:=[(_,_),(_,_),(_,_)]) (vs:=[(_,_),(_,_),(_,_)]) (C:=[_,_,_,_,_,_,_,_,_]) B7 rfl ⟨(.r rfl),(.r rfl),(.r rfl),trivial⟩ rfl ⟨_,[_,_,_],[_,_,_,_,_,_,_,_,_],rfl,rfl,rfl,rfl,⟨_,[_,_,_],[_,_,_,_,_,_,_,_,_],rfl,rfl,rfl,rfl,⟨_,[_,_,_],[_,_,_,_,_,_,_,_,_],rfl,rfl,rfl,rfl,rfl⟩⟩⟩) rfl<|ag rfl<|ah (ig (.r rfl) (.r rfl)) rfl<|ah (LO.Sm (j:=1) (vs:=[_,_,_]) ik B8 (.r rfl) (.r rfl) ma (by decide) rfl) rfl<|ag rfl<|ah (ig (.r rfl) (.r rfl)) rfl<|ah (qq (j:=0) gK O3 (.r rfl) (.r rfl) mb (by decide) rfl) rfl<|ax rfl<|aq<|be (dP rfl rfl (fun w hw=>?_)))
  refine⟨?_,hw.nil⟩
  refine congrArg (fun z=>bT (.int .i64 z)) ?_
  unfold iR
  first |(exfalso;omega)|(simp [ea,eb];done)|(rw[if_neg (by omega),if_neg (by omega)];first |rw[if_pos (by omega),if_pos (by omega)]|rw[if_pos (by omega),if_neg (by omega)]|rw[if_neg (by omega),if_pos (by omega)]|rw[if_neg (by omega),if_neg (by omega)])|(rw[if_pos (by omega)])|(rw[if_neg (by omega),if_pos (by omega)])
 ·
  refine aM (ah (fS (ps:=[(_,_),(_,_),(_,_)]) (vs:=[(_,_),(_,_),(_,_)]) (C:=[_,_,_]) nI rfl ⟨(.r rfl),(.r rfl),(.r rfl),trivial⟩ rfl ⟨_,[_],[_,_,_],rfl,rfl,rfl,rfl,⟨_,[_],[_,_,_],rfl,rfl,rfl,rfl,⟨_,[_],[_,_,_],rfl,rfl,rfl,rfl,rfl⟩⟩⟩) rfl<|ah (fS (ps:=[(_,_),(_,_),(_,_)]) (vs:=[(_,_),(_,_),(_,_)]) (C:=[_,_,_]) nI rfl ⟨(.r rfl),(.r rfl),(.r rfl),trivial⟩ rfl ⟨_,[_],[_,_,_],rfl,rfl,rfl,rfl,⟨_,[_],[_,_,_],rfl,rfl,rfl,rfl,⟨_,[_],[_,_,_],rfl,rfl,rfl,rfl,rfl⟩⟩⟩) rfl<|ah (fS (ps:=[(_,_),(_,_),(_,_)]) (vs:=[(_,_),(_,_),(_,_)]) (C:=[_,_,_]) nI rfl ⟨(.r rfl),(.r rfl),(.r rfl),trivial⟩ rfl ⟨_,[_],[_,_,_],rfl,rfl,rfl,rfl,⟨_,[_],[_,_,_],rfl,rfl,rfl,rfl,⟨_,[_],[_,_,_],rfl,rfl,rfl,rfl,rfl⟩⟩⟩) rfl<|ah (fS (ps:=[(_,_),(_,_),(_,_)]) (vs:=[(_,_),(_,_),(_,_)]) (C:=[_,_,_,_,_,_,_,_,_]) B7 rfl ⟨(.r rfl),(.r rfl),(.r rfl),trivial⟩ rfl ⟨_,[_,_,_],[_,_,_,_,_,_,_,_,_],rfl,rfl,rfl,rfl,⟨_,[_,_,_],[_,_,_,_,_,_,_,_,_],rfl,rfl,rfl,rfl,⟨_,[_,_,_],[_,_,_,_,_,_,_,_,_],rfl,rfl,rfl,rfl,rfl⟩⟩⟩) rfl<|ag rfl<|ah (ig (.r rfl) (.r rfl)) rfl<|ah (LO.Sm (j:=1) (vs:=[_,_,_]) ik B8 (.r rfl) (.r rfl) ma (by decide) rfl) rfl<|ag rfl<|ah (ig (.r rfl) (.r rfl)) rfl<|ah (qq (j:=1) gK O3 (.r rfl) (.r rfl) mb (by decide) rfl) rfl<|ax rfl<|aq<|be (dP rfl rfl (fun w hw=>?_)))
  refine⟨?_,hw.nil⟩
  refine congrArg (fun z=>bT (.int .i64 z)) ?_
  unfold iR
  first |(exfalso;omega)|(simp [ea,eb];done)|(rw[if_neg (by omega),if_neg (by omega)];first |rw[if_pos (by omega),if_pos (by omega)]|rw[if_pos (by omega),if_neg (by omega)]|rw[if_neg (by omega),if_pos (by omega)]|rw[if_neg (by omega),if_neg (by omega)])|(rw[if_pos (by omega)])|(rw[if_neg (by omega),if_pos (by omega)])
 ·
  refine aM (ah (fS (ps:=[(_,_),(_,_),(_,_)]) (vs:=[(_,_),(_,_),(_,_)]) (C:=[_,_,_]) nI rfl ⟨(.r rfl),(.r rfl),(.r rfl),trivial⟩ rfl ⟨_,[_],[_,_,_],rfl,rfl,rfl,rfl,⟨_,[_],[_,_,_],rfl,rfl,rfl,rfl,⟨_,[_],[_,_,_],rfl,rfl,rfl,rfl,rfl⟩⟩⟩) rfl<|ah (fS (ps:=[(_,_),(_,_),(_,_)]) (vs:=[(_,_),(_,_),(_,_)]) (C:=[_,_,_]) nI rfl ⟨(.r rfl),(.r rfl),(.r rfl),trivial⟩ rfl ⟨_,[_],[_,_,_],rfl,rfl,rfl,rfl,⟨_,[_],[_,_,_],rfl,rfl,rfl,rfl,⟨_,[_],[_,_,_],rfl,rfl,rfl,rfl,rfl⟩⟩⟩) rfl<|ah (fS (ps:=[(_,_),(_,_),(_,_)]) (vs:=[(_,_),(_,_),(_,_)]) (C:=[_,_,_]) nI rfl ⟨(.r rfl),(.r rfl),(.r rfl),trivial⟩ rfl ⟨_,[_],[_,_,_],rfl,rfl,rfl,rfl,⟨_,[_],[_,_,_],rfl,rfl,rfl,rfl,⟨_,[_],[_,_,_],rfl,rfl,rfl,rfl,rfl⟩⟩⟩) rfl<|ah (fS (ps:=[(_,_),(_,_),(_,_)]) (vs:=[(_,_),(_,_),(_,_)]) (C:=[_,_,_,_,_,_,_,_,_]) B7 rfl ⟨(.r rfl),(.r rfl),(.r rfl),trivial⟩ rfl ⟨_,[_,_,_],[_,_,_,_,_,_,_,_,_],rfl,rfl,rfl,rfl,⟨_,[_,_,_],[_,_,_,_,_,_,_,_,_],rfl,rfl,rfl,rfl,⟨_,[_,_,_],[_,_,_,_,_,_,_,_,_],rfl,rfl,rfl,rfl,rfl⟩⟩⟩) rfl<|ag rfl<|ah (ig (.r rfl) (.r rfl)) rfl<|ah (LO.Sm (j:=1) (vs:=[_,_,_]) ik B8 (.r rfl) (.r rfl) ma (by decide) rfl) rfl<|ag rfl<|ah (ig (.r rfl) (.r rfl)) rfl<|ah (qq (j:=2) gK O3 (.r rfl) (.r rfl) mb (by decide) rfl) rfl<|ax rfl<|aq<|be (dP rfl rfl (fun w hw=>?_)))
  refine⟨?_,hw.nil⟩
  refine congrArg (fun z=>bT (.int .i64 z)) ?_
  unfold iR
  first |(exfalso;omega)|(simp [ea,eb];done)|(rw[if_neg (by omega),if_neg (by omega)];first |rw[if_pos (by omega),if_pos (by omega)]|rw[if_pos (by omega),if_neg (by omega)]|rw[if_neg (by omega),if_pos (by omega)]|rw[if_neg (by omega),if_neg (by omega)])|(rw[if_pos (by omega)])|(rw[if_neg (by omega),if_pos (by omega)])
 ·
  refine aM (ah (fS (ps:=[(_,_),(_,_),(_,_)]) (vs:=[(_,_),(_,_),(_,_)]) (C:=[_,_,_]) nI rfl ⟨(.r rfl),(.r rfl),(.r rfl),trivial⟩ rfl ⟨_,[_],[_,_,_],rfl,rfl,rfl,rfl,⟨_,[_],[_,_,_],rfl,rfl,rfl,rfl,⟨_,[_],[_,_,_],rfl,rfl,rfl,rfl,rfl⟩⟩⟩) rfl<|ah (fS (ps:=[(_,_),(_,_),(_,_)]) (vs:=[(_,_),(_,_),(_,_)]) (C:=[_,_,_]) nI rfl ⟨(.r rfl),(.r rfl),(.r rfl),trivial⟩ rfl ⟨_,[_],[_,_,_],rfl,rfl,rfl,rfl,⟨_,[_],[_,_,_],rfl,rfl,rfl,rfl,⟨_,[_],[_,_,_],rfl,rfl,rfl,rfl,rfl⟩⟩⟩) rfl<|ah (fS (ps:=[(_,_),(_,_),(_,_)]) (vs:=[(_,_),(_,_),(_,_)]) (C:=[_,_,_]) nI rfl ⟨(.r rfl),(.r rfl),(.r rfl),trivial⟩ rfl ⟨_,[_],[_,_,_],rfl,rfl,rfl,rfl,⟨_,[_],[_,_,_],rfl,rfl,rfl,rfl,⟨_,[_],[_,_,_],rfl,rfl,rfl,rfl,rfl⟩⟩⟩) rfl<|ah (fS (ps:=[(_,_),(_,_),(_,_)]) (vs:=[(_,_),(_,_),(_,_)]) (C:=[_,_,_,_,_,_,_,_,_]) B7 rfl ⟨(.r rfl),(.r rfl),(.r rfl),trivial⟩ rfl ⟨_,[_,_,_],[_,_,_,_,_,_,_,_,_],rfl,rfl,rfl,rfl,⟨_,[_,_,_],[_,_,_,_,_,_,_,_,_],rfl,rfl,rfl,rfl,⟨_,[_,_,_],[_,_,_,_,_,_,_,_,_],rfl,rfl,rfl,rfl,rfl⟩⟩⟩) rfl<|ag rfl<|ah (ig (.r rfl) (.r rfl)) rfl<|ah (LO.Sm (j:=2) (vs:=[_,_,_]) ik B8 (.r rfl) (.r rfl) ma (by decide) rfl) rfl<|ag rfl<|ah (ig (.r rfl) (.r rfl)) rfl<|ah (qq (j:=0) gK O3 (.r rfl) (.r rfl) mb (by decide) rfl) rfl<|ax rfl<|aq<|be (dP rfl rfl (fun w hw=>?_)))
  refine⟨?_,hw.nil⟩
  refine congrArg (fun z=>bT (.int .i64 z)) ?_
  unfold iR
  first |(exfalso;omega)|(simp [ea,eb];done)|(rw[if_neg (by omega),if_neg (by omega)];first |rw[if_pos (by omega),if_pos (by omega)]|rw[if_pos (by omega),if_neg (by omega)]|rw[if_neg (by omega),if_pos (by omega)]|rw[if_neg (by omega),if_neg (by omega)])|(rw[if_pos (by omega)])|(rw[if_neg (by omega),if_pos (by omega)])
 ·
  refine aM (ah (fS (ps:=[(_,_),(_,_),(_,_)]) (vs:=[(_,_),(_,_),(_,_)]) (C:=[_,_,_]) nI rfl ⟨(.r rfl),(.r rfl),(.r rfl),trivial⟩ rfl ⟨_,[_],[_,_,_],rfl,rfl,rfl,rfl,⟨_,[_],[_,_,_],rfl,rfl,rfl,rfl,⟨_,[_],[_,_,_],rfl,rfl,rfl,rfl,rfl⟩⟩⟩) rfl<|ah (fS (ps:=[(_,_),(_,_),(_,_)]) (vs:=[(_,_),(_,_),(_,_)]) (C:=[_,_,_]) nI rfl ⟨(.r rfl),(.r rfl),(.r rfl),trivial⟩ rfl ⟨_,[_],[_,_,_],rfl,rfl,rfl,rfl,⟨_,[_],[_,_,_],rfl,rfl,rfl,rfl,⟨_,[_],[_,_,_],rfl,rfl,rfl,rfl,rfl⟩⟩⟩) rfl<|ah (fS (ps:=[(_,_),(_,_),(_,_)]) (vs:=[(_,_),(_,_),(_,_)]) (C:=[_,_,_]) nI rfl ⟨(.r rfl),(.r rfl),(.r rfl),trivial⟩ rfl ⟨_,[_],[_,_,_],rfl,rfl,rfl,rfl,⟨_,[_],[_,_,_],rfl,rfl,rfl,rfl,⟨_,[_],[_,_,_],rfl,rfl,rfl,rfl,rfl⟩⟩⟩) rfl<|ah (fS (ps:=[(_,_),(_,_),(_,_)]) (vs:=[(_,_),(_,_),(_,_)]) (C:=[_,_,_,_,_,_,_,_,_]) B7 rfl ⟨(.r rfl),(.r rfl),(.r rfl),trivial⟩ rfl ⟨_,[_,_,_],[_,_,_,_,_,_,_,_,_],rfl,rfl,rfl,rfl,⟨_,[_,_,_],[_,_,_,_,_,_,_,_,_],rfl,rfl,rfl,rfl,⟨_,[_,_,_],[_,_,_,_,_,_,_,_,_],rfl,rfl,rfl,rfl,rfl⟩⟩⟩) rfl<|ag rfl<|ah (ig (.r rfl) (.r rfl)) rfl<|ah (LO.Sm (j:=2) (vs:=[_,_,_]) ik B8 (.r rfl) (.r rfl) ma (by decide) rfl) rfl<|ag rfl<|ah (ig (.r rfl) (.r rfl)) rfl<|ah (qq (j:=1) gK O3 (.r rfl) (.r rfl) mb (by decide) rfl) rfl<|ax rfl<|aq<|be (dP rfl rfl (fun w hw=>?_)))
  refine⟨?_,hw.nil⟩
  refine congrArg (fun z=>bT (.int .i64 z)) ?_
  unfold iR
  first |(exfalso;omega)|(simp [ea,eb];done)|(rw[if_neg (by omega),if_neg (by omega)];first |rw[if_pos (by omega),if_pos (by omega)]|rw[if_pos (by omega),if_neg (by omega)]|rw[if_neg (by omega),if_pos (by omega)]|rw[if_neg (by omega),if_neg (by omega)])|(rw[if_pos (by omega)])|(rw[if_neg (by omega),if_pos (by omega)])
 ·
  refine aM (ah (fS (ps:=[(_,_),(_,_),(_,_)]) (vs:=[(_,_),(_,_),(_,_)]) (C:=[_,_,_]) nI rfl ⟨(.r rfl),(.r rfl),(.r rfl),trivial⟩ rfl ⟨_,[_],[_,_,_],rfl,rfl,rfl,rfl,⟨_,[_],[_,_,_],rfl,rfl,rfl,rfl,⟨_,[_],[_,_,_],rfl,rfl,rfl,rfl,rfl⟩⟩⟩) rfl<|ah (fS (ps:=[(_,_),(_,_),(_,_)]) (vs:=[(_,_),(_,_),(_,_)]) (C:=[_,_,_]) nI rfl ⟨(.r rfl),(.r rfl),(.r rfl),trivial⟩ rfl ⟨_,[_],[_,_,_],rfl,rfl,rfl,rfl,⟨_,[_],[_,_,_],rfl,rfl,rfl,rfl,⟨_,[_],[_,_,_],rfl,rfl,rfl,rfl,rfl⟩⟩⟩) rfl<|ah (fS (ps:=[(_,_),(_,_),(_,_)]) (vs:=[(_,_),(_,_),(_,_)]) (C:=[_,_,_]) nI rfl ⟨(.r rfl),(.r rfl),(.r rfl),trivial⟩ rfl ⟨_,[_],[_,_,_],rfl,rfl,rfl,rfl,⟨_,[_],[_,_,_],rfl,rfl,rfl,rfl,⟨_,[_],[_,_,_],rfl,rfl,rfl,rfl,rfl⟩⟩⟩) rfl<|ah (fS (ps:=[(_,_),(_,_),(_,_)]) (vs:=[(_,_),(_,_),(_,_)]) (C:=[_,_,_,_,_,_,_,_,_]) B7 rfl ⟨(.r rfl),(.r rfl),(.r rfl),trivial⟩ rfl ⟨_,[_,_,_],[_,_,_,_,_,_,_,_,_],rfl,rfl,rfl,rfl,⟨_,[_,_,_],[_,_,_,_,_,_,_,_,_],rfl,rfl,rfl,rfl,⟨_,[_,_,_],[_,_,_,_,_,_,_,_,_],rfl,rfl,rfl,rfl,rfl⟩⟩⟩) rfl<|ag rfl<|ah (ig (.r rfl) (.r rfl)) rfl<|ah (LO.Sm (j:=2) (vs:=[_,_,_]) ik B8 (.r rfl) (.r rfl) ma (by decide) rfl) rfl<|ag rfl<|ah (ig (.r rfl) (.r rfl)) rfl<|ah (qq (j:=2) gK O3 (.r rfl) (.r rfl) mb (by decide) rfl) rfl<|ax rfl<|aq<|be (dP rfl rfl (fun w hw=>?_)))
  refine⟨?_,hw.nil⟩
  refine congrArg (fun z=>bT (.int .i64 z)) ?_
  unfold iR
  first |(exfalso;omega)|(simp [ea,eb];done)|(rw[if_neg (by omega),if_neg (by omega)];first |rw[if_pos (by omega),if_pos (by omega)]|rw[if_pos (by omega),if_neg (by omega)]|rw[if_neg (by omega),if_pos (by omega)]|rw[if_neg (by omega),if_neg (by omega)])|(rw[if_pos (by omega)])|(rw[if_neg (by omega),if_pos (by omega)])
theorem za:cP af 92 1 5:=⟨_,_,nX,rfl,rfl,0,by kernel_rfl⟩
theorem WW:jJ af 51:=⟨⟨_,Tryz.underlying51,rfl⟩,by kernel_rfl⟩
theorem tU:cP af 92 0 0:=⟨_,_,nX,rfl,rfl,4,by kernel_rfl⟩
theorem OD:cP af 72 0 0:=⟨_,_,nY,rfl,rfl,0,by kernel_rfl⟩
theorem Ni:cP af 72 1 1:=⟨_,_,nY,rfl,rfl,0,by kernel_rfl⟩
theorem Ng:cP af 92 2 6:=⟨_,_,nX,rfl,rfl,0,by kernel_rfl⟩
def zn (W H:Nat) (ks:List (List Nat)):Prop:=ks.length≤W*H∧∀l,l∈ks→l.length≤W*H∧∀p,p∈l→p<W*H
theorem zq {W H:Nat} {S:Nat→Bool}:zn W H (dM W H S):=⟨kh,fun l hl=>by
 obtain⟨p,hp,hs,e⟩:=k9 (p:=W*H) hl
 have hall:∀q,q∈l→q<W*H:=fun q hq=>by rw[e]at hq;exact pH hp hq
 refine⟨?_,hall⟩
 have hn:l.Nodup:=by rw[e];exact(ja hp).imp fun h=>Nat.ne_of_lt h
 have:=length_le_of_subset (m:=List.range (W*H)) hn (fun x hx=>a8.2 (hall x hx))
 simpa using this⟩
theorem xe {W H:Nat} {ks:List (List Nat)} {f:List Nat→Bool} (h:zn W H ks):zn W H (ks.filter f):=⟨dE (cE _ _) h.1,fun l hl=>h.2 l (bR.1 hl).1⟩
theorem tB {W H:Nat} {vs:List Span} {lv:Int} {y:oV} (h:AR W H vs lv y) {a:di} (ha:a∈y.l):zn W H (a.kr.map dw):=by
 have h1:a.m∈kL W H vs lv:=by rw[←h.m];exact bw ha
 obtain⟨l,_,e⟩:=bN.1 h1
 have h2:a.kr.map dw=(qg W H vs lv l).ks:=(congrArg qh.ks e).symm
 rw[h2]
 exact xe zq
section
variable {g:eo} {of:List Int} {j x y:Int} {p:Nat}
theorem zj (hg:dH g) (h:((p%gW g:Nat):Int)+x<0∨g.wide≤((p%gW g:Nat):Int)+x∨((p / gW g:Nat):Int)+y<0∨g.high≤((p / gW g:Nat):Int)+y):rS (gW g) (gH g) of j x y p=true:=by
 obtain⟨e1,e2,_⟩:=An hg
 unfold rS
 rw[e1,e2,decide_eq_true h];rfl
theorem uJ (hg:dH g) (h:¬(((p%gW g:Nat):Int)+x<0∨g.wide≤((p%gW g:Nat):Int)+x∨((p / gW g:Nat):Int)+y<0∨g.high≤((p / gW g:Nat):Int)+y)) {q:Nat} (hq:((((p / gW g:Nat):Int)+y)*(gW g:Int)+(((p%gW g:Nat):Int)+x)).toNat=q):rS (gW g) (gH g) of j x y p=decide (of.getD q (-1)=j):=by
 obtain⟨e1,e2,_⟩:=An hg
 unfold rS
 rw[hq,e1,e2,decide_eq_false h];rfl
end
theorem Ck {W H:Nat} {ks:List (cG Nat)} {of:List Int} {j x y:Int} {n:Nat} {k:cG Nat} (hk:ks[n]? =some k) (h:k.l.all (rS W H of j x y)=false):oC W H (ks.map dw) of j x y=false:=by
 unfold oC;rw[List.all_map];exact zk hk (by show ¬(k.l.all _)=true;rw[h];decide)
theorem yn {W H:Nat} {ks:List (cG Nat)} {of:List Int} {j x y:Int} {n:Nat} (hz:∀i k,i<n→ks[i]? =some k→k.l.all (rS W H of j x y)=true) (h:ks.length≤n):oC W H (ks.map dw) of j x y=true:=by
 unfold oC;rw[List.all_map];exact BX hz h
theorem du {α:Type} {l:List α} {n:Nat} (h:n<l.length):∃a,l[n]? =some a:=⟨_,aw h⟩
theorem Cs {l:List Int} {n:Nat} (h:n<l.length):l[n]? =some (l.getD n (-1)):=by rw[List.getD_eq_getElem?_getD,aw h];rfl
theorem Bp (g:eo) (mx my:Int) (ya yb:oV) (ofa ofb:List Int) (i j:Nat) (a:di) (hia:ya.l[i]? =some a) (w:World) (hg:dH g) (ha:vO w ya ofa) (hb:vO w yb ofb) (hlb:ofb.length=gW g*gH g) (hks:zn (gW g) (gH g) (a.kr.map dw)) (hx: -8≤mx∧mx≤8) (hy: -8≤my∧my≤8):
 Calls af 88 #[R6 g ya,.int .i64 (i:Int),R6 g yb,.int .i64 (j:Int),.agg #[.int .i64 mx,.int .i64 my]] w fun e w'=>e= .returned (.bool (oC (gW g) (gH g) (a.kr.map dw) ofb j mx my))∧St (bs w) [] w':=by
 have har:=iM hg
 have hkn:=hks.1
 rw[ak]at hkn
 obtain⟨hW,hH,hW1,hW2,hH1,hH2⟩:=An hg
 have hkr:=ha.kr a (al hia)
 have hil:i<ya.l.length:=(an.1 hia).1
 have hofs:jR yb.po (gW g*gH g):=by have z:=hb.of.sm;rw[hlb]at z;exact z
 refine enter (vs:=[_,_,_,_,_]) (env:=[(0,_),(1,_),(2,_),(3,_),(4,_)]) Tryz.func88 rfl rfl rfl rfl ?_
 refine au (aB rfl<|c8 (C:=#[_,_,_,_,_,_,_]) rfl rfl fun b1=>aB rfl<|c8 (C:=#[_,_,_,_,_,_,_]) rfl rfl fun b2=>aB rfl<|c8 (C:=#[_,_]) rfl rfl fun b3=>ax rfl<|aq<|av<|au (bO (r:=5) za rfl<|cL 2 WW rfl rfl ⟨_,rfl⟩ rfl<|ag rfl<|ah (bM Ec O7 ha.ar.sm (.r rfl) (.r rfl) rfl (by omega)) rfl<|bO Ik rfl<|ah (aC XK (.r rfl) (fun w hw=>aA (off:=1) ((fun w3 h3=>cY (ha.ar.b0 w3 h3) hia) w hw) ⟨_,rfl⟩)) rfl<|ah (bE tQ (.r rfl) rfl) rfl<|ag rfl<|aq ?_))
 refine aD<|bS (α:=Nat) 0 (fun gx=>[(24,.int .i64 (gx:Nat))]) [(3,_),(5,_),(7,_),(9,_),(22,_),(23,_)] (fun gx=>[]) (fun gx=>gx≤a.kr.length∧∀i k,i<gx→a.kr[i]? =some k→k.l.all (rS (gW g) (gH g) ofb j mx my)=true) (fun gx=>a.kr.length-gx) 0 (by exact⟨aY _,fun i k h=>absurd h (cQ _)⟩) (.c4 rfl rfl rfl rfl (.cons rfl (.cons rfl (.cons rfl .nil)))) (fun _ h=>h) ?_
 rintro n ⟨hn,hz⟩
 refine au (dK rfl<|aq<|av<|ay rfl (fun h25=>?_) (fun h25=>?_))
 ·
  obtain⟨k,hk⟩:=du (l:=a.kr) (n:=n) (by omega)
  obtain⟨hkl,hkm⟩:=hks.2 k.l (bw (al hk))
  refine aE (aj<|av<|aD<|au (ah (bM tQ qL hkr.1.sm (.r rfl) (.r rfl) rfl (by omega)) rfl<|ah (aC iL (.r rfl) (fun w hw=>aA (off:=0) ((fun w3 h3=>RR.cell (RR.b0 hkr w3 h3) hk) w hw) ⟨_,rfl⟩)) rfl<|ax rfl<|aq<|av ?_))
  refine aM (ag rfl<|ah (bE fk (.r rfl) rfl) rfl<|ag rfl<|aq<|aD<|bS (α:=Nat) 0 (fun gx=>[(30,.int .i64 (gx:Nat))]) [(3,_),(5,_),(7,_),(9,_),(22,_),(23,_),(24,_),(28,_),(29,_)] (fun gx=>[]) (fun gx=>gx≤k.l.length∧∀i p,i<gx→k.l[i]? =some p→rS (gW g) (gH g) ofb j mx my p=true) (fun gx=>k.l.length-gx) 0 (by exact⟨aY _,fun i k h=>absurd h (cQ _)⟩) (.c4 rfl rfl rfl rfl (.c4 rfl rfl rfl rfl (.cons rfl (.cons rfl .nil)))) (fun _ h=>h) ?_)
  rintro m ⟨hm,hzm⟩
  refine au (dK rfl<|aq<|av<|ay rfl (fun h31=>?_) (fun h31=>?_))
  ·
   obtain⟨p,hp⟩:=du (l:=k.l) (n:=m) (by omega)
   have hpm:=hkm p (al hp)
   have hpd:=nE hg hpm
   have hpr:p%gW g<gW g:=jW _ (by omega)
   refine aE (aj<|av<|aD<|au (ah (bM fk N3 (RR.row hkr hk).sm (.r rfl) (.r rfl) rfl (by omega)) rfl<|ah (aC O3 (.r rfl) (fun w hw=>aA (off:=0) ((fun w3 h3=>cY (RR.row (RR.b0 hkr w3 h3) hk) hp) w hw) ⟨_,rfl⟩)) rfl<|ax rfl<|aq<|av ?_))
   refine VC.draw mixed (LL.m rfl<|bl (aP (r:=0) tU (.r rfl) rfl) rfl<|bl (aP (r:=3) iQ (.r rfl) rfl) rfl<|bl (aC O3 (.r rfl) (aF 2 rfl ⟨_,rfl⟩)) rfl<|bl (eN (LO.rem (.r rfl) (.r rfl) (by omega)) (congrArg (cX .i64) (sK hg p))) rfl<|bl (aP (r:=0) OD (.r rfl) rfl) rfl<|bl (aC O3 (.r rfl) (aF 0 rfl ⟨_,rfl⟩)) rfl<|bl (LO.add (.r rfl) (.r rfl) (wi (by omega) (by omega))) rfl<|LL.m rfl<|bl (aP (r:=0) tU (.r rfl) rfl) rfl<|bl (aP (r:=3) iQ (.r rfl) rfl) rfl<|bl (aC O3 (.r rfl) (aF 2 rfl ⟨_,rfl⟩)) rfl<|bl (eN (LO.quo (.r rfl) (.r rfl) (by omega) (wi (by rw[jB hg];have:=nE hg (p:=p) (by omega);omega) (by rw[jB hg];have:=nE hg (p:=p) (by omega);omega))) (congrArg (cX .i64) (jB hg p))) rfl<|bl (aP (r:=1) Ni (.r rfl) rfl) rfl<|bl (aC O3 (.r rfl) (aF 0 rfl ⟨_,rfl⟩)) rfl<|bl (LO.add (.r rfl) (.r rfl) (wi (by omega) (by omega))) rfl<|bl (LO.as (.r rfl)) rfl<|bl (LO.as (.r rfl)) rfl<|LL.nil) (by kernel_rfl)<|aj<|av<|au (ag rfl<|dK rfl<|ag rfl<|aK rfl (fun hg=>aS (.r rfl))<|aK rfl (fun hg=>aP (r:=0) tU (.r rfl) rfl)<|aK rfl (fun hg=>aP (r:=3) iQ (.g hg rfl) rfl)<|aK rfl (fun hg=>aC O3 (.g hg rfl) (aF 2 rfl ⟨_,rfl⟩))<|aK rfl (fun hg=>LO.ge (.g hg rfl) (.g hg rfl))<|ah (cD (.r rfl) (.r rfl) rfl rfl) rfl<|ag rfl<|aK rfl (fun hg=>aS (.r rfl))<|aK rfl (fun hg=>LO.lt (.g hg rfl) (.r rfl))<|ah (cD (.r rfl) (.r rfl) rfl rfl) rfl<|ag rfl<|aK rfl (fun hg=>aS (.r rfl))<|aK rfl (fun hg=>aP (r:=0) tU (.r rfl) rfl)<|aK rfl (fun hg=>aP (r:=4) uH (.g hg rfl) rfl)<|aK rfl (fun hg=>aC O3 (.g hg rfl) (aF 2 rfl ⟨_,rfl⟩))<|aK rfl (fun hg=>LO.ge (.g hg rfl) (.g hg rfl))<|ah (cD (.r rfl) (.r rfl) rfl rfl) rfl<|aq<|ay rfl (fun h69=>?_) (fun h69=>?_))
   ·
    refine bU (aH (cB (aj<|aM (da rfl rfl (by omega) (by omega) rfl<|ag rfl<|aN<|aZ fun a w ha hw=>⟨m+1,⟨by omega,sP hzm hp (by first |exact zj hg (by omega)|(rw[uJ hg (by omega) hq3];simpa using h82))⟩,(by omega),ha.sub (.c4 rfl rfl rfl rfl (.c4 rfl rfl rfl rfl (.cons rfl (.cons rfl .nil)))),hw⟩))))
   ·
    obtain⟨q,hq1,hq2,hq3⟩:=target hg (x:=((p%gW g:Nat):Int)+mx) (y:=((p / gW g:Nat):Int)+my) (by omega)
    refine aE (aj<|au (bO (r:=6) Ng rfl<|cL 1 iL rfl rfl ⟨_,rfl⟩ rfl<|ag rfl<|bO (r:=0) tU rfl<|bO (r:=3) iQ rfl<|cL 2 O3 rfl rfl ⟨_,rfl⟩ rfl<|ah (mw (.r rfl) (.r rfl) (wi (by omega) (by omega))) rfl<|ag rfl<|da rfl rfl (by omega) (by omega) rfl<|ah (bM fk N3 hofs (.r rfl) (.r rfl) hq1 hq2) rfl<|ah (aC O3 (.r rfl) (fun w hw=>aA (off:=0) ((fun w3 h3=>cY (hb.of.b0 w3 h3) (Cs (n:=q) (by omega))) w hw) ⟨_,rfl⟩)) rfl<|ag rfl<|VO.u rfl<|aq<|ay rfl (fun h82=>?_) (fun h82=>?_)))
    ·
     refine au (ax rfl<|aq<|be (dA (bA (bA (dA (dA (bA (bA (dA (bA (dP rfl rfl (fun w hw=>?_))))))))))))
     refine⟨?_,hw.nil⟩
     refine congrArg (fun z=>bT (.bool z)) ?_
     first |exact(yn hz (by omega)).symm|exact(Ck hk (zk hp (by rw[uJ hg (by omega) hq3];simpa using h82))).symm
    ·
     refine aE (bB (aj<|aM (da rfl rfl (by omega) (by omega) rfl<|ag rfl<|aN<|aZ fun a w ha hw=>⟨m+1,⟨by omega,sP hzm hp (by first |exact zj hg (by omega)|(rw[uJ hg (by omega) hq3];simpa using h82))⟩,(by omega),ha.sub (.c4 rfl rfl rfl rfl (.c4 rfl rfl rfl rfl (.cons rfl (.cons rfl .nil)))),hw⟩)))
  ·
   refine bU (aH (aH (cB (bB (aj<|aM (da rfl rfl (by omega) (by omega) rfl<|ag rfl<|aN<|aZ fun a w ha hw=>⟨n+1,⟨by omega,sP hz hk (BX hzm (by omega))⟩,(by omega),ha.sub (.c4 rfl rfl rfl rfl (.cons rfl (.cons rfl (.cons rfl .nil)))),hw⟩))))))
 ·
  refine bU (aH (aH (cB (aj<|au (ax rfl<|aq<|be (dP rfl rfl (fun w hw=>?_)))))))
  refine⟨?_,hw.nil⟩
  refine congrArg (fun z=>bT (.bool z)) ?_
  first |exact(yn hz (by omega)).symm|exact(Ck hk (zk hp (by rw[uJ hg (by omega) hq3];simpa using h82))).symm
theorem B72:fU af 72 [(0,1),(1,1)] [.int .i64 0,.int .i64 0]:=lA fun _=>by kernel_rfl
theorem Z72:dr af 72 (.agg #[.int .i64 0,.int .i64 0]):=by unfold dr;kernel_rfl
theorem XM:(af.info? 72).map (·.size)=some 2:=by kernel_rfl
theorem A72:lh af 72 2:=⟨⟨_,nY,rfl⟩,by kernel_rfl⟩
theorem C88:fh af 88:=⟨_,Tryz.func88,by decide,rfl⟩
theorem Qx:ee af 66 72:=Tryz.underlying66
theorem I72:j6 af 72 2 16 (.agg #[.int .i64 0,.int .i64 0]):=⟨by kernel_rfl,by kernel_rfl,by unfold dr;kernel_rfl,rfl,by decide⟩
theorem O5 (r:Nat):(2*(r:Int)+1)*(2*(r:Int)+1)=(((2*r+1)*(2*r+1):Nat):Int):=by push_cast;rfl
theorem Tz {r:Nat} (h:r≤8):(2*r+1)*(2*r+1)≤289:=by have:=Nat.mul_le_mul (show 2*r+1≤17 by omega) (show 2*r+1≤17 by omega);omega
structure B9 where
 p:Option Addr
 c:Nat
theorem Ip (g:eo) (ya yb:oV) (ofa ofb:List Int) (i j r:Nat) (aa b:di) (hia:ya.l[i]? =some aa) (hjb:yb.l[j]? =some b) (w:World) (hg:dH g) (ha:vO w ya ofa) (hb:vO w yb ofb) (hla:ofa.length=gW g*gH g) (hlb:ofb.length=gW g*gH g) (hka:zn (gW g) (gH g) (aa.kr.map dw)) (hkb:zn (gW g) (gH g) (b.kr.map dw)) (hr:r≤8):
 Calls af 57 #[R6 g ya,.int .i64 (i:Int),R6 g yb,.int .i64 (j:Int),.int .i64 (r:Int)] w fun e w'=>∃y:B9,True∧e= .returned (.slice y.p (rp (gW g) (gH g) (aa.kr.map dw) (b.kr.map dw) ofa ofb i j r).length y.c)∧St (bs w) [own 72 2 y.p y.c ((rp (gW g) (gH g) (aa.kr.map dw) (b.kr.map dw) ofa ofb i j r).map Mv.cells)] w':=by
 have hgr:=hg
 have hN:=Tz hr
 have hln:=fun n=>sC (W:=gW g) (H:=gH g) (ka:=aa.kr.map dw) (kb:=b.kr.map dw) (ofa:=ofa) (ofb:=ofb) (i:=i) (j:=j) (r:=r) (n:=n)
 refine enter (vs:=[_,_,_,_,_]) (env:=[(0,_),(1,_),(2,_),(3,_),(4,_)]) Tryz.func57 rfl rfl rfl rfl ?_
 refine au (aB rfl<|c8 (C:=#[_,_,_,_,_,_,_]) rfl rfl fun b1=>aB rfl<|c8 (C:=#[_,_,_,_,_,_,_]) rfl rfl fun b2=>ax rfl<|aq<|au (ax rfl<|aq<|av ?_))
 refine au (ag rfl<|ah (mw (.r rfl) (.r rfl) (wi (by omega) (by omega))) rfl<|da rfl rfl (by omega) (by omega) rfl<|ag rfl<|ah (mw (.r rfl) (.r rfl) (wi (by omega) (by omega))) rfl<|da rfl rfl (by omega) (by omega) rfl<|ah (eN (mw (.r rfl) (.r rfl) (wi (by rw[O5];omega) (by rw[O5];omega))) (congrArg (cX .i64) (O5 r))) rfl<|ag rfl<|aq<|aD<|bS (α:=Nat×(Option Addr)×Nat) 0 (fun gx=>[(11,.slice gx.2.1 (iU (gW g) (gH g) (aa.kr.map dw) (b.kr.map dw) ofa ofb i j r gx.1).length gx.2.2),(21,.int .i64 (gx.1:Nat))]) [(1,_),(3,_),(4,_),(5,_),(7,_),(20,_)] (fun gx=>[own 72 2 gx.2.1 gx.2.2 ((iU (gW g) (gH g) (aa.kr.map dw) (b.kr.map dw) ofa ofb i j r gx.1).map Mv.cells)]) (fun gx=>gx.1≤(2*r+1)*(2*r+1)) (fun gx=>(2*r+1)*(2*r+1)-gx.1) (0,none,0) (by exact aY _) (.c4 rfl rfl rfl rfl (.c4 rfl rfl rfl rfl .nil)) (fun _ h=>(h.fX 72 2)) ?_)
 rintro ⟨n,po,co⟩ hn
 show VC _ _ _ _ _ ([(11,.slice po (iU (gW g) (gH g) (aa.kr.map dw) (b.kr.map dw) ofa ofb i j r n).length co),(21,.int .i64 (n:Nat))]++_) ([own 72 2 po co ((iU (gW g) (gH g) (aa.kr.map dw) (b.kr.map dw) ofa ofb i j r n).map Mv.cells)]++_) _ _
 dsimp only at hn
 refine au (dK rfl<|aq<|av<|ay rfl (fun h22=>?_) (fun h22=>?_))
 ·
  obtain⟨hm1,hm2⟩:=YO (n:=n) (r:=r) (by omega)
  have hm3:(0:Int)≤((n / (2*r+1):Nat):Int):=fW _
  have hm4:(0:Int)≤((n%(2*r+1):Nat):Int):=fW _
  refine aE (aj<|av<|aD<|au (ag rfl<|ax rfl<|aq<|av ?_))
  refine eC [[0,1,2],[0,1,2],[0,1,2]] [some 1,some 1,some 1,some 1,some 1,some 1,some 1,some 1,some 1,some 1,some 1,some 1,some 1,some 1,some 1,none,none] mixed (by kernel_rfl) rfl (cT rfl<|cT rfl<|aG (fun _ hJ=>mw (.r rfl) (.r rfl) (wi (by omega) (by omega))) rfl<|aG (fun _ hJ=>LO.add (.r rfl) (.r rfl) (wi (by omega) (by omega))) rfl<|aG (fun _ hJ=>eN (LO.rem (.r rfl) (.r rfl) (by omega)) (congrArg (cX .i64) (Vf n r))) rfl<|cT rfl<|aG (fun _ hJ=>gz (.r rfl) (.r rfl) (wi (by omega) (by omega))) rfl<|cT rfl<|cT rfl<|aG (fun _ hJ=>mw (.r rfl) (.r rfl) (wi (by omega) (by omega))) rfl<|aG (fun _ hJ=>LO.add (.r rfl) (.r rfl) (wi (by omega) (by omega))) rfl<|aG (fun _ hJ=>eN (LO.quo (.r rfl) (.r rfl) (by omega) (wi (by rw[Gg];omega) (by rw[Gg];omega))) (congrArg (cX .i64) (Gg n r))) rfl<|cT rfl<|aG (fun _ hJ=>gz (.r rfl) (.r rfl) (wi (by omega) (by omega))) rfl<|aG (fun _ hJ=>fA (ps:=[(_,_),(_,_)]) (vs:=[(_,_),(_,_)]) (C:=[_,_]) B72 ⟨(.r rfl),(.r rfl),trivial⟩ rfl ⟨_,[_],[_,_],rfl,rfl,rfl,rfl,⟨_,[_],[_,_],rfl,rfl,rfl,rfl,rfl⟩⟩) rfl<|dC<|dC<|fj) (az<|az<|az<|az<|az<|az<|az<|az<|az<|az<|az<|az<|az<|az<|az<|ga rfl<|cJ (C:=#[_,_]) Z72 rfl fun b6=>⟨fun _ hw=>hw.gY [1,2,3] rfl,hX<|cq 0 (vs:=[_,_]) (C':=[_,_]) (L':=[_,_,_,_]) XM rfl rfl rfl rfl rfl rfl rfl rfl<|⟨fun _ hw=>hw.gY [1,2,3] rfl,fB ?_⟩⟩)
  refine aj<|au (ah (aX (vs:=[_,_,_,_,_,_,_]) Pj (.r rfl) (aF 3 rfl ⟨_,rfl⟩) rfl) rfl<|ag rfl<|ah (aX (vs:=[_,_,_,_,_,_,_]) Pj (.r rfl) (aF 2 rfl ⟨_,rfl⟩) rfl) rfl<|ag rfl<|ah (aX (vs:=[_,_]) A72 (.r rfl) (aF 0 rfl ⟨_,rfl⟩) rfl) rfl<|ah (bK (xs:=[_,_,_,_,_]) (vs:=[_,_,_,_,_]) C88 ⟨(.r rfl),(.r rfl),(.r rfl),(.r rfl),(.r rfl),trivial⟩ (fun w2 hw=>Bp g _ _ ya yb ofa ofb i j aa hia w2 hgr (ha.b0 w2 hw) (hb.b0 w2 hw) hlb hka (by omega) (by omega))) rfl<|ag rfl<|bh rfl (fun hg=>aX (vs:=[_,_,_,_,_,_,_]) Pj (.r rfl) (aF 2 rfl ⟨_,rfl⟩) rfl)<|bh rfl (fun hg=>aS (.r rfl))<|bh rfl (fun hg=>aX (vs:=[_,_,_,_,_,_,_]) Pj (.r rfl) (aF 3 rfl ⟨_,rfl⟩) rfl)<|bh rfl (fun hg=>aS (.r rfl))<|bh rfl (fun hg=>aP (r:=0) OD (.r rfl) rfl)<|bh rfl (fun hg=>aC O3 (.g hg rfl) (aF 0 rfl ⟨_,rfl⟩))<|bh rfl (fun hg=>LO.neg (.g hg rfl) (wi (by omega) (by omega)))<|bh rfl (fun hg=>aP (r:=1) Ni (.r rfl) rfl)<|bh rfl (fun hg=>aC O3 (.g hg rfl) (aF 0 rfl ⟨_,rfl⟩))<|bh rfl (fun hg=>LO.neg (.g hg rfl) (wi (by omega) (by omega)))<|bh rfl (fun hg=>fA (ps:=[(_,_),(_,_)]) (vs:=[(_,_),(_,_)]) (C:=[_,_]) B72 ⟨(.g hg rfl),(.g hg rfl),trivial⟩ rfl ⟨_,[_],[_,_],rfl,rfl,rfl,rfl,⟨_,[_],[_,_],rfl,rfl,rfl,rfl,rfl⟩⟩)<|bh rfl (fun hg=>bK (xs:=[_,_,_,_,_]) (vs:=[_,_,_,_,_]) C88 ⟨(.g hg rfl),(.g hg rfl),(.g hg rfl),(.g hg rfl),(.g hg rfl),trivial⟩ (fun w2 hw=>Bp g _ _ yb ya ofb ofa j i b hjb w2 hgr (hb.b0 w2 hw) (ha.b0 w2 hw) hla hkb (by omega) (by omega)))<|ah (LO.qc (.r rfl) rfl rfl (.r rfl)) rfl<|aq<|ay rfl (fun h58=>?_) (fun h58=>?_))
  ·
   refine aM (ag rfl<|ah (aX (vs:=[_,_]) A72 (.r rfl) (aF 0 rfl ⟨_,rfl⟩) rfl) rfl<|aB rfl<|eW (ps:=[(_,_)]) (vs:=[(_,_)]) (Z:=[_,_]) (C:=[_,_]) Qx Z72 XM ⟨(.r rfl),trivial⟩ rfl rfl rfl rfl ⟨_,[_,_],[_,_],rfl,rfl,rfl,rfl,rfl⟩ fun b8=>aB rfl<|eP (Fu r n) (f:=Mv.cells) 2 0 (fun R=>[_,_,R,_,_]) Qx Qx I72 (.r rfl) (.r rfl) rfl rfl rfl rfl rfl rfl rfl (fun _=>rfl) rfl (by have:=hln n;omega) fun p3 c3=>aB rfl<|aW (LO.as (.r rfl))<|aN<|bB (aj<|aM (da rfl rfl (by omega) (by omega) rfl<|ag rfl<|aN ?_)))
   have hmt:=AZ (by show(_&&_)=true;rw[bD];exact h58)
   refine aZ fun a w ha hw=>⟨(n+1,p3,c3),(by dsimp only;omega),(by dsimp only;omega),ha.sub (.cons (congrArg (fun l:List Mv=>some (il _ l.length _)) hmt.symm) (.c4 rfl rfl rfl rfl (.cons rfl (.cons rfl (.cons rfl .nil))))),(by rw[hmt];exact hw.gY [2,3,4] rfl)⟩
  ·
   refine aE (bB (aj<|aM (da rfl rfl (by omega) (by omega) rfl<|ag rfl<|aN ?_)))
   have hmt:=A0 (by show ¬(_&&_)=true;rw[bD];exact h58)
   refine aZ fun a w ha hw=>⟨(n+1,po,co),(by dsimp only;omega),(by dsimp only;omega),ha.sub (.cons (congrArg (fun l:List Mv=>some (il _ l.length _)) hmt.symm) (.c4 rfl rfl rfl rfl (.cons rfl (.cons rfl (.cons rfl .nil))))),(by rw[hmt];exact hw.gY [1,2,3] rfl)⟩
 ·
  have hne:n=(2*r+1)*(2*r+1):=by omega
  subst hne
  refine bU (aH (aH (cB (aj<|au (ag rfl<|ax rfl<|aq<|be (dP rfl rfl (fun w hw=>?_)))))))
  exact⟨⟨po,co⟩,trivial,rfl,dq [0] rfl rfl _ hw⟩
theorem C56:fh af 56:=⟨_,Tryz.func56,by decide,rfl⟩
theorem XG:fh af 31:=⟨_,Tryz.func31,by decide,rfl⟩
theorem C57:fh af 57:=⟨_,Tryz.func57,by decide,rfl⟩
def nP (g:eo) (vs:List Span) (lv:Int):Nat:=(dM (gW g) (gH g) (et vs lv)).length
def Iy (g1:eo) (v1:List Span) (g2:eo) (v2:List Span) (lv reach i j:Int):Int:=
 if om g1 v1 g2 v2 lv reach≠0 then om g1 v1 g2 v2 lv reach else if min i j<0∨(nP g1 v1 lv:Int)≤i∨(nP g2 v2 lv:Int)≤j then 4 else 0
def Kq (W H:Nat) (vs:List Span) (lv:Int) (i:Nat):List (List Nat):=(((kL W H vs lv)[i]?).map qh.ks).getD []
def ju (g:eo) (v1 v2:List Span) (lv:Int) (i j r:Nat):List Mv:=rp (gW g) (gH g) (Kq (gW g) (gH g) v1 lv i) (Kq (gW g) (gH g) v2 lv j) (mH (gW g) (gH g) (et v1 lv)) (mH (gW g) (gH g) (et v2 lv)) i j r
theorem yo {W H:Nat} {vs:List Span} {lv:Int} {y:oV} (h:AR W H vs lv y) {i:Nat} {a:di} (ha:y.l[i]? =some a):Kq W H vs lv i=a.kr.map dw:=by
 unfold Kq;rw[←h.m,aI,ha];rfl
theorem vO.uq {β:Bs} {L:List dg} {w:World} {y:oV} {of:List Int} {W H:Nat} {vs:List Span} {lv:Int} (hw:St β L w) (hp:AR W H vs lv y) (i0 i1 i3 i7:Nat) (h0:L[i0]? =some (own 60 8 y.p y.c (y.l.map di.cells))) (h1:L[i1]? =some (bV (y.l.map di.kR))) (h3:L[i3]? =some (kZ 3 1 nC y.ks)) (h7:L[i7]? =some (own 3 1 y.po y.co (of.map iC))):vO w y of:=
 ⟨RO.gM hw i0 h0,fun a ha=>⟨gG ((hw.inv i1 _ h1).1 _ (bw (f:=di.kR) ha)),fun x hx=>by
  have h:=hw.inv i3 _ h3 _ (bw (f:=fun x:cG Nat=>own 3 1 x.p x.c (x.l.map nC)) (hp.kr a ha x hx))
  refine⟨?_,gG h⟩
  have:=h.1
  rwa [ak]at this⟩,RO.gM hw i7 h7⟩
section
variable {g1 g2:eo} {v1 v2:List Span} {lv reach i j:Int}
theorem Rw (h:Iy g1 v1 g2 v2 lv reach i j=0):om g1 v1 g2 v2 lv reach=0∧∃a b:Nat,i=a∧j=b∧a<nP g1 v1 lv∧b<nP g2 v2 lv:=by
 unfold Iy at h
 split at h
 ·rename_i z;exact absurd h z
 ·rename_i z
  split at h
  ·omega
  ·exact⟨eK.1 z,i.toNat,j.toNat,by omega,by omega,by omega,by omega⟩
end
theorem Ny (g1:eo) (v1:List Span) (p1:Option Addr) (c1:Nat) (g2:eo) (v2:List Span) (p2:Option Addr) (c2:Nat) (lv:Int) (i j r:Nat) (w:World) (hv1:fL w p1 v1) (hv2:fL w p2 v2) (hmo:Iy g1 v1 g2 v2 lv r i j=0):
 Calls af 22 #[im g1 p1 v1.length c1,im g2 p2 v2.length c2,.int .i64 lv,.int .i64 (r:Int),.int .i64 (i:Int),.int .i64 (j:Int)] w fun e w'=>∃y:B9,True∧e= .returned (.tuple #[.slice y.p (ju g1 v1 v2 lv i j r).length y.c,.int .i64 0])∧St (bs w) [own 72 2 y.p y.c ((ju g1 v1 v2 lv i j r).map Mv.cells)] w':=by
 obtain⟨hpr,i_,j_,ei,ej,hi,hj⟩:=Rw hmo
 obtain⟨hf1,hf2,rfl,hl1,hl2,hr1,hr2⟩:=My hpr
 obtain⟨hg,hlen1,hok1,_,_⟩:=oO (lT (lv:=lv) hf1 hl1 hl2)
 obtain⟨_,hlen2,hok2,_,_⟩:=oO (lT (lv:=lv) hf2 hl1 hl2)
 have har:=iM hg
 refine enter (vs:=[_,_,_,_,_,_]) (env:=[(0,_),(1,_),(2,_),(3,_),(4,_),(5,_)]) Tryz.func22 rfl rfl rfl rfl ?_
 refine au (aB rfl<|c8 (C:=#[_,_,_,_,_,_]) rfl rfl fun b1=>aB rfl<|c8 (C:=#[_,_,_,_,_,_]) rfl rfl fun b2=>ax rfl<|ax rfl<|aq<|av<|au (ah (aX (vs:=[_,_,_,_,_,_]) oy (.r rfl) (aF 1 rfl ⟨_,rfl⟩) rfl) rfl<|ah (aX (vs:=[_,_,_,_,_,_]) oy (.r rfl) (aF 0 rfl ⟨_,rfl⟩) rfl) rfl<|ag rfl<|ag rfl<|ah (bK (xs:=[_,_,_,_]) (vs:=[_,_,_,_]) C56 ⟨(.r rfl),(.r rfl),(.r rfl),(.r rfl),trivial⟩ (fun w hw=>Dz g1 v1 p1 c1 _ v2 p2 c2 lv (r:Int) w (hv1.b0 w hw) (hv2.b0 w hw))) rfl<|ax rfl<|aq ?_))
 refine au (ag rfl<|VO.u rfl<|aq<|ay rfl (fun h23=>?_) (fun h23=>?_))
 · (exfalso;exact h23 hpr)
 ·
  refine aE (aj<|av<|VC.O0 [⟨6,15,fun b=>.pointer (some ⟨b,0,none⟩),92,#[.int .i64 0,.int .i64 0,.int .i64 0,.int .i64 0,.int .i64 0,.slice none 0 0,.slice none 0 0]⟩,⟨7,16,fun b=>.pointer (some ⟨b,0,none⟩),92,#[.int .i64 0,.int .i64 0,.int .i64 0,.int .i64 0,.int .i64 0,.slice none 0 0,.slice none 0 0]⟩] [[0,1],[0,1],[0,1],[0,1],[0,1],[0,1],[0,1]] [some 4,some 4,none,some 4,some 4,none,none,none,none,none] mixed (by kernel_rfl) rfl (aG (fun _ hJ=>aX (vs:=[_,_,_,_,_,_]) oy (.r rfl) (fun _ hw=>cN (hJ _ hw) 1 rfl ⟨_,rfl⟩) rfl) rfl<|cT rfl<|dC<|aG (fun _ hJ=>aX (vs:=[_,_,_,_,_,_]) oy (.r rfl) (fun _ hw=>cN (hJ _ hw) 0 rfl ⟨_,rfl⟩) rfl) rfl<|cT rfl<|dC<|dC<|dC<|dC<|dC<|fj) (⟨⟨rfl,_,rfl,FO.alloc YA rfl⟩,⟨⟨rfl,_,rfl,FO.alloc YA rfl⟩,trivial⟩⟩) (HY.s<|HY.s<|HY.h rfl rfl fun X=>cd (xs:=[_,_]) (vs:=[_,_]) XG ⟨(.r rfl),(.r rfl),trivial⟩ (fun w hw=>nJ g1 v1 p1 c1 lv w hg hlen1 hok1 (hv1.b0 w hw)) fun y1 hy1=>⟨[_,_,_,_,_,_,_,_,_,_],rfl,kJ (L1:=[_,_]) [8,9] rfl rfl rfl,HY.s<|HY.s<|HY.h rfl rfl fun X=>cd (xs:=[_,_]) (vs:=[_,_]) XG ⟨(.r rfl),(.r rfl),trivial⟩ (fun w hw=>nJ g1 v2 p2 c2 lv w hg hlen2 hok2 (hv2.b0 w hw)) fun y2 hy2=>⟨[_,_,_,_,_,_,_,_,_,_,_,_,_,_,_,_,_,_],rfl,kJ (L1:=[_,_]) [16,17] rfl rfl rfl,HY.f rfl fun b39=>⟨kJ (L1:=[_,_]) [17,18] rfl rfl rfl,HY.f rfl fun b40=>⟨kJ (L1:=[_,_]) [18,19] rfl rfl rfl,HY.h0 rfl fun X=>cq 1 (vs:=[_,_,_,_,_,_,_]) (C':=[_,_,_,_,_,_,_]) (L':=[_,_,_,_,_,_,_,_,_,_,_,_,_,_,_,_,_,_,_,_]++X) L8 rfl rfl rfl rfl rfl rfl rfl rfl<|⟨[_,_,_,_,_,_,_,_,_,_,_,_,_,_,_,_,_,_,_,_],rfl,kJ (L1:=[_,_]) [18,19] rfl rfl rfl,HY.h0 rfl fun X=>cq 0 (vs:=[_,_,_,_,_,_,_]) (C':=[_,_,_,_,_,_,_]) (L':=[_,_,_,_,_,_,_,_,_,_,_,_,_,_,_,_,_,_,_,_]++X) L8 rfl rfl rfl rfl rfl rfl rfl rfl<|⟨[_,_,_,_,_,_,_,_,_,_,_,_,_,_,_,_,_,_,_,_],rfl,kJ (L1:=[_,_]) [18,19] rfl rfl rfl,HY.nil ?_⟩⟩⟩⟩⟩⟩))
  refine aj<|av<|av<|VC.nF fun w1 hst1=>?_
  have hxa:fG w1 ⟨b39,0,none⟩ [.int .i64 g1.x,.int .i64 g1.y,.int .i64 g1.size,.int .i64 g1.wide,.int .i64 g1.high,.slice y1.p y1.l.length y1.c,.slice y1.po (gW g1*gH g1) y1.co]:=dQ (hst1.inv 1 _ rfl)
  have hS1:vO w1 y1 (mH (gW g1) (gH g1) (et v1 lv)):=vO.uq hst1 hy1 10 11 13 17 rfl rfl rfl rfl
  have hN1:=pL hy1
  have hxb:fG w1 ⟨b40,0,none⟩ [.int .i64 g1.x,.int .i64 g1.y,.int .i64 g1.size,.int .i64 g1.wide,.int .i64 g1.high,.slice y2.p y2.l.length y2.c,.slice y2.po (gW g1*gH g1) y2.co]:=dQ (hst1.inv 0 _ rfl)
  have hS2:vO w1 y2 (mH (gW g1) (gH g1) (et v2 lv)):=vO.uq hst1 hy2 2 3 5 9 rfl rfl rfl rfl
  have hN2:=pL hy2
  refine aM (ag rfl<|ag rfl<|ah (ig (.r rfl) (.r rfl)) rfl<|dK rfl<|ag rfl<|aK rfl (fun hg=>aS (.r rfl))<|aK rfl (fun hg=>aP (r:=5) za (.r rfl) rfl)<|aK rfl (fun hg=>aC WW (.g hg rfl) (bj (bI (off:=5) hxa ⟨_,rfl⟩)))<|aK rfl (fun hg=>bE Ec (.g hg rfl) rfl)<|aK rfl (fun hg=>LO.ge (.g hg rfl) (.g hg rfl))<|ah (cD (.r rfl) (.r rfl) rfl rfl) rfl<|ag rfl<|aK rfl (fun hg=>aS (.r rfl))<|aK rfl (fun hg=>aP (r:=5) za (.r rfl) rfl)<|aK rfl (fun hg=>aC WW (.g hg rfl) (bj (bI (off:=5) hxb ⟨_,rfl⟩)))<|aK rfl (fun hg=>bE Ec (.g hg rfl) rfl)<|aK rfl (fun hg=>LO.ge (.g hg rfl) (.g hg rfl))<|ah (cD (.r rfl) (.r rfl) rfl rfl) rfl<|aq<|ay rfl (fun h48=>?_) (fun h48=>?_))
  · (exfalso;(unfold nP at hi hj;omega))
  ·
   unfold nP at hi hj
   obtain⟨aa,haa⟩:=du (l:=y1.l) (n:=i) (by omega)
   obtain⟨bb,hbb⟩:=du (l:=y2.l) (n:=j) (by omega)
   refine aE (aj<|au (ah (aX (vs:=[_,_,_,_,_,_,_]) Pj (.r rfl) (bj (bI (off:=0) hxa ⟨_,rfl⟩)) rfl) rfl<|ag rfl<|ah (aX (vs:=[_,_,_,_,_,_,_]) Pj (.r rfl) (bj (bI (off:=0) hxb ⟨_,rfl⟩)) rfl) rfl<|ag rfl<|ag rfl<|aB rfl<|cd (xs:=[_,_,_,_,_]) (vs:=[_,_,_,_,_]) C57 ⟨(.r rfl),(.r rfl),(.r rfl),(.r rfl),(.r rfl),trivial⟩ (fun w hw=>Ip g1 y1 y2 _ _ i j r aa bb haa hbb w hg (hS1.b0 w hw) (hS2.b0 w hw) mR mR (tB hy1 (al haa)) (tB hy2 (al hbb)) (by omega)) fun y _=>aB rfl<|aW (LO.as (.r rfl))<|ax rfl<|aq<|be (dh (vs:=[_,_]) rfl ⟨rfl,rfl,trivial⟩ (fun w hw=>?_))))
   have hf:=hst1.call hw
   have em:ju g1 v1 v2 lv i j r=rp (gW g1) (gH g1) (aa.kr.map dw) (bb.kr.map dw) (mH (gW g1) (gH g1) (et v1 lv)) (mH (gW g1) (gH g1) (et v2 lv)) i j r:=by unfold ju;rw[yo hy1 haa,yo hy2 hbb]
   rw[←em]at hf
   exact⟨y,trivial,by rw[em];rfl,dq [0] rfl rfl _ hf⟩
theorem O4:jJ af 4:=⟨⟨_,jy,rfl⟩,by kernel_rfl⟩
theorem RW:dr af 147 (.agg #[.bool false,.int .i64 0]):=by unfold dr;kernel_rfl
theorem MJ:cP af 144 0 0:=⟨_,_,vz,rfl,rfl,0,by kernel_rfl⟩
theorem YR:jJ af 142:=⟨⟨_,vA,rfl⟩,by kernel_rfl⟩
theorem wh:lh af 147 2:=⟨⟨_,qs,rfl⟩,by kernel_rfl⟩
theorem KU:(af.info? 147).map (·.size)=some 2:=by kernel_rfl
theorem RY:lh af 144 1:=⟨⟨_,vz,rfl⟩,by kernel_rfl⟩
theorem C65:fh af 65:=⟨_,Tryz.func65,by decide,rfl⟩
abbrev Nd:=Bool×Int
abbrev nV:Nd→Value:=qI Value.bool je
abbrev vZ (n:Nat):Value:=.int .i64 (n:Int)
theorem KN:Oc af 147 nV:=Dw (yU jy O4) (tq dJ O3) ⟨_,_,qs,by decide,by decide,rfl,rfl,rfl,rfl,by kernel_rfl⟩
theorem ab6:NW af 147 4 3:=⟨_,_,qs,by decide,by decide,rfl,rfl,rfl,rfl,by kernel_rfl⟩
theorem abw:af.eqGuardType af.depth 147=false:=by kernel_rfl
theorem YN:sq af 142 nV nV (false,0):=⟨147,147,vA,KN,RW⟩
theorem X9:sq af 148 nV vZ 0:=⟨147,3,vB,KN,Z3⟩
theorem pB {α δ:Type} {kE:α→Value} {vE:δ→Value} {b:Nat} {M:α→Option δ} {w0:World} {L:List dg} (h:(jr kE vE b M).inv w0):∀w,St (bs w0) L w→(jr kE vE b M).inv w:=fun w hw=>by
 obtain⟨es,c,h1,h2⟩:=h
 refine⟨es,c,?_,h2⟩
 have hb:b<w0.heap.size:=by
  rcases Nat.lt_or_ge b w0.heap.size with q|q
  ·exact q
  ·rw[Array.getElem?_eq_none q]at h1;cases h1
 exact(hw.fr b hb (fun f=>f)).trans h1
structure db where
 kd:Int
 fp:Option Addr
 fc:Nat
 f:List Nat
 tp:Option Addr
 tc:Nat
 t:List Nat
def db.z:db:=⟨0,none,0,[],none,0,[]⟩
def db.cells (e:db):List Value:=[.int .i64 e.kd,.slice e.fp e.f.length e.fc,.slice e.tp e.t.length e.tc]
def db.fR (e:db):dg:=own 3 1 e.fp e.fc (e.f.map nC)
def db.tR (e:db):dg:=own 3 1 e.tp e.tc (e.t.map nC)
def db.m (e:db):gF:=⟨e.kd,e.f,e.t⟩
def lM {α:Type} (A:α→Option Nat) (q:α) (l:List db):List db:=if(A q).isSome=true then l else l++[db.z]
theorem Dj {α:Type} [DecidableEq α] {M:α→Option α} {ld:α→α} {x y:α} (h:¬ld x=ld y):kB M (ld y) (ld x)=wU M ld x y:=(if_neg h).symm
theorem DZ {α:Type} [DecidableEq α] {M:α→Option α} {ld:α→α} {x y:α} (h:ld x=ld y):M=wU M ld x y:=(if_pos h).symm
theorem Gf (M:Nd→Option Nd) (ld:Nd→Nd) (x:Nd) (b:Nat) (w:World) (hM:(jr nV nV b M).inv w) (hF:Im M ld):
 Calls af 65 #[.agg #[.map (some b)],nV x] w fun e w'=>e= .returned (nV (ld x))∧St (bs w) [] w':=by
 obtain⟨r,hr⟩:=hF.jC
 refine enter (vs:=[_,_]) (env:=[(0,_),(1,_)]) Tryz.func65 rfl rfl rfl rfl ?_
 refine au (aB rfl<|c8 (C:=#[_]) rfl rfl fun b1=>aB rfl<|c8 (C:=#[_,_]) rfl rfl fun b2=>aB rfl<|cJ (C:=#[_,_]) RW rfl fun b3=>aq<|aD<|gw [1,0,2] rfl<|bS (α:=Nd) 1 (fun gx=>[]) [(2,_),(3,_),(4,_)] (fun gx=>[gq b2 (.cells #[.bool gx.1,.int .i64 gx.2] 147)]) (fun gx=>ld gx=ld x) (fun gx=>r gx) x (by rfl) (.cons rfl (.cons rfl (.cons rfl .nil))) (fun _ h=>h) ?_)
 rintro y hI
 refine aD<|au (bO (r:=0) MJ rfl<|cL 2 YR rfl rfl ⟨_,rfl⟩ rfl<|ah (aX (vs:=[_,_]) wh (.r rfl) (aF 0 rfl ⟨_,rfl⟩) rfl) rfl<|ah (LO.lkG (n:=y) YN (.r rfl) (.r rfl) (pB hM)) rfl<|ag rfl<|ah (cU (.r rfl) rfl) rfl<|ah (cU (.r rfl) rfl) rfl<|aB rfl<|cJ (C:=#[_,_]) RW rfl fun b4=>cu<|cq 0 (vs:=[_,_]) (C':=[_,_]) (L':=[_,_,_,_]) KU rfl rfl rfl rfl rfl rfl rfl rfl<|ax rfl<|aq<|av<|au (ag rfl<|ah (LO.not (.r rfl)) rfl<|aN ?_))
 refine aj<|ay rfl (fun h15=>?_) (fun h15=>?_)
 ·
  refine au (ah (aX (vs:=[_,_]) wh (.r rfl) (aF 1 rfl ⟨_,rfl⟩) rfl) rfl<|cu<|cq 2 (vs:=[_,_]) (C':=[_,_]) (L':=[_,_,_,_]) KU rfl rfl rfl rfl rfl rfl rfl rfl<|aq<|be (bA (dA (bA (dA (dh (vs:=[_]) rfl ⟨RV.agg (vs:=[_,_]) wh rfl (aF 2 rfl ⟨_,rfl⟩) rfl,trivial⟩ (fun w hw=>?_)))))))
  have hy:ld x=y:=by rw[←hI];exact hF.stay y (by simpa using h15)
  exact⟨by rw[hy];rfl,hw.nil⟩
 ·
  obtain⟨v,hv⟩:∃v,M y=some v:=mM.1 (by simpa using h15)
  refine aE (aj<|aM (ah (aX (vs:=[_,_]) wh (.r rfl) (aF 0 rfl ⟨_,rfl⟩) rfl) rfl<|cu<|cq 1 (vs:=[_,_]) (C':=[_,_]) (L':=[_,_,_,_]) KU rfl rfl rfl rfl rfl rfl rfl rfl<|aN<|bB<|aZ fun a w ha hw=>⟨((M y).getD (false,0)),(by rw[hv,gR,hF.go y v hv];exact hI),(by rw[hv,gR];exact hr y v hv),ha.sub (.cons rfl (.cons rfl (.cons rfl .nil))),hw.gY [1,2,3] rfl⟩))
theorem Vo (M:Nd→Option Nd) (ld:Nd→Nd) (x y:Nd) (b:Nat) (w:World) (hh:Has w [jr nV nV b M]) (hF:Im M ld):
 Calls af 63 #[.agg #[.map (some b)],nV x,nV y] w fun e w'=>e= .returned (.tuple #[])∧St ⟨w,mG [jr nV nV b M]⟩ [jr nV nV b (wU M ld x y)] w':=by
 refine oL (vs:=[_,_,_]) (env:=[(0,_),(1,_),(2,_)]) hh.enter Tryz.func63 rfl rfl rfl rfl ?_
 refine au (aB rfl<|c8 (C:=#[_]) rfl rfl fun b2=>aB rfl<|c8 (C:=#[_,_]) rfl rfl fun b3=>aB rfl<|c8 (C:=#[_,_]) rfl rfl fun b4=>aq<|av<|eC [[0,1,2,3],[0,2,3],[2,3]] [some 0,some 0,some 0,some 0,some 0,some 0,none,none] mixed (by kernel_rfl) rfl (aG (fun _ hJ=>aX (vs:=[_]) RY (.r rfl) (fun _ hw=>cN (hJ _ hw) 2 rfl ⟨_,rfl⟩) rfl) rfl<|aG (fun _ hJ=>aX (vs:=[_,_]) wh (.r rfl) (fun _ hw=>cN (hJ _ hw) 1 rfl ⟨_,rfl⟩) rfl) rfl<|aG (fun _ hJ=>bK (xs:=[_,_]) (vs:=[_,_]) C65 ⟨(.r rfl),(.r rfl),trivial⟩ (fun w2 hw=>Gf M ld x b w2 ((hJ _ hw).inv 3 _ rfl) hF)) rfl<|aG (fun _ hJ=>aX (vs:=[_]) RY (.r rfl) (fun _ hw=>cN (hJ _ hw) 2 rfl ⟨_,rfl⟩) rfl) rfl<|aG (fun _ hJ=>aX (vs:=[_,_]) wh (.r rfl) (fun _ hw=>cN (hJ _ hw) 0 rfl ⟨_,rfl⟩) rfl) rfl<|aG (fun _ hJ=>bK (xs:=[_,_]) (vs:=[_,_]) C65 ⟨(.r rfl),(.r rfl),trivial⟩ (fun w2 hw=>Gf M ld y b w2 ((hJ _ hw).inv 3 _ rfl) hF)) rfl<|dC<|dC<|fj) (az<|az<|az<|az<|az<|az<|hX<|cq 1 (vs:=[_,_]) (C':=[_,_]) (L':=[_,_,_,_]) KU rfl rfl rfl rfl rfl rfl rfl rfl<|⟨fun _ hw=>hw.gY [0,2,3] rfl,hX<|cq 0 (vs:=[_,_]) (C':=[_,_]) (L':=[_,_,_,_]) KU rfl rfl rfl rfl rfl rfl rfl rfl<|⟨fun _ hw=>hw.gY [2,3] rfl,fB ?_⟩⟩))
 refine aj<|au (ah (aX (vs:=[_,_]) wh (.r rfl) (aF 1 rfl ⟨_,rfl⟩) rfl) rfl<|ah (aX (vs:=[_,_]) wh (.r rfl) (aF 0 rfl ⟨_,rfl⟩) rfl) rfl<|ah (LO.neP (a:=ld x) (b:=ld y) (yU jy O4) (tq dJ O3) ab6 abw (.r rfl) (.r rfl)) rfl<|aq<|ay rfl (fun h14=>?_) (fun h14=>?_))
 ·
  refine aM (bO (r:=0) MJ rfl<|cL 2 YR rfl rfl ⟨_,rfl⟩ rfl<|ah (aX (vs:=[_,_]) wh (.r rfl) (aF 0 rfl ⟨_,rfl⟩) rfl) rfl<|ah (aX (vs:=[_,_]) wh (.r rfl) (aF 1 rfl ⟨_,rfl⟩) rfl) rfl<|cu<|HO.MD 3 (fun R=>[_,_,_,R]) (ld y) (ld x) YN (.r rfl) (.r rfl) (.r rfl) rfl (fun _=>rfl)<|aN<|VE.D5 (vs:=[]) rfl trivial (fun w hw=>?_))
  have hs:=dq [3] rfl rfl _ hw
  refine⟨rfl,?_⟩
  first |(rw[←Dj (by simpa using h14)];exact hs)|(rw[←DZ (by simpa using h14)];exact hs)
 ·
  refine aE (VE.D5 (vs:=[]) rfl trivial (fun w hw=>?_))
  have hs:=dq [3] rfl rfl _ hw
  refine⟨rfl,?_⟩
  first |(rw[←Dj (by simpa using h14)];exact hs)|(rw[←DZ (by simpa using h14)];exact hs)
theorem C64:fh af 64:=⟨_,Tryz.func64,by decide,rfl⟩
theorem Yx:jJ af 148:=⟨⟨_,vB,rfl⟩,by kernel_rfl⟩
theorem Vk:jJ af 39:=⟨⟨_,wK,rfl⟩,by kernel_rfl⟩
theorem Am:ee af 39 70:=wK
theorem B70:fU af 70 [(0,1),(1,1),(2,1)] [.int .i64 0,.slice none 0 0,.slice none 0 0]:=lA fun _=>by kernel_rfl
theorem Wz:dr af 70 (.agg #[.int .i64 0,.slice none 0 0,.slice none 0 0]):=by unfold dr;kernel_rfl
theorem EO:(af.info? 70).map (·.size)=some 3:=by kernel_rfl
theorem I70:j6 af 70 3 56 (.agg #[.int .i64 0,.slice none 0 0,.slice none 0 0]):=⟨by kernel_rfl,by kernel_rfl,by unfold dr;kernel_rfl,rfl,by decide⟩
theorem N39:(af.info? 39).map (·.size)=some 1:=by kernel_rfl
abbrev tP (ba:Nat) (A:Nd→Option Nat) (bo:Nat) (po:Option Addr) (co:Nat) (l:List db):List dg:=[jr nV vZ ba A,gq bo (.cells #[.slice po l.length co] 39),own 70 3 po co (l.map db.cells)]
theorem VZ {A:Nd→Option Nat} {q:Nd} {l:List db} (h:A q=none):kB A q l.length=tM A q l.length∧l++[db.z]=lM A q l∧mS A q l.length=l.length:=by unfold tM lM mS;rw[h];exact⟨rfl,rfl,rfl⟩
theorem WD {A:Nd→Option Nat} {q:Nd} {l:List db} (h:¬A q=none):A=tM A q l.length∧l=lM A q l∧mS A q l.length=(A q).getD 0:=by
 unfold tM lM mS
 obtain⟨p,hp⟩:=mM.1 h
 rw[hp];exact⟨rfl,rfl,rfl⟩
theorem NT (M:Nd→Option Nd) (ld:Nd→Nd) (x:Nd) (bm bg ba bt bo:Nat) (A:Nd→Option Nat) (l:List db) (po:Option Addr) (co:Nat) (w:World) (hh:Has w (tP ba A bo po co l)) (hcap:∀{L:List dg} {v:World},St ⟨w,mG (tP ba A bo po co l)⟩ L v→fG v ⟨bg,0,none⟩ [.map (some bm)]∧(jr nV nV bm M).inv v∧fG v ⟨bt,0,none⟩ [.map (some ba)]) (hF:Im M ld) (hA:∀p,A (ld x)=some p→p<l.length) (hl:l.length≤1000000):
 Calls af 64 #[nV x,.pointer (some ⟨bg,0,none⟩),.pointer (some ⟨bt,0,none⟩),.pointer (some ⟨bo,0,none⟩)] w fun e w'=>∃y:B9,True∧e= .returned (.pointer (some ⟨pb y.p,Go.SL.po y.p+mS A (ld x) l.length*3,none⟩))∧St ⟨w,mG (tP ba A bo po co l)⟩ (tP ba (tM A (ld x) l.length) bo y.p y.c (lM A (ld x) l)) w':=by
 refine oL (vs:=[_,_,_,_]) (env:=[(0,_),(1,_),(2,_),(3,_)]) hh.enter Tryz.func64 rfl rfl rfl rfl ?_
 refine au (aB rfl<|c8 (C:=#[_,_]) rfl rfl fun b4=>ax rfl<|aq<|au (ah (aX (vs:=[_]) RY (.r rfl) (fun _ hw=>bI (off:=0) (hcap hw).1 ⟨_,rfl⟩) rfl) rfl<|ah (aX (vs:=[_,_]) wh (.r rfl) (aF 0 rfl ⟨_,rfl⟩) rfl) rfl<|ah (bK (xs:=[_,_]) (vs:=[_,_]) C65 ⟨(.r rfl),(.r rfl),trivial⟩ (fun w2 hw=>Gf M ld x bm w2 (hcap hw).2.1 hF)) rfl<|aB rfl<|cJ (C:=#[_,_]) RW rfl fun b5=>cu<|cq 0 (vs:=[_,_]) (C':=[_,_]) (L':=[_,_,_,_,_]) KU rfl rfl rfl rfl rfl rfl rfl rfl<|aq<|av ?_))
 refine aM (ah (aC Yx (.r rfl) (fun _ hw=>bI (off:=0) (hcap hw).2.2 ⟨_,rfl⟩)) rfl<|ah (aX (vs:=[_,_]) wh (.r rfl) (aF 0 rfl ⟨_,rfl⟩) rfl) rfl<|ah (LO.lkG (n:=(ld x)) X9 (.r rfl) (.r rfl) (fun _ hw=>hw.inv 2 _ rfl)) rfl<|ag rfl<|ah (cU (.r rfl) rfl) rfl<|ah (cU (.r rfl) rfl) rfl<|ax rfl<|ax rfl<|aq<|av<|au (ag rfl<|ah (LO.not (.r rfl)) rfl<|aq<|ay rfl (fun h19=>?_) (fun h19=>?_)))
 ·
  obtain⟨e1,e2,e3⟩:=VZ (l:=l) (q:=ld x) (A:=A) (by simpa using h19)
  have hkl:l.length<(l++[db.z]).length:=by simp
  refine au (cL 3 Vk rfl rfl ⟨_,rfl⟩ rfl<|ah (bE Am (.r rfl) rfl) rfl<|ax rfl<|aq<|au (ah (aC Yx (.r rfl) (fun _ hw=>bI (off:=0) (hcap hw).2.2 ⟨_,rfl⟩)) rfl<|ah (aX (vs:=[_,_]) wh (.r rfl) (aF 0 rfl ⟨_,rfl⟩) rfl) rfl<|ag rfl<|cu<|HO.MD 2 (fun R=>[_,_,R,_,_]) (ld x) l.length X9 (.r rfl) (.r rfl) (.r rfl) rfl (fun _=>rfl)<|aq<|aM (cL 3 Vk rfl rfl ⟨_,rfl⟩ rfl<|ah (fA (ps:=[]) (vs:=[]) (C:=[_,_,_]) B70 trivial rfl rfl) rfl<|aB rfl<|eW (ps:=[(_,_)]) (vs:=[(_,_)]) (Z:=[_,_,_]) (C:=[_,_,_]) Am Wz EO ⟨(.r rfl),trivial⟩ rfl rfl rfl rfl ⟨_,[_,_,_],[_,_,_],rfl,rfl,rfl,rfl,rfl⟩ fun b7=>aB rfl<|eP (db.z) 5 0 (fun R=>[_,_,_,_,_,R]) Am Am I70 (.r rfl) (.r rfl) rfl rfl rfl rfl rfl rfl rfl (fun _=>rfl) rfl (by omega) fun p3 c3=>cu<|cq 4 (vs:=[_]) (C':=[_]) (L':=[_,_,_,_,_,_]) N39 rfl rfl rfl rfl rfl rfl rfl rfl<|aN ?_)))
  refine aj<|au (cL 4 Vk rfl rfl ⟨_,rfl⟩ rfl<|ag rfl<|ah (cy Am EO (fun _ hw=>(bL hw 5 rfl).some (by rw[ak])) (.r rfl) (.r rfl) (j:=mS A (ld x) l.length) (by rw[e3]) (by rw[e3];omega)) rfl<|ax rfl<|aq<|be (dP rfl rfl (fun w hw=>?_)))
  have hs:=dq [3,4,5] rfl rfl _ hw
  refine⟨⟨p3,c3⟩,trivial,?_,?_⟩
  ·rw[e3];rfl
  ·rw[←e1, ←e2];exact hs
 ·
  obtain⟨e1,e2,e3⟩:=WD (l:=l) (q:=ld x) (A:=A) (by simpa using h19)
  obtain⟨pk,hpk⟩:=mM.1 (show ¬A (ld x)=none by simpa using h19)
  have hkl:=hA pk hpk
  rw[show pk=(A (ld x)).getD 0 by rw[hpk];rfl]at hkl
  refine aE (aj<|au (cL 3 Vk rfl rfl ⟨_,rfl⟩ rfl<|ag rfl<|ah (cy Am EO (fun _ hw=>(bL hw 4 rfl).some (by rw[ak])) (.r rfl) (.r rfl) (j:=mS A (ld x) l.length) (by rw[e3]) (by rw[e3];omega)) rfl<|ax rfl<|aq<|be (dP rfl rfl (fun w hw=>?_))))
  have hs:=dq [2,3,4] rfl rfl _ hw
  refine⟨⟨po,co⟩,trivial,?_,?_⟩
  ·rw[e3];rfl
  ·rw[←e1, ←e2];exact hs
theorem C63:fh af 63:=⟨_,Tryz.func63,by decide,rfl⟩
theorem ack:fU af 144 [(0,1)] [.map none]:=lA fun _=>by kernel_rfl
theorem acm:dr af 144 (.agg #[.map none]):=by unfold dr;kernel_rfl
theorem ab8:(af.info? 144).map (·.size)=some 1:=by kernel_rfl
theorem Q5:fU af 147 [(0,1),(1,1)] [.bool false,.int .i64 0]:=lA fun _=>by kernel_rfl
theorem acC:dr af 148 (.map none):=by unfold dr;kernel_rfl
theorem abj:(af.info? 148).map (·.size)=some 1:=by kernel_rfl
theorem Z39:dr af 39 (.slice none 0 0):=by unfold dr;kernel_rfl
theorem yW:cP af 70 1 1:=⟨_,_,nZ,rfl,rfl,0,by kernel_rfl⟩
theorem yV:cP af 70 2 2:=⟨_,_,nZ,rfl,rfl,0,by kernel_rfl⟩
theorem YY:lh af 70 3:=⟨⟨_,nZ,rfl⟩,by kernel_rfl⟩
theorem C66:fh af 66:=⟨_,Tryz.func66,by decide,rfl⟩
theorem wY:cP af 70 0 0:=⟨_,_,nZ,rfl,rfl,0,by kernel_rfl⟩
theorem SB {A:Nd→Option Nat} {q:Nd} {l:List db}:(lM A q l).map db.m=if(A q).isSome=true then l.map db.m else l.map db.m++[⟨0,[],[]⟩]:=by unfold lM;split<;>simp [db.z,db.m]
theorem Bi {A:Nd→Option Nat} {q:Nd} {l:List db} (h:∀p,A q=some p→p<l.length):∃e,(lM A q l)[mS A q l.length]? =some e:=by
 unfold lM mS
 cases hq:A q with
 |some p=>simp only[Option.isSome_some,if_true,gR];exact⟨_,aw (h p hq)⟩
 |none=>simp only[Option.isSome_none,Bool.false_eq_true,if_false,Option.getD_none];exact⟨db.z,by simp⟩
theorem Sx {l:List db} {k n t:Nat} {e e':db} (h:l[k]? =some e) (he:e'.m=tX n t e.m):(l.set k e').map db.m=(l.map db.m).modify k (tX n t):=by
 refine cM fun i=>?_
 rw[aI,jE,aI,eQ]
 by_cases q:k=i
 ·subst q
  obtain⟨hl,_⟩:=an.1 h
  rw[if_pos rfl,if_pos hl,h]
  simp [he]
 ·rw[if_neg q];cases l[i]? <;>simp [q]
theorem Jh {κ:Nat→Nd} {n t:Nat} {A:Nd→Option Nat} {l:List db} {e e':db} (h:KI κ n t A (l.map db.m)) (hg:(lM A (κ t) l)[mS A (κ t) l.length]? =some e) (he:e'.m=tX n t e.m):
  KI κ n (t+1) (tM A (κ t) l.length) (((lM A (κ t) l).set (mS A (κ t) l.length) e').map db.m):=by
 rw[Sx hg he,SB]
 have:=h.step
 rw[ak]at this
 exact this
theorem FN {κ:Nat→Nd} {t:Nat}:(gE κ t).length≤t:=by unfold gE;refine dE (cE _ _) ?_;simp
theorem Gi {κ:Nat→Nd} {n t:Nat} {A:Nd→Option Nat} {l:List db} (h:KI κ n t A (l.map db.m)):l.length≤t:=by
 have:=congrArg List.length h.l
 rw[ak]at this
 rw[this];unfold BP;rw[ak];exact FN
theorem IE {κ:Nat→Nd} {n t:Nat} {A:Nd→Option Nat} {l:List db} (h:KI κ n t A (l.map db.m)) {q:Nd} {p:Nat} (hp:A q=some p):p<l.length:=by have:=h.lt hp;rwa [ak]at this
theorem SR {κ:Nat→Nd} {n t k:Nat}:(rU κ n t k).f.length≤t∧(rU κ n t k).t.length≤t:=by
 unfold rU;constructor
 ·refine dE (cE _ _) ?_;simp;omega
 ·refine dE (cE _ _) ?_;simp
theorem FF {κ:Nat→Nd} {n t:Nat} {A:Nd→Option Nat} {l:List db} (h:KI κ n t A (l.map db.m)) {q:Nd} {k:Nat} {e:db} (he:(lM A q l)[k]? =some e):e.f.length≤t∧e.t.length≤t:=by
 have key:∀e,e∈l→e.f.length≤t∧e.t.length≤t:=fun e he=>by
  have h1:e.m∈BP κ n t:=by rw[←h.l];exact bw he
  obtain⟨k,_,hk⟩:=bN.1 h1
  have h2:=SR (κ:=κ) (n:=n) (t:=t) (k:=k)
  rw[hk]at h2;exact h2
 have h1:=al he
 unfold lM at h1
 split at h1
 ·exact key e h1
 ·rcases List.mem_append.1 h1 with g|g
  ·exact key e g
  ·have:=List.mem_singleton.1 g;subst this;simp [db.z]
theorem T5 {β:Bs} {L:List dg} {w:World} {f:db→dg} (hf:f db.z=own 3 1 none 0 []) (A:Nd→Option Nat) (q:Nd) (l:List db) (h:St β (bV (l.map f)::L) w):St β (bV ((lM A q l).map f)::L) w:=by
 unfold lM
 split
 ·exact h
 ·refine St.bV ?_
  rw[bG,List.map_singleton,hf]
  refine((St.uk h).fX 3 1).perm ?_
  rw[dk]
  exact(List.perm_middle (l₁:=l.map f) (l₂:=L) (a:=own 3 1 none 0 [])).symm
def Cc (e:db):db:={ e with kd:=iR e.f.length e.t.length }
def rT (l:List db) (k:Nat):List db:=(l.take k).map Cc++l.drop k
theorem Bt {l:List db}:rT l l.length=l.map Cc:=by unfold rT;simp
theorem Bj {l:List db} {k:Nat}:(rT l k).length=l.length:=by unfold rT;simp;omega
theorem J7 {l:List db} {k:Nat} {e:db} (h:l[k]? =some e):(rT l k).set k (Cc e)=rT l (k+1):=by
 obtain⟨hk,rfl⟩:=an.1 h
 unfold rT
 rw[List.set_append,if_neg (by simp;omega),List.take_succ_eq_append_getElem hk,bG,dk]
 congr 1
 rw[List.drop_eq_getElem_cons hk,show k-(List.map Cc (List.take k l)).length=0 by simp;omega]
 rfl
theorem A7 {l:List db} {k:Nat} {e:db} (h:l[k]? =some e):(rT l k)[k]? =some e:=by
 obtain⟨hk,rfl⟩:=an.1 h
 unfold rT
 rw[List.getElem?_append_right (by simp;omega)]
 simp [Nat.min_eq_left (Nat.le_of_lt hk)]
theorem I9 {l:List db} {k:Nat} {f:db→dg} (hf:∀e,f (Cc e)=f e):(rT l k).map f=l.map f:=by
 unfold rT
 rw[bG,dV]
 have:(f∘Cc)=f:=funext hf
 rw[this, ←bG,List.take_append_drop]
theorem Pl {κ:Nat→Nd} {n m:Nat} {A:Nd→Option Nat} {l:List db} (h:KI κ n (n+m) A (l.map db.m)):(l.map Cc).map db.m=uc κ n m:=by
 unfold uc
 rw[←h.l,dV,dV]
 rfl
theorem Vq {κ:Nat→Nd} {n m:Nat} {A:Nd→Option Nat} {l:List db} (h:KI κ n (n+m) A (l.map db.m)) {e:db} (he:e∈l):0<e.f.length+e.t.length:=by
 have h1:e.m∈BP κ n (n+m):=by rw[←h.l];exact bw he
 obtain⟨k,hk,hk2⟩:=bN.1 h1
 have hk:=(jS.1 hk).1
 have e1:e.f=(rU κ n (n+m) k).f:=congrArg gF.f hk2.symm
 have e2:e.t=(rU κ n (n+m) k).t:=congrArg gF.t hk2.symm
 by_cases q:k<n
 ·have:k∈e.f:=by rw[e1];unfold rU;exact bR.2 ⟨a8.2 (by omega),by simp⟩
  have:=j5 this;omega
 ·have:k-n∈e.t:=by rw[e2];unfold rU;exact bR.2 ⟨a8.2 (by omega),by simp [show n+(k-n)=k by omega]⟩
  have:=j5 this;omega
theorem M4 {β:Bs} {L:List dg} {w:World} {f1 f2:db→dg} (h1:f1 db.z=own 3 1 none 0 []) (h2:f2 db.z=own 3 1 none 0 []) (A:Nd→Option Nat) (q:Nd) (l:List db) (h:St β (bV (l.map f1)::bV (l.map f2)::L) w):St β (bV ((lM A q l).map f1)::bV ((lM A q l).map f2)::L) w:=
 (T5 h2 A q l ((T5 h1 A q l h).perm (sY _ _ _))).perm (sY _ _ _)
theorem SD {l:List db} {ix c:Nat} {p:Option Addr} {e:db} {t:Nat}:(l.map db.cells).set ix ((db.cells e).take 1++[.slice p (e.f++[t]).length c]++(db.cells e).drop (1+[il p (e.f++[t]).length c].length))=(l.set ix { e with fp:=p,fc:=c,f:=e.f++[t] }).map db.cells:=by
 rw[iS]
 rfl
theorem QX {l:List db} {ix c:Nat} {p:Option Addr} {e:db} {t:Nat}:(l.map db.cells).set ix ((db.cells e).take 2++[.slice p (e.t++[t]).length c]++(db.cells e).drop (2+[il p (e.t++[t]).length c].length))=(l.set ix { e with tp:=p,tc:=c,t:=e.t++[t] }).map db.cells:=by
 rw[iS]
 rfl
theorem Sj {l:List db} {ix:Nat} {e:db}:(l.map db.cells).set ix ((db.cells e).take 0++[.int .i64 (iR e.f.length e.t.length)]++(db.cells e).drop (0+[cX .i64 (iR e.f.length e.t.length)].length))=(l.set ix (Cc e)).map db.cells:=by
 rw[iS]
 rfl
theorem Nj {l:List db} {ix c:Nat} {p:Option Addr} {e:db} {f:List Nat} (h:l[ix]? =some e):(l.set ix { e with fp:=p,fc:=c,f:=f }).map db.tR=l.map db.tR:=by
 refine cM fun i=>?_
 rw[aI,eQ,aI]
 by_cases q:ix=i
 ·subst q;rw[if_pos rfl,if_pos (an.1 h).1,h];rfl
 ·rw[if_neg q]
theorem Pz {l:List db} {ix c:Nat} {p:Option Addr} {e:db} {t:List Nat} (h:l[ix]? =some e):(l.set ix { e with tp:=p,tc:=c,t:=t }).map db.fR=l.map db.fR:=by
 refine cM fun i=>?_
 rw[aI,eQ,aI]
 by_cases q:ix=i
 ·subst q;rw[if_pos rfl,if_pos (an.1 h).1,h];rfl
 ·rw[if_neg q]
theorem WY (M:Nd→Option Nd) (ld:Nd→Nd) (x y:Nd) (b:Nat) (w:World) (hh:Has w [jr nV nV b M]) (hF:Im M ld):
 Calls af (63) #[.agg #[.map (some b)],nV x,nV y] w fun e w'=>∃u:Unit,True∧e= .returned (.tuple #[])∧St ⟨w,mG [jr nV nV b M]⟩ [jr nV nV b (wU M ld x y)] w':=(Vo M ld x y b w hh hF).mono fun e w' h=>⟨(),trivial,h⟩
theorem vu {g:eo} (hg:dH g) {v u:Nat} (hv:v<gH g) (hu:u<gW g):∃q:Nat,(v:Int)*g.wide+(u:Int)=q∧q<gW g*gH g∧v*gW g+u=q:=by
 obtain⟨e1,e2,_⟩:=An hg
 refine⟨v*gW g+u,by rw[←e1];push_cast;rfl,?_,rfl⟩
 have:=vV hu hv
 rw[Nat.mul_comm]at this;exact this
structure qv where
 l:List db
 p:Option Addr
 c:Nat
def qv.R (y:qv):List dg:=[own 70 3 y.p y.c (y.l.map db.cells),bV (y.l.map db.fR),bV (y.l.map db.tR)]
theorem DI (g:eo) (ya yb:oV) (ofa ofb:List Int) (r:Nat) (w:World) (hg:dH g) (ha:vO w ya ofa) (hb:vO w yb ofb) (hla:ofa.length=gW g*gH g) (hlb:ofb.length=gW g*gH g) (hna:ya.l.length≤gW g*gH g) (hnb:yb.l.length≤gW g*gH g) (hr:r≤8):
 Calls af 32 #[R6 g ya,R6 g yb,.int .i64 (r:Int)] w fun e w'=>∃y:qv,Oo (gW g) (gH g) r ofa ofb ya.l.length yb.l.length (y.l.map db.m)∧e= .returned (.slice y.p y.l.length y.c)∧St (bs w) y.R w':=by
 have har:=iM hg
 obtain⟨hW,hH,hW1,hW2,hH1,hH2⟩:=An hg
 have hsa:jR ya.po (gW g*gH g):=by have z:=ha.of.sm;rw[hla]at z;exact z
 have hsb:jR yb.po (gW g*gH g):=by have z:=hb.of.sm;rw[hlb]at z;exact z
 obtain⟨n_,hn_⟩:∃n,n=ya.l.length:=⟨_,rfl⟩
 obtain⟨m_,hm_⟩:∃n,n=yb.l.length:=⟨_,rfl⟩
 refine enter (vs:=[_,_,_]) (env:=[(0,_),(1,_),(2,_)]) Tryz.func32 rfl rfl rfl rfl ?_
 refine au (aB rfl<|c8 (C:=#[_,_,_,_,_,_,_]) rfl rfl fun b1=>aB rfl<|c8 (C:=#[_,_,_,_,_,_,_]) rfl rfl fun b2=>ax rfl<|aq<|au (aB rfl<|HO.yG nV nV fun b3=>aB rfl<|aW (fA (ps:=[(_,_)]) (vs:=[(_,_)]) (C:=[_]) ack ⟨(.r rfl),trivial⟩ rfl ⟨_,[_],[_],rfl,rfl,rfl,rfl,rfl⟩)<|aB rfl<|cJ (C:=#[_]) acm rfl fun b4=>cu<|cq 0 (vs:=[_]) (C':=[_]) (L':=[_,_,_,_]) ab8 rfl rfl rfl rfl rfl rfl rfl rfl<|aq<|av ?_))
 refine au (bO (r:=6) Ng rfl<|cL 3 iL rfl rfl ⟨_,rfl⟩ rfl<|ah (bE fk (.r rfl) rfl) rfl<|ag rfl<|aq<|aD<|gw [1,0,2,3] rfl<|bS (α:=Nat×(Nd→Option Nd)) 1 (fun gx=>[(29,.int .i64 (gx.1:Nat))]) [(2,_),(3,_),(4,_),(7,_),(27,_),(28,_)] (fun gx=>[jr nV nV b3 gx.2]) (fun gx=>gx.1≤gW g*gH g∧mg (Jw (gW g) (gH g) r ofa ofb gx.1 0 0) gx.2) (fun gx=>gW g*gH g-gx.1) (0,(fun _=>none)) (by exact⟨aY _,mg.zero⟩) (.c4 rfl rfl rfl rfl (.cons rfl (.cons rfl (.cons rfl .nil)))) (fun _ h=>h) ?_)
 rintro ⟨p,M⟩ ⟨hp,hG⟩
 show VC _ _ _ _ _ ([(29,.int .i64 (p:Nat))]++_) ([jr nV nV b3 M]++_) _ _
 dsimp only at hp hG
 refine au (dK rfl<|aq<|av<|ay rfl (fun h30=>?_) (fun h30=>?_))
 ·
  refine aE (aj<|av<|aD<|au (ag rfl<|ah (bM fk N3 hsa (.r rfl) (.r rfl) rfl (by omega)) rfl<|ah (aC O3 (.r rfl) (fun w hw=>aA (off:=0) ((fun w3 h3=>cY (ha.of.b0 w3 h3) (Cs (n:=p) (by omega))) w hw) ⟨_,rfl⟩)) rfl<|ax rfl<|ax rfl<|aq<|av ?_))
  refine au (ag rfl<|dK rfl<|aq<|ay rfl (fun h35=>?_) (fun h35=>?_))
  ·
   refine bU (aH (cB (aj<|aM (da rfl rfl (by omega) (by omega) rfl<|ag rfl<|aN<|aZ fun a w ha hw=>⟨(p+1,M),⟨by dsimp only;omega,hG.skip h35⟩,(by dsimp only;omega),ha.sub (.c4 rfl rfl rfl rfl (.cons rfl (.cons rfl (.cons rfl .nil)))),hw⟩))))
  ·
   have hpd:=nE hg (p:=p) (by omega)
   have hpr:p%gW g<gW g:=jW _ (by omega)
   have hpy:p / gW g<gH g:=uu (by omega)
   refine aE (aj<|av<|VC.draw mixed (LL.m rfl<|bl (aP (r:=0) tU (.r rfl) rfl) rfl<|bl (aP (r:=3) iQ (.r rfl) rfl) rfl<|bl (aC O3 (.r rfl) (aF 3 rfl ⟨_,rfl⟩)) rfl<|bl (eN (LO.rem (.r rfl) (.r rfl) (by omega)) (congrArg (cX .i64) (sK hg p))) rfl<|LL.m rfl<|bl (aP (r:=0) tU (.r rfl) rfl) rfl<|bl (aP (r:=3) iQ (.r rfl) rfl) rfl<|bl (aC O3 (.r rfl) (aF 3 rfl ⟨_,rfl⟩)) rfl<|bl (eN (LO.quo (.r rfl) (.r rfl) (by omega) (wi (by rw[jB hg];have:=nE hg (p:=p) (by omega);omega) (by rw[jB hg];have:=nE hg (p:=p) (by omega);omega))) (congrArg (cX .i64) (jB hg p))) rfl<|bl (LO.as (.r rfl)) rfl<|bl (LO.as (.r rfl)) rfl<|LL.nil) (by kernel_rfl)<|aj<|au (ag rfl<|ag rfl<|ah (gz (.r rfl) (.r rfl) (wi (by omega) (by omega))) rfl<|ah (LO.max (.r rfl) (.r rfl)) rfl<|ax rfl<|aq ?_))
   refine aD<|bS (α:=Nat×(Nd→Option Nd)) 1 (fun gx=>[(12,.int .i64 (gx.1:Nat))]) [(2,_),(3,_),(4,_),(7,_),(9,_),(10,_),(11,_),(27,_),(28,_),(29,_)] (fun gx=>[jr nV nV b3 gx.2]) (fun gx=>p / gW g-r≤gx.1∧mg (Jw (gW g) (gH g) r ofa ofb p gx.1 0) gx.2) (fun gx=>gH g-gx.1) ((p / gW g-r),M) (by exact⟨Nat.le_refl _,hG.row⟩) (.cons (congrArg (fun z:Int=>some (cX .i64 z)) (show max (0:Int) (((p / gW g:Nat):Int)-(r:Int))=((p / gW g-r:Nat):Int) by omega)) (.c4 rfl rfl rfl rfl (.c4 rfl rfl rfl rfl (.cons rfl (.cons rfl .nil))))) (fun _ h=>h) ?_
   rintro ⟨v,M2⟩ ⟨hv,hG2⟩
   show VC _ _ _ _ _ ([(12,.int .i64 (v:Nat))]++_) ([jr nV nV b3 M2]++_) _ _
   dsimp only at hv hG2
   refine av<|au (ag rfl<|bO (r:=0) tU rfl<|bO (r:=4) uH rfl<|cL 3 O3 rfl rfl ⟨_,rfl⟩ rfl<|ah (gz (.r rfl) (.r rfl) (wi (by omega) (by omega))) rfl<|ag rfl<|ag rfl<|da rfl rfl (by omega) (by omega) rfl<|ah (ig (.r rfl) (.r rfl)) rfl<|ah (LO.le (.r rfl) (.r rfl)) rfl<|aq<|ay rfl (fun h59=>?_) (fun h59=>?_))
   ·
    refine aE (aj<|av<|aD<|au (ag rfl<|ag rfl<|ah (gz (.r rfl) (.r rfl) (wi (by omega) (by omega))) rfl<|ah (LO.max (.r rfl) (.r rfl)) rfl<|ax rfl<|aq<|aD ?_))
    refine bS (α:=Nat×(Nd→Option Nd)) 1 (fun gx=>[(13,.int .i64 (gx.1:Nat))]) [(2,_),(3,_),(4,_),(7,_),(9,_),(10,_),(11,_),(12,_),(27,_),(28,_),(29,_)] (fun gx=>[jr nV nV b3 gx.2]) (fun gx=>p%gW g-r≤gx.1∧mg (Jw (gW g) (gH g) r ofa ofb p v gx.1) gx.2) (fun gx=>gW g-gx.1) ((p%gW g-r),M2) (by exact⟨Nat.le_refl _,hG2.col⟩) (.cons (congrArg (fun z:Int=>some (cX .i64 z)) (show max (0:Int) (((p%gW g:Nat):Int)-(r:Int))=((p%gW g-r:Nat):Int) by omega)) (.c4 rfl rfl rfl rfl (.c4 rfl rfl rfl rfl (.cons rfl (.cons rfl (.cons rfl .nil)))))) (fun _ h=>h) ?_
    rintro ⟨u,M3⟩ ⟨hu,hG3⟩
    show VC _ _ _ _ _ ([(13,.int .i64 (u:Nat))]++_) ([jr nV nV b3 M3]++_) _ _
    dsimp only at hu hG3
    refine av<|au (ag rfl<|bO (r:=0) tU rfl<|bO (r:=3) iQ rfl<|cL 3 O3 rfl rfl ⟨_,rfl⟩ rfl<|ah (gz (.r rfl) (.r rfl) (wi (by omega) (by omega))) rfl<|ag rfl<|ag rfl<|da rfl rfl (by omega) (by omega) rfl<|ah (ig (.r rfl) (.r rfl)) rfl<|ah (LO.le (.r rfl) (.r rfl)) rfl<|aq<|ay rfl (fun h75=>?_) (fun h75=>?_))
    ·
     obtain⟨q,hq1,hq2,hq3⟩:=vu hg (v:=v) (u:=u) (by omega) (by omega)
     subst hq3
     refine aE (aj<|av<|aD<|au (bO (r:=6) Ng rfl<|cL 2 iL rfl rfl ⟨_,rfl⟩ rfl<|ag rfl<|bO (r:=0) tU rfl<|bO (r:=3) iQ rfl<|cL 3 O3 rfl rfl ⟨_,rfl⟩ rfl<|ah (mw (.r rfl) (.r rfl) (wi (by omega) (by omega))) rfl<|ag rfl<|ah (eN (LO.add (.r rfl) (.r rfl) (wi (by omega) (by omega))) (congrArg (cX .i64) hq1)) rfl<|ah (bM fk N3 hsb (.r rfl) (.r rfl) rfl hq2) rfl<|ah (aC O3 (.r rfl) (fun w hw=>aA (off:=0) ((fun w3 h3=>cY (hb.of.b0 w3 h3) (Cs (n:=v*gW g+u) (by omega))) w hw) ⟨_,rfl⟩)) rfl<|ax rfl<|aq<|av ?_))
     refine aM (ag rfl<|ah (LO.ge (.r rfl) (.r rfl)) rfl<|aq<|ay rfl (fun h90=>?_) (fun h90=>?_))
     ·
      obtain⟨ld,hF,hld⟩:=hG3.ex
      refine aM (ah (aX (vs:=[_]) RY (.r rfl) (aF 1 rfl ⟨_,rfl⟩) rfl) rfl<|ag rfl<|ah (fA (ps:=[(_,_),(_,_)]) (vs:=[(_,_),(_,_)]) (C:=[_,_]) Q5 ⟨(.r rfl),(.r rfl),trivial⟩ rfl ⟨_,[_],[_,_],rfl,rfl,rfl,rfl,⟨_,[_],[_,_],rfl,rfl,rfl,rfl,rfl⟩⟩) rfl<|ag rfl<|ah (fA (ps:=[(_,_),(_,_)]) (vs:=[(_,_),(_,_)]) (C:=[_,_]) Q5 ⟨(.r rfl),(.r rfl),trivial⟩ rfl ⟨_,[_],[_,_],rfl,rfl,rfl,rfl,⟨_,[_],[_,_],rfl,rfl,rfl,rfl,rfl⟩⟩) rfl<|aB rfl<|HO.oU (first:=[]) (cap:=[]) (xs:=[_,_,_]) (vs:=[_,_,_]) [_] [_,_,_] (dq (L1:=[_]++[_,_,_]) [0,1,2,3] rfl rfl) (.r rfl) C63 ⟨(.r rfl),(.r rfl),(.r rfl),trivial⟩ (fun w hw hh=>WY M3 ld (false,ofa.getD p (-1)) (true,ofb.getD (v*gW g+u) (-1)) _ w hh hF) fun _u _=>aN<|bB (aj<|aM (ag rfl<|da rfl rfl (by omega) (by omega) rfl<|ax rfl<|aN<|aZ fun a w ha hw=>⟨(u+1,wU M3 ld (false,ofa.getD p (-1)) (true,ofb.getD (v*gW g+u) (-1))),⟨by dsimp only;omega,mg.join hF hld (by omega) (by omega) (by omega) (by omega) (by omega)⟩,(by dsimp only;omega),ha.sub (.c4 rfl rfl rfl rfl (.c4 rfl rfl rfl rfl (.c4 rfl rfl rfl rfl .nil))),hw⟩)))
     ·
      refine aE (bB (aj<|aM (ag rfl<|da rfl rfl (by omega) (by omega) rfl<|ax rfl<|aN<|aZ fun a w ha hw=>⟨(u+1,M3),⟨by dsimp only;omega,hG3.none_ (by omega)⟩,(by dsimp only;omega),ha.sub (.c4 rfl rfl rfl rfl (.c4 rfl rfl rfl rfl (.c4 rfl rfl rfl rfl .nil))),hw⟩)))
    ·
     refine bU (aH (aH (cB (bB (aj<|aM (ag rfl<|da rfl rfl (by omega) (by omega) rfl<|ax rfl<|aN<|aZ fun a w ha hw=>⟨(v+1,M3),⟨by dsimp only;omega,hG3.Wc (by omega)⟩,(by dsimp only;omega),ha.sub (.c4 rfl rfl rfl rfl (.c4 rfl rfl rfl rfl (.cons rfl (.cons rfl (.cons rfl .nil))))),hw⟩))))))
   ·
    refine bU (aH (aH (cB (bB (aj<|aM (da rfl rfl (by omega) (by omega) rfl<|ag rfl<|aN<|aZ fun a w ha hw=>⟨(p+1,M2),⟨by dsimp only;omega,hG2.V8 (by omega)⟩,(by dsimp only;omega),ha.sub (.c4 rfl rfl rfl rfl (.cons rfl (.cons rfl (.cons rfl .nil)))),hw⟩))))))
 ·
  have hpe:p=gW g*gH g:=by omega
  subst hpe
  refine bU (aH (aH (cB (aj<|av ?_))))
  obtain⟨ld,hF,hld⟩:=hG.all.ex
  refine VC.nF fun w1 hst1=>?_
  have hxa:fG w1 ⟨b1,0,none⟩ [.int .i64 g.x,.int .i64 g.y,.int .i64 g.size,.int .i64 g.wide,.int .i64 g.high,.slice ya.p ya.l.length ya.c,.slice ya.po (gW g*gH g) ya.co]:=dQ (hst1.inv 3 _ rfl)
  have hxb:fG w1 ⟨b2,0,none⟩ [.int .i64 g.x,.int .i64 g.y,.int .i64 g.size,.int .i64 g.wide,.int .i64 g.high,.slice yb.p yb.l.length yb.c,.slice yb.po (gW g*gH g) yb.co]:=dQ (hst1.inv 2 _ rfl)
  have hgb:fG w1 ⟨b4,0,none⟩ [.map (some b3)]:=dQ (hst1.inv 1 _ rfl)
  have hGM:(jr nV nV b3 M).inv w1:=hst1.inv 0 _ rfl
  refine aM (aB rfl<|HO.yG nV vZ fun b7=>aB rfl<|cJ (C:=#[_]) acC rfl fun b8=>cu<|cq 0 (vs:=[_]) (C':=[_]) (L':=[_,_]) abj rfl rfl rfl rfl rfl rfl rfl rfl<|aq<|au (aB rfl<|cJ (C:=#[_]) Z39 rfl fun b10=>aq<|au (aB rfl<|aW (LO.mf (cap:=[_,_,_]) ⟨(.r rfl),(.r rfl),(.r rfl),trivial⟩)<|aB rfl<|aW (LO.as (.r rfl))<|aN ?_)))
  refine aj<|av<|au (bO (r:=5) za rfl<|ah (aC WW (.r rfl) (bj (bI (off:=5) hxa ⟨_,rfl⟩))) rfl<|ah (bE Ec (.r rfl) rfl) rfl<|ag rfl<|aq<|aD<|gw [2,0,1] rfl ?_)
  refine bS (α:=Nat×(Nd→Option Nat)×(List db)×(Option Addr)×Nat) 2 (fun gx=>[(103,.int .i64 (gx.1:Nat))]) [(4,_),(16,_),(17,_),(102,_)] (fun gx=>[jr nV vZ b7 gx.2.1,gq b10 (.cells #[.slice gx.2.2.2.1 gx.2.2.1.length gx.2.2.2.2] 39),own 70 3 gx.2.2.2.1 gx.2.2.2.2 (gx.2.2.1.map db.cells),bV (gx.2.2.1.map db.fR),bV (gx.2.2.1.map db.tR)]) (fun gx=>gx.1≤n_∧KI (fun t=>ld (um n_ t)) n_ gx.1 gx.2.1 (gx.2.2.1.map db.m)) (fun gx=>n_-gx.1) (0,(fun _=>none),[],none,0) (by exact⟨aY _,KI.zero⟩) (.c4 rfl rfl rfl rfl (.cons rfl .nil)) (fun _ h=>(((St.bV (Rs:=[]) (St.bV (Rs:=[]) h)).fX 70 3)).gY [3,4,0,1,2,5] rfl) ?_
  rintro ⟨i,A,l,po,co⟩ ⟨hi,hK⟩
  show VC _ _ _ _ _ ([(103,.int .i64 (i:Nat))]++_) ([jr nV vZ b7 A,gq b10 (.cells #[.slice po l.length co] 39),own 70 3 po co (l.map db.cells),bV (l.map db.fR),bV (l.map db.tR)]++_) _ _
  dsimp only at hi hK
  refine au (dK rfl<|aq<|av<|ay rfl (fun h104=>?_) (fun h104=>?_))
  ·
   have hin:i<n_:=by omega
   have hki:=Gi hK
   refine aE (aj<|av<|aD<|au (ag rfl<|ax rfl<|aq<|av ?_))
   refine aM (ag rfl<|ag rfl<|ah (fA (ps:=[(_,_),(_,_)]) (vs:=[(_,_),(_,_)]) (C:=[_,_]) Q5 ⟨(.r rfl),(.r rfl),trivial⟩ rfl ⟨_,[_],[_,_],rfl,rfl,rfl,rfl,⟨_,[_],[_,_],rfl,rfl,rfl,rfl,rfl⟩⟩) rfl<|aB rfl<|HO.oU (first:=[]) (cap:=[_,_,_]) (xs:=[_]) (vs:=[_]) [_,_,_] [_,_,_] (dq (L1:=[_,_,_]++[_,_,_]) [0,1,2,3,4,5] rfl rfl) (.r rfl) C64 ⟨(.r rfl),trivial⟩ (fun w hw hh=>NT M ld (false,(i:Int)) b3 b4 b7 b8 b10 A l po co w hh (fun hs=>⟨bj hgb _ (iH (R:=tP b7 A b10 po co l) (rest:=[_,_,_]) (dq [0,1,2,3,4,5] rfl rfl _ hw) hs),pB hGM _ (iH (R:=tP b7 A b10 po co l) (rest:=[_,_,_]) (dq [0,1,2,3,4,5] rfl rfl _ hw) hs),dQ (St.inv (St.ln (iH (R:=tP b7 A b10 po co l) (rest:=[_,_,_]) (dq [0,1,2,3,4,5] rfl rfl _ hw) hs)) 2 _ rfl)⟩) hF (fun p hp=>IE hK hp) (by omega)) fun y1 _=>aB rfl<|aW (LO.as (.r rfl))<|aN ?_)
   rw[←Ow hin]
   obtain⟨e,heg⟩:=Bi (A:=A) (q:=ld (um n_ i)) (l:=l) (fun p hp=>IE hK hp)
   refine aj<|iv (L':=db.fR e::bV (((lM A (ld (um n_ (i))) l).eraseIdx (mS A (ld (um n_ (i))) l.length)).map db.fR)::bV ((lM A (ld (um n_ (i))) l).map db.tR)::[_,_,_,_]) (fun w hw=>St.rh (f:=db.fR) (M4 rfl rfl A (ld (um n_ (i))) l (dq [3,4,0,1,2,5] rfl rfl w hw)) heg) ?_
   show VC _ _ _ _ _ _ (own 3 1 e.fp e.fc (e.f.map nC)::_) _ _
   refine aM (ag rfl<|ag rfl<|ah (cV (.r rfl)) rfl<|bO yW rfl<|ah (aC iL (.r rfl) (fun w hw=>aA (off:=1) (cO hw 5 rfl heg) ⟨_,rfl⟩)) rfl<|ag rfl<|aB rfl<|eW (ps:=[(_,_)]) (vs:=[(_,_)]) (Z:=[_]) (C:=[_]) fk Z3 N3 ⟨(.r rfl),trivial⟩ rfl rfl rfl rfl ⟨_,[_],[_],rfl,rfl,rfl,rfl,rfl⟩ fun b19=>aB rfl<|eP (i) 1 0 (fun R=>[_,R,_,_,_,_,_,_]) fk fk I3 (.r rfl) (.r rfl) rfl rfl rfl rfl rfl rfl rfl (fun _=>rfl) rfl (by have:=FF hK heg;omega) fun p7 c7=>ah (cV (.r rfl)) rfl<|bO yW rfl<|cu<|HO.Qv 6 (fun R=>[_,_,_,_,_,_,R,_]) (o:=1) (vs:=[_]) qL (.r rfl) (.r rfl) rfl (oZ heg) rfl rfl (bz rfl) rfl (fun _=>rfl)<|aN ?_)
   rw[SD]
   refine bB (aj<|aM (da rfl rfl (by omega) (by omega) rfl<|ag rfl<|aN<|aZ fun a w ha hw=>⟨(i+1,tM A (ld (um n_ (i))) l.length,(lM A (ld (um n_ (i))) l).set (mS A (ld (um n_ (i))) l.length) { e with fp:=p7,fc:=c7,f:=e.f++[i] },y1.p,y1.c),⟨by dsimp only;omega,Jh hK heg (by unfold tX;rw[if_pos hin];rfl)⟩,(by dsimp only;omega),ha.sub (.c4 rfl rfl rfl rfl (.cons rfl .nil)),(by dsimp only;rw[eB,Nj heg];exact dq (L1:=[_,_,_,_,_,_]) [1,2,3,0,4,5] rfl rfl _ (St.nK (f:=db.fR) (a:={ e with fp:=p7,fc:=c7,f:=e.f++[i] }) (i:=(mS A (ld (um n_ (i))) l.length)) (dq (L1:=db.fR ({ e with fp:=p7,fc:=c7,f:=e.f++[i] })::[_,_,_,_,_,_]) [1,2,4,5,6,3,7] rfl rfl _ hw) (an.1 heg).1))⟩))
  ·
   have hie:i=n_:=by omega
   rw[hie]at hK
   refine bU (aH (aH (cB (aj<|av<|au (bO (r:=5) za rfl<|ah (aC WW (.r rfl) (bj (bI (off:=5) hxb ⟨_,rfl⟩))) rfl<|ah (bE Ec (.r rfl) rfl) rfl<|ag rfl<|aq<|aD<|bS (α:=Nat×(Nd→Option Nat)×(List db)×(Option Addr)×Nat) 5 (fun gx=>[(124,.int .i64 (gx.1:Nat))]) [(16,_),(17,_),(123,_)] (fun gx=>[jr nV vZ b7 gx.2.1,gq b10 (.cells #[.slice gx.2.2.2.1 gx.2.2.1.length gx.2.2.2.2] 39),own 70 3 gx.2.2.2.1 gx.2.2.2.2 (gx.2.2.1.map db.cells),bV (gx.2.2.1.map db.fR),bV (gx.2.2.1.map db.tR)]) (fun gx=>gx.1≤m_∧KI (fun t=>ld (um n_ t)) n_ (n_+gx.1) gx.2.1 (gx.2.2.1.map db.m)) (fun gx=>m_-gx.1) (0,A,l,po,co) (by exact⟨aY _,hK⟩) (.c4 rfl rfl rfl rfl .nil) (fun _ h=>h) ?_)))))
   rintro ⟨j,A,l,po,co⟩ ⟨hj,hK⟩
   show VC _ _ _ _ _ ([(124,.int .i64 (j:Nat))]++_) ([jr nV vZ b7 A,gq b10 (.cells #[.slice po l.length co] 39),own 70 3 po co (l.map db.cells),bV (l.map db.fR),bV (l.map db.tR)]++_) _ _
   dsimp only at hj hK
   refine au (dK rfl<|aq<|av<|ay rfl (fun h125=>?_) (fun h125=>?_))
   ·
    have hki:=Gi hK
    refine aE (aj<|av<|aD<|au (ag rfl<|ax rfl<|aq<|av ?_))
    refine aM (ag rfl<|ag rfl<|ah (fA (ps:=[(_,_),(_,_)]) (vs:=[(_,_),(_,_)]) (C:=[_,_]) Q5 ⟨(.r rfl),(.r rfl),trivial⟩ rfl ⟨_,[_],[_,_],rfl,rfl,rfl,rfl,⟨_,[_],[_,_],rfl,rfl,rfl,rfl,rfl⟩⟩) rfl<|aB rfl<|HO.oU (first:=[]) (cap:=[_,_,_]) (xs:=[_]) (vs:=[_]) [_,_,_] [_,_,_] (dq (L1:=[_,_,_]++[_,_,_]) [0,1,2,3,4,5] rfl rfl) (.r rfl) C64 ⟨(.r rfl),trivial⟩ (fun w hw hh=>NT M ld (true,(j:Int)) b3 b4 b7 b8 b10 A l po co w hh (fun hs=>⟨bj hgb _ (iH (R:=tP b7 A b10 po co l) (rest:=[_,_,_]) (dq [0,1,2,3,4,5] rfl rfl _ hw) hs),pB hGM _ (iH (R:=tP b7 A b10 po co l) (rest:=[_,_,_]) (dq [0,1,2,3,4,5] rfl rfl _ hw) hs),dQ (St.inv (St.ln (iH (R:=tP b7 A b10 po co l) (rest:=[_,_,_]) (dq [0,1,2,3,4,5] rfl rfl _ hw) hs)) 2 _ rfl)⟩) hF (fun p hp=>IE hK hp) (by omega)) fun y1 _=>aB rfl<|aW (LO.as (.r rfl))<|aN ?_)
    rw[←O6 (n:=n_)]
    obtain⟨e,heg⟩:=Bi (A:=A) (q:=ld (um n_ (n_+j))) (l:=l) (fun p hp=>IE hK hp)
    refine aj<|iv (L':=db.tR e::bV (((lM A (ld (um n_ (n_+j))) l).eraseIdx (mS A (ld (um n_ (n_+j))) l.length)).map db.tR)::bV ((lM A (ld (um n_ (n_+j))) l).map db.fR)::[_,_,_,_]) (fun w hw=>St.rh (f:=db.tR) (M4 rfl rfl A (ld (um n_ (n_+j))) l (dq [4,3,0,1,2,5] rfl rfl w hw)) heg) ?_
    show VC _ _ _ _ _ _ (own 3 1 e.tp e.tc (e.t.map nC)::_) _ _
    refine aM (ag rfl<|ag rfl<|ah (cV (.r rfl)) rfl<|bO yV rfl<|ah (aC iL (.r rfl) (fun w hw=>aA (off:=2) (cO hw 5 rfl heg) ⟨_,rfl⟩)) rfl<|ag rfl<|aB rfl<|eW (ps:=[(_,_)]) (vs:=[(_,_)]) (Z:=[_]) (C:=[_]) fk Z3 N3 ⟨(.r rfl),trivial⟩ rfl rfl rfl rfl ⟨_,[_],[_],rfl,rfl,rfl,rfl,rfl⟩ fun b25=>aB rfl<|eP (j) 1 0 (fun R=>[_,R,_,_,_,_,_,_]) fk fk I3 (.r rfl) (.r rfl) rfl rfl rfl rfl rfl rfl rfl (fun _=>rfl) rfl (by have:=FF hK heg;omega) fun p7 c7=>ah (cV (.r rfl)) rfl<|bO yV rfl<|cu<|HO.Qv 6 (fun R=>[_,_,_,_,_,_,R,_]) (o:=2) (vs:=[_]) qL (.r rfl) (.r rfl) rfl (oZ heg) rfl rfl (bz rfl) rfl (fun _=>rfl)<|aN ?_)
    rw[QX]
    refine bB (aj<|aM (da rfl rfl (by omega) (by omega) rfl<|ag rfl<|aN<|aZ fun a w ha hw=>⟨(j+1,tM A (ld (um n_ (n_+j))) l.length,(lM A (ld (um n_ (n_+j))) l).set (mS A (ld (um n_ (n_+j))) l.length) { e with tp:=p7,tc:=c7,t:=e.t++[j] },y1.p,y1.c),⟨by dsimp only;omega,Jh (t:=n_+j) hK heg (by unfold tX;rw[if_neg (by omega),show n_+j-n_=j by omega];rfl)⟩,(by dsimp only;omega),ha.sub (.c4 rfl rfl rfl rfl .nil),(by dsimp only;rw[eB,Pz heg];exact dq (L1:=[_,_,_,_,_,_]) [1,2,3,4,0,5] rfl rfl _ (St.nK (f:=db.tR) (a:={ e with tp:=p7,tc:=c7,t:=e.t++[j] }) (i:=(mS A (ld (um n_ (n_+j))) l.length)) (dq (L1:=db.tR ({ e with tp:=p7,tc:=c7,t:=e.t++[j] })::[_,_,_,_,_,_]) [1,2,4,5,6,3,7] rfl rfl _ hw) (an.1 heg).1))⟩))
   ·
    have hje:j=m_:=by omega
    rw[hje]at hK
    have hkl:=Gi hK
    refine bU (aH (aH (cB (aj<|av<|au (cL 1 Vk rfl rfl ⟨_,rfl⟩ rfl<|ah (bE Am (.r rfl) rfl) rfl<|ag rfl<|aq<|aD<|gw [2,0,1,3,4,5] rfl ?_)))))
    refine bS (α:=Nat) 1 (fun gx=>[(144,.int .i64 (gx:Nat))]) [(16,_),(142,_),(143,_)] (fun gx=>[own 70 3 po co ((rT l gx).map db.cells)]) (fun gx=>gx≤l.length) (fun gx=>l.length-gx) 0 (by exact aY _) (.c4 rfl rfl rfl rfl .nil) (fun _ h=>h) ?_
    rintro k hk
    refine au (dK rfl<|aq<|av<|ay rfl (fun h145=>?_) (fun h145=>?_))
    ·
     obtain⟨e,hek⟩:=du (l:=l) (n:=k) (by omega)
     have hepos:=Vq hK (al hek)
     have hkm:=FF (q:=ld (um n_ 0)) (k:=k) hK (by unfold lM;split;exact hek;rw[List.getElem?_append_left (by omega)];exact hek)
     refine aE (aj<|av<|aD<|au (ag rfl<|ah (cy Am EO (fun _ hw=>(bL hw 0 rfl).some (by rw[ak,Bj])) (.r rfl) (.r rfl) rfl (by omega)) rfl<|ah (aX (vs:=[_,_,_]) YY (.r rfl) (fun w hw=>aA (off:=0) (cO hw 0 rfl (A7 hek)) ⟨_,rfl⟩) rfl) rfl<|aB rfl<|cJ (C:=#[_,_,_]) Wz rfl fun b26=>ax rfl<|cu<|cq 0 (vs:=[_,_,_]) (C':=[_,_,_]) (L':=[_,_,_,_,_,_,_]) EO rfl rfl rfl rfl rfl rfl rfl rfl<|aq<|eC [[0,1,2,3,4,5,6],[0,2,3,4,5,6]] [some 0,some 0,some 0,some 0,some 0,some 0,some 0,some 0,some 0,some 0,some 0,none] mixed (by kernel_rfl) rfl (aG (fun _ hJ=>aC Vk (.r rfl) (fun _ hw=>cN (hJ _ hw) 3 rfl ⟨_,rfl⟩)) rfl<|cT rfl<|aG (fun _ hJ=>aP (r:=1) yW (.r rfl) rfl) rfl<|aG (fun _ hJ=>aC iL (.r rfl) (fun _ hw=>cN (hJ _ hw) 0 rfl ⟨_,rfl⟩)) rfl<|aG (fun _ hJ=>bE fk (.r rfl) rfl) rfl<|aG (fun _ hJ=>aP (r:=2) yV (.r rfl) rfl) rfl<|aG (fun _ hJ=>aC iL (.r rfl) (fun _ hw=>cN (hJ _ hw) 0 rfl ⟨_,rfl⟩)) rfl<|aG (fun _ hJ=>bE fk (.r rfl) rfl) rfl<|aG (fun _ hJ=>bK (xs:=[_,_]) (vs:=[_,_]) C66 ⟨(.r rfl),(.r rfl),trivial⟩ (fun w hw=>Wo e.f.length e.t.length w (by omega) (by omega) hepos)) rfl<|aG (fun _ hJ=>cy Am EO (fun _ hw=>(bL (hJ _ hw) 1 rfl).some (by rw[ak,Bj])) (.r rfl) (.r rfl) rfl (by omega)) rfl<|aG (fun _ hJ=>aP wY (.r rfl) rfl) rfl<|dC<|fj) (az<|az<|az<|az<|az<|az<|az<|az<|az<|az<|az<|hX<|HO.Qv 1 (fun R=>[_,R,_,_,_,_,_]) (o:=0) (vs:=[_]) N3 (.r rfl) (.r rfl) rfl (oZ (A7 hek)) rfl rfl (bz rfl) rfl (fun _=>rfl)<|⟨fun _ hw=>hw.gY [0,2,3,4,5,6] rfl,fB ?_⟩)))
     rw[Sj,J7 hek]
     refine bB (aj<|aM (da rfl rfl (by omega) (by omega) rfl<|ag rfl<|aN<|aZ fun a w ha hw=>⟨k+1,(by omega),(by omega),ha.sub (.c4 rfl rfl rfl rfl .nil),hw.gY [1,2,3,4,5,6] rfl⟩))
    ·
     refine bU (aH (aH (cB (aj<|au (cL 2 Vk rfl rfl ⟨_,rfl⟩ rfl<|ax rfl<|aq<|be (dP rfl rfl (fun w hw=>?_)))))))
     have hke:k=l.length:=by omega
     subst hke
     rw[Bt, ←I9 (l:=l) (k:=l.length) (f:=db.fR) (fun _=>rfl), ←I9 (l:=l) (k:=l.length) (f:=db.tR) (fun _=>rfl),Bt]at hw
     have hf:=hst1.call (dq (L1:=[_,_,_]) [0,3,4] rfl rfl _ hw)
     exact⟨⟨l.map Cc,po,co⟩,⟨ld,hld,by subst hn_;subst hm_;exact Pl hK⟩,by rw[ak];rfl,dq [0,1,2] rfl rfl _ hf⟩
theorem C32:fh af 32:=⟨_,Tryz.func32,by decide,rfl⟩
theorem yZ {W H:Nat} {vs:List Span} {lv:Int} {y:oV} (h:AR W H vs lv y):y.l.length≤W*H:=by rw[←pL h];exact kh
theorem Pm (g1:eo) (v1:List Span) (p1:Option Addr) (c1:Nat) (g2:eo) (v2:List Span) (p2:Option Addr) (c2:Nat) (lv:Int) (r:Nat) (w:World) (hv1:fL w p1 v1) (hv2:fL w p2 v2) (hpr:om g1 v1 g2 v2 lv r=0):
 Calls af 21 #[im g1 p1 v1.length c1,im g2 p2 v2.length c2,.int .i64 lv,.int .i64 (r:Int)] w fun e w'=>∃y:qv,Oo (gW g1) (gH g1) r (mH (gW g1) (gH g1) (et v1 lv)) (mH (gW g1) (gH g1) (et v2 lv)) (nP g1 v1 lv) (nP g1 v2 lv) (y.l.map db.m)∧e= .returned (.tuple #[.slice y.p y.l.length y.c,.int .i64 0])∧St (bs w) y.R w':=by
 obtain⟨hf1,hf2,rfl,hl1,hl2,hr1,hr2⟩:=My hpr
 obtain⟨hg,hlen1,hok1,_,_⟩:=oO (lT (lv:=lv) hf1 hl1 hl2)
 obtain⟨_,hlen2,hok2,_,_⟩:=oO (lT (lv:=lv) hf2 hl1 hl2)
 have har:=iM hg
 refine enter (vs:=[_,_,_,_]) (env:=[(0,_),(1,_),(2,_),(3,_)]) Tryz.func21 rfl rfl rfl rfl ?_
 refine au (aB rfl<|c8 (C:=#[_,_,_,_,_,_]) rfl rfl fun b1=>aB rfl<|c8 (C:=#[_,_,_,_,_,_]) rfl rfl fun b2=>ax rfl<|ax rfl<|aq<|av<|au (ah (aX (vs:=[_,_,_,_,_,_]) oy (.r rfl) (aF 1 rfl ⟨_,rfl⟩) rfl) rfl<|ah (aX (vs:=[_,_,_,_,_,_]) oy (.r rfl) (aF 0 rfl ⟨_,rfl⟩) rfl) rfl<|ag rfl<|ag rfl<|ah (bK (xs:=[_,_,_,_]) (vs:=[_,_,_,_]) C56 ⟨(.r rfl),(.r rfl),(.r rfl),(.r rfl),trivial⟩ (fun w hw=>Dz g1 v1 p1 c1 _ v2 p2 c2 lv (r:Int) w (hv1.b0 w hw) (hv2.b0 w hw))) rfl<|ax rfl<|aq ?_))
 refine au (ag rfl<|VO.u rfl<|aq<|ay rfl (fun h17=>?_) (fun h17=>?_))
 · (exfalso;exact h17 hpr)
 ·
  refine aE (aj<|av<|eC [[0,1],[0,1],[0,1],[0,1],[0,1]] [some 0,some 0,none,some 1,some 1,none,some 2,none,none,some 4] mixed (by kernel_rfl) rfl (aG (fun _ hJ=>aX (vs:=[_,_,_,_,_,_]) oy (.r rfl) (fun _ hw=>cN (hJ _ hw) 1 rfl ⟨_,rfl⟩) rfl) rfl<|cT rfl<|dC<|aG (fun _ hJ=>aX (vs:=[_,_,_,_,_,_]) oy (.r rfl) (fun _ hw=>cN (hJ _ hw) 0 rfl ⟨_,rfl⟩) rfl) rfl<|cT rfl<|dC<|cT rfl<|dC<|dC<|aG (fun _ hJ=>LO.as (.r rfl)) rfl<|fj) (az<|az<|ga rfl<|cd (xs:=[_,_]) (vs:=[_,_]) XG ⟨(.r rfl),(.r rfl),trivial⟩ (fun w hw=>nJ g1 v1 p1 c1 lv w hg hlen1 hok1 (hv1.b0 w hw)) fun y1 hy1=>⟨kJ (L1:=[_,_]) [8,9] rfl rfl rfl,az<|az<|ga rfl<|cd (xs:=[_,_]) (vs:=[_,_]) XG ⟨(.r rfl),(.r rfl),trivial⟩ (fun w hw=>nJ g1 v2 p2 c2 lv w hg hlen2 hok2 (hv2.b0 w hw)) fun y2 hy2=>⟨kJ (L1:=[_,_]) [16,17] rfl rfl rfl,az<|ga rfl<|cd (xs:=[_,_,_]) (vs:=[_,_,_]) C32 ⟨(.r rfl),(.r rfl),(.r rfl),trivial⟩ (fun w hw=>DI g1 y1 y2 _ _ r w hg (vO.uq hw hy1 8 9 11 15 rfl rfl rfl rfl) (vO.uq hw hy2 0 1 3 7 rfl rfl rfl rfl) mR mR (yZ hy1) (yZ hy2) (by omega)) fun y hy=>⟨kJ (L1:=[_,_]) [19,20] rfl rfl rfl,ga rfl<|aW (LO.as (.r rfl))<|⟨kJ (L1:=[_,_]) [19,20] rfl rfl rfl,az<|fB ?_⟩⟩⟩⟩))
  refine aj<|be (dh (vs:=[_,_]) rfl ⟨rfl,rfl,trivial⟩ (fun w hw=>?_))
  refine⟨y,?_,rfl,dq [0,1,2] rfl rfl _ hw⟩
  unfold nP;rw[pL hy1,pL hy2];exact hy
theorem tO:cP af 85 6 10:=⟨_,_,iE,rfl,rfl,0,by kernel_rfl⟩
theorem SA:jJ af 81:=⟨⟨_,l9,rfl⟩,by kernel_rfl⟩
theorem B85:fU af 85 [(0,5),(5,1),(6,1),(7,1),(8,1),(9,1),(10,1),(11,8)] [.int .i64 0,.int .i64 0,.int .i64 0,.int .i64 0,.int .i64 0,.int .i64 0,.int .i64 0,.int .i64 0,.slice none 0 0,.slice none 0 0,.map none,.int .i64 0,.int .i64 0,.int .i64 0,.int .i64 0,.int .i64 0,.int .i64 0,.int .i64 0,.int .i64 0]:=lA fun _=>by kernel_rfl
abbrev Ay:Int×Int→Value:=qI je je
theorem S95:NW af 95 3 3:=⟨_,_,oc,by decide,by decide,rfl,rfl,rfl,rfl,by kernel_rfl⟩
theorem KP:Oc af 95 Ay:=Dw (tq dJ O3) (tq dJ O3) S95
theorem XF:sq af 81 Ay vZ 0:=⟨95,3,l9,KP,Z3⟩
structure jk where
 g:eo
 lv:Int
 rc:Int
 bm:Nat
structure B1 where
 pm:Option Addr
 nm:Nat
 cm:Nat
abbrev uO (h:jk) (la:Int) (q:B1) (pt:Option Addr) (nt ct:Nat) (kd:Nat→Int):List Value:=[.int .i64 h.g.x,.int .i64 h.g.y,.int .i64 h.g.size,.int .i64 h.g.wide,.int .i64 h.g.high,.int .i64 h.lv,.int .i64 h.rc,.int .i64 la,.slice q.pm q.nm q.cm,.slice pt nt ct,.map (some h.bm),.int .i64 (kd 0),.int .i64 (kd 1),.int .i64 (kd 2),.int .i64 (kd 3),.int .i64 (kd 4),.int .i64 (kd 5),.int .i64 (kd 6),.int .i64 (kd 7)]
def KR (kd:Nat→Int) (j:Nat):Nat→Int:=fun i=>if i=j then kd i+1 else kd i
theorem VR {h:jk} {la:Int} {q:B1} {pt:Option Addr} {nt ct:Nat} {kd:Nat→Int} {j:Nat} (hj:j<8):∃r,(uO h la q pt nt ct kd).drop (11+j)=[.int .i64 (kd j)]++r:=by
 match j,hj with
 |0,_=>exact⟨_,rfl⟩
 |1,_=>exact⟨_,rfl⟩
 |2,_=>exact⟨_,rfl⟩
 |3,_=>exact⟨_,rfl⟩
 |4,_=>exact⟨_,rfl⟩
 |5,_=>exact⟨_,rfl⟩
 |6,_=>exact⟨_,rfl⟩
 |7,_=>exact⟨_,rfl⟩
theorem Vp {h:jk} {la:Int} {q:B1} {pt:Option Addr} {nt ct:Nat} {kd:Nat→Int} {j:Nat} (hj:j<8):(uO h la q pt nt ct kd).take (11+j)++[.int .i64 (kd j+1)]++(uO h la q pt nt ct kd).drop (11+j+1)=uO h la q pt nt ct (KR kd j):=by
 match j,hj with
 |0,_=>rfl
 |1,_=>rfl
 |2,_=>rfl
 |3,_=>rfl
 |4,_=>rfl
 |5,_=>rfl
 |6,_=>rfl
 |7,_=>rfl
structure cH where
 bg:Int
 fr:Nat
 ap:Option Addr
 ac:Nat
 ar:List Nat
 en:Int
 pp:Option Addr
 pc:Nat
 pa:List Nat
 cp:Option Addr
 cc:Nat
 ch:List Nat
def cH.cells (t:cH):List Value:=[.int .i64 t.bg,.int .i64 (t.fr:Int),.slice t.ap t.ar.length t.ac,.int .i64 t.en,.slice t.pp t.pa.length t.pc,.slice t.cp t.ch.length t.cc]
def cH.m (t:cH):fo:=⟨t.bg,t.fr,t.ar,t.en,t.pa,t.ch⟩
def cH.aR (t:cH):dg:=own 3 1 t.ap t.ac (t.ar.map nC)
def cH.pR (t:cH):dg:=own 3 1 t.pp t.pc (t.pa.map nC)
def cH.cR (t:cH):dg:=own 3 1 t.cp t.cc (t.ch.map nC)
def qK (of:Nat×Nat→Option Nat) (x:Int×Int):Option Nat:=if 0≤x.1∧0≤x.2 then of (x.1.toNat,x.2.toNat) else none
theorem va {of:Nat×Nat→Option Nat} {n i:Nat}:qK of ((n:Int),(i:Int))=of (n,i):=by unfold qK;rw[if_pos ⟨fW _,fW _⟩];rfl
theorem Jf {of:Nat×Nat→Option Nat} {n i k:Nat}:kB (qK of) ((n:Int),(i:Int)) k=qK (kB of (n,i) k):=by
 funext ⟨a,b⟩
 unfold kB qK
 by_cases h:0≤a∧0≤b
 ·simp only[if_pos h]
  by_cases e:(a,b)=((n:Int),(i:Int))
  ·have e1:a=n:=congrArg Prod.fst e
   have e2:b=i:=congrArg Prod.snd e
   subst e1;subst e2
   simp
  ·have e':¬(a.toNat,b.toNat)=(n,i):=fun z=>e (by
    have h1:a.toNat=n:=congrArg Prod.fst z
    have h2:b.toNat=i:=congrArg Prod.snd z
    have h3:a=n:=by omega
    have h4:b=i:=by omega
    rw[h3,h4])
   rw[if_neg e,if_neg e']
 ·simp only[if_neg h]
  rw[if_neg fun z=>h (by
   have e1:a=n:=congrArg Prod.fst z
   have e2:b=i:=congrArg Prod.snd z
   omega)]
theorem Ns:qK (fun _=>none)=fun _=>none:=by funext x;unfold qK;split<;>rfl
def mO (g:eo) (lv rc:Int):Int:=if kP g≠0 then kP g else if lv<1∨1073741824<lv∨rc<0∨8<rc then 3 else 0
theorem bE1 {g:eo} {lv rc:Int} (h:kP g≠0):kP g=mO g lv rc:=(if_pos h).symm
theorem bE2 {g:eo} {lv rc:Int} (h:¬kP g≠0) (k:lv<1∨1073741824<lv∨rc<0∨8<rc):3=mO g lv rc:=by unfold mO;rw[if_neg h,if_pos k]
theorem bE3 {g:eo} {lv rc:Int} (h:¬kP g≠0) (k:¬(lv<1∨1073741824<lv∨rc<0∨8<rc)):mO g lv rc=0:=by unfold mO;rw[if_neg h,if_neg k]
theorem yX {g:eo} {lv rc:Int} (h:mO g lv rc=0):dH g∧1≤lv∧lv≤1073741824∧0≤rc∧rc≤8:=by
 unfold mO at h
 split at h
 ·rename_i q;exact absurd h q
 ·rename_i q
  split at h
  ·omega
  ·refine⟨?_,by omega,by omega,by omega,by omega⟩
   have q:=eK.1 q
   unfold kP at q
   split at q
   ·assumption
   ·omega
theorem o6 (b:Nat) (h:jk) (la:Int) (q:B1) (pt:Option Addr) (nt ct:Nat) (kd:Nat→Int) (w:World) (hb:fG w ⟨b,0,none⟩ (uO h la q pt nt ct kd)):
 Calls af 27 #[.pointer (some ⟨b,0,none⟩)] w fun e w'=>e= .returned (.bool true)∧St (bs w) [] w':=by
 refine enter (vs:=[_]) (env:=[(0,_)]) Tryz.func27 rfl rfl rfl rfl ?_
 refine au (ax rfl<|aq<|au (ag rfl<|ah (LO.ab1 ⟨_,Tryz.underlying26⟩ (.r rfl) (.r rfl)) rfl<|ag rfl<|bh rfl (fun hg=>aS (.r rfl))<|bh rfl (fun hg=>cV (.g hg rfl))<|bh rfl (fun hg=>aP (r:=10) tO (.g hg rfl) rfl)<|bh rfl (fun hg=>aC SA (.g hg rfl) (bj (bI (off:=10) hb ⟨_,rfl⟩)))<|bh rfl (fun hg=>LO.neM ⟨_,_,l9⟩ (.g hg rfl) (.r rfl))<|ah (LO.qc (.r rfl) rfl rfl (.r rfl)) rfl<|ax rfl<|aq<|be (dP rfl rfl (fun w hw=>?_))))
 exact⟨rfl,hw.nil⟩
theorem Lb (g:eo) (lv rc:Int) (w:World) (hne:mO g lv rc≠0):
 Calls af 5 #[lL g,.int .i64 lv,.int .i64 rc] w fun e w'=>e= .returned (.tuple #[.pointer none,.int .i64 (mO g lv rc)])∧St (bs w) [] w':=by
 refine enter (vs:=[_,_,_]) (env:=[(0,_),(1,_),(2,_)]) Tryz.func5 rfl rfl rfl rfl ?_
 refine au (aB rfl<|c8 (C:=#[_,_,_,_,_]) rfl rfl fun b1=>ax rfl<|ax rfl<|aq<|av<|au (ah (aX (vs:=[_,_,_,_,_]) qw (.r rfl) (aF 0 rfl ⟨_,rfl⟩) rfl) rfl<|ah (bK (xs:=[_]) (vs:=[_]) C25 ⟨(.r rfl),trivial⟩ (fun w _=>sA g w)) rfl<|ax rfl<|aq ?_))
 refine au (ag rfl<|VO.u rfl<|aq<|ay rfl (fun h12=>?_) (fun h12=>?_))
 ·
  refine au (ag rfl<|ax rfl<|ax rfl<|aq<|be (bA (dh (vs:=[_,_]) rfl ⟨rfl,rfl,trivial⟩ (fun w hw=>?_))))
  refine⟨?_,hw.nil⟩
  refine congrArg (fun z=>bT (.tuple #[.pointer none,.int .i64 z])) ?_
  first |exact bE1 h12|exact bE2 h12 (by first |omega|(simp at h27;omega))
 ·
  refine aE (aj<|av<|au (ag rfl<|dK rfl<|ag rfl<|aK rfl (fun hg=>aS (.r rfl))<|aK rfl (fun hg=>gu (.g hg rfl) (.r rfl))<|ah (cD (.r rfl) (.r rfl) rfl rfl) rfl<|ag rfl<|aK rfl (fun hg=>aS (.r rfl))<|aK rfl (fun hg=>LO.lt (.g hg rfl) (.r rfl))<|ah (cD (.r rfl) (.r rfl) rfl rfl) rfl<|ag rfl<|aK rfl (fun hg=>aS (.r rfl))<|aK rfl (fun hg=>gu (.g hg rfl) (.r rfl))<|ah (cD (.r rfl) (.r rfl) rfl rfl) rfl<|aq<|ay rfl (fun h27=>?_) (fun h27=>?_)))
  ·
   refine au (ax rfl<|ax rfl<|aq<|be (bA (dh (vs:=[_,_]) rfl ⟨rfl,rfl,trivial⟩ (fun w hw=>?_))))
   refine⟨?_,hw.nil⟩
   refine congrArg (fun z=>bT (.tuple #[.pointer none,.int .i64 z])) ?_
   first |exact bE1 h12|exact bE2 h12 (by first |omega|(simp at h27;omega))
  · (exfalso;exact hne (bE3 h12 (by first |omega|(simp at h27;omega))))
theorem yY (g:eo) (lv rc:Int) (w:World) (hok:mO g lv rc=0):
 Calls af 5 #[lL g,.int .i64 lv,.int .i64 rc] w fun e w'=>∃y:Nat×Nat,True∧e= .returned (.tuple #[.pointer (some ⟨y.1,0,none⟩),.int .i64 0])∧St (bs w) [gq y.1 (.cells (uO ⟨g,lv,rc,y.2⟩ (-1) ⟨none,0,0⟩ none 0 0 (fun _=>0)).toArray 85),jr Ay vZ y.2 (qK fun _=>none)] w':=by
 refine enter (vs:=[_,_,_]) (env:=[(0,_),(1,_),(2,_)]) Tryz.func5 rfl rfl rfl rfl ?_
 refine au (aB rfl<|c8 (C:=#[_,_,_,_,_]) rfl rfl fun b1=>ax rfl<|ax rfl<|aq<|av<|au (ah (aX (vs:=[_,_,_,_,_]) qw (.r rfl) (aF 0 rfl ⟨_,rfl⟩) rfl) rfl<|ah (bK (xs:=[_]) (vs:=[_]) C25 ⟨(.r rfl),trivial⟩ (fun w _=>sA g w)) rfl<|ax rfl<|aq ?_))
 refine au (ag rfl<|VO.u rfl<|aq<|ay rfl (fun h12=>?_) (fun h12=>?_))
 · (exfalso;exact h12 (by have z:=yX hok;unfold kP;rw[if_pos z.1]))
 ·
  refine aE (aj<|av<|au (ag rfl<|dK rfl<|ag rfl<|aK rfl (fun hg=>aS (.r rfl))<|aK rfl (fun hg=>gu (.g hg rfl) (.r rfl))<|ah (cD (.r rfl) (.r rfl) rfl rfl) rfl<|ag rfl<|aK rfl (fun hg=>aS (.r rfl))<|aK rfl (fun hg=>LO.lt (.g hg rfl) (.r rfl))<|ah (cD (.r rfl) (.r rfl) rfl rfl) rfl<|ag rfl<|aK rfl (fun hg=>aS (.r rfl))<|aK rfl (fun hg=>gu (.g hg rfl) (.r rfl))<|ah (cD (.r rfl) (.r rfl) rfl rfl) rfl<|aq<|ay rfl (fun h27=>?_) (fun h27=>?_)))
  · (exfalso;have z:=yX hok;first |omega|(simp at h27;omega))
  ·
   refine aE (aj<|au (ah (aX (vs:=[_,_,_,_,_]) qw (.r rfl) (aF 0 rfl ⟨_,rfl⟩) rfl) rfl<|ag rfl<|ag rfl<|aB rfl<|HO.yG Ay vZ fun b2=>aB rfl<|aW (fA (ps:=[(_,_),(_,_),(_,_),(_,_),(_,_)]) (vs:=[(_,_),(_,_),(_,_),(_,_),(_,_)]) (C:=[_,_,_,_,_,_,_,_,_,_,_,_,_,_,_,_,_,_,_]) B85 ⟨(.r rfl),(.r rfl),(.r rfl),(.r rfl),(.r rfl),trivial⟩ rfl ⟨_,[_,_,_,_,_],[_,_,_,_,_,_,_,_,_,_,_,_,_,_,_,_,_,_,_],rfl,rfl,rfl,rfl,⟨_,[_],[_,_,_,_,_,_,_,_,_,_,_,_,_,_,_,_,_,_,_],rfl,rfl,rfl,rfl,⟨_,[_],[_,_,_,_,_,_,_,_,_,_,_,_,_,_,_,_,_,_,_],rfl,rfl,rfl,rfl,⟨_,[_],[_,_,_,_,_,_,_,_,_,_,_,_,_,_,_,_,_,_,_],rfl,rfl,rfl,rfl,⟨_,[_],[_,_,_,_,_,_,_,_,_,_,_,_,_,_,_,_,_,_,_],rfl,rfl,rfl,rfl,rfl⟩⟩⟩⟩⟩)<|aB rfl<|c8 (C:=#[_,_,_,_,_,_,_,_,_,_,_,_,_,_,_,_,_,_,_]) rfl rfl fun b3=>aB rfl<|aW (LO.as (.r rfl))<|ax rfl<|aq<|be (dh (vs:=[_,_]) rfl ⟨rfl,rfl,trivial⟩ (fun w hw=>?_))))
   rw[Ns]
   exact⟨(b3,b2),trivial,rfl,dq [0,1] rfl rfl _ hw⟩
theorem pK:cP af 85 5 9:=⟨_,_,iE,rfl,rfl,0,by kernel_rfl⟩
theorem K5:jJ af 73:=⟨⟨_,wL,rfl⟩,by kernel_rfl⟩
theorem tY:ee af 73 76:=wL
theorem Yj:cP af 95 0 0:=⟨_,_,oc,rfl,rfl,0,by kernel_rfl⟩
theorem Y2:cP af 95 1 1:=⟨_,_,oc,rfl,rfl,0,by kernel_rfl⟩
theorem B76:fU af 76 [(0,1),(1,1),(2,1),(3,1),(4,1),(5,1)] [.int .i64 0,.int .i64 0,.slice none 0 0,.int .i64 0,.slice none 0 0,.slice none 0 0]:=lA fun _=>by kernel_rfl
theorem Qp:dr af 76 (.agg #[.int .i64 0,.int .i64 0,.slice none 0 0,.int .i64 0,.slice none 0 0,.slice none 0 0]):=by unfold dr;kernel_rfl
theorem vU:(af.info? 76).map (·.size)=some 6:=by kernel_rfl
theorem I76:j6 af 76 6 96 (.agg #[.int .i64 0,.int .i64 0,.slice none 0 0,.int .i64 0,.slice none 0 0,.slice none 0 0]):=⟨by kernel_rfl,by kernel_rfl,by unfold dr;kernel_rfl,rfl,by decide⟩
theorem N73:(af.info? 73).map (·.size)=some 1:=by kernel_rfl
theorem A95:lh af 95 2:=⟨⟨_,oc,rfl⟩,by kernel_rfl⟩
abbrev Rv (b:Nat) (h:jk) (la:Int) (q:B1) (pt:Option Addr) (ct:Nat) (kd:Nat→Int) (tk:List cH) (of:Nat×Nat→Option Nat):List dg:=
 [gq b (.cells (uO h la q pt tk.length ct kd).toArray 85),own 76 6 pt ct (tk.map cH.cells),bV (tk.map cH.aR),jr Ay vZ h.bm (qK of)]
structure BgY where
 pt:Option Addr
 ct:Nat
 ap:Option Addr
 ac:Nat
def o7 (kind:Int) (N j:Nat) (ap:Option Addr) (ac:Nat) (pp:Option Addr) (pc:Nat) (pa:List Nat):cH:=⟨kind,N,ap,ac,[j],0,pp,pc,pa,none,0,[]⟩
theorem Sc {β:Bs} {L:List dg} {tk:List cH} {kind:Int} {N j b pc:Nat} {pp:Option Addr} {pa:List Nat} {w:World} (h:St β (own 3 1 (some ⟨b,0,none⟩) 1 [nC j]::bV (tk.map cH.aR)::L) w):St β (bV ((tk++[o7 kind N j (some ⟨b,0,none⟩) 1 pp pc pa]).map cH.aR)::L) w:=by
 rw[bG];exact St.pO h
theorem I2 (b:Nat) (h:jk) (la:Int) (q:B1) (pt:Option Addr) (ct:Nat) (kd:Nat→Int) (tk:List cH) (of:Nat×Nat→Option Nat) (kind:Int) (N j:Nat) (pp:Option Addr) (pc:Nat) (pa:List Nat) (w:World) (hh:Has w (Rv b h la q pt ct kd tk of)) (hl:tk.length≤1000000):
 Calls af 67 #[.pointer (some ⟨b,0,none⟩),.int .i64 kind,.agg #[.int .i64 (N:Int),.int .i64 (j:Int)],.slice pp pa.length pc] w fun e w'=>∃y:BgY,True∧e= .returned (.int .i64 (tk.length:Int))∧St ⟨w,mG (Rv b h la q pt ct kd tk of)⟩ (Rv b h la q y.pt y.ct kd (tk++[o7 kind N j y.ap y.ac pp pc pa]) (kB of (N,j) tk.length)) w':=by
 refine oL (vs:=[_,_,_,_]) (env:=[(0,_),(1,_),(2,_),(3,_)]) hh.enter Tryz.func67 rfl rfl rfl rfl ?_
 refine au (aB rfl<|c8 (C:=#[_,_]) rfl rfl fun b5=>ax rfl<|aq<|au (ag rfl<|ah (cV (.r rfl)) rfl<|bO (r:=9) pK rfl<|cL 1 K5 rfl rfl ⟨_,rfl⟩ rfl<|ah (bE tY (.r rfl) rfl) rfl<|ax rfl<|aq<|av ?_))
 refine eC [[0,1,2,3,4],[0,1,2,3,4],[0,1,2,3,4],[0,1,2,3,4],[0,1,3,4],[0,3,4]] [some 4,some 3,some 3,some 3,some 3,some 1,some 1,some 1,some 0,some 0,none,some 1,none,none,none,some 4,some 4,none] mixed (by kernel_rfl) rfl (cT rfl<|cT rfl<|aG (fun _ hJ=>cV (.r rfl)) rfl<|aG (fun _ hJ=>aP (r:=9) pK (.r rfl) rfl) rfl<|aG (fun _ hJ=>aC K5 (.r rfl) (fun _ hw=>cN (hJ _ hw) 1 rfl ⟨_,rfl⟩)) rfl<|cT rfl<|aG (fun _ hJ=>aP (r:=0) Yj (.r rfl) rfl) rfl<|aG (fun _ hJ=>aC O3 (.r rfl) (fun _ hw=>cN (hJ _ hw) 0 rfl ⟨_,rfl⟩)) rfl<|aG (fun _ hJ=>aP (r:=1) Y2 (.r rfl) rfl) rfl<|aG (fun _ hJ=>aC O3 (.r rfl) (fun _ hw=>cN (hJ _ hw) 0 rfl ⟨_,rfl⟩)) rfl<|dC<|cT rfl<|dC<|dC<|dC<|aG (fun _ hJ=>cV (.r rfl)) rfl<|aG (fun _ hJ=>aP (r:=9) pK (.r rfl) rfl) rfl<|dC<|fj) (az<|az<|az<|az<|az<|az<|az<|az<|az<|az<|ga rfl<|eW (ps:=[(_,_)]) (vs:=[(_,_)]) (Z:=[_]) (C:=[_]) fk Z3 N3 ⟨(.r rfl),trivial⟩ rfl rfl rfl rfl ⟨_,[_],[_],rfl,rfl,rfl,rfl,rfl⟩ fun b9=>⟨fun _ hw=>hw.gY [1,2,3,4,5] rfl,az<|ga rfl<|aW (fA (ps:=[(_,_),(_,_),(_,_),(_,_)]) (vs:=[(_,_),(_,_),(_,_),(_,_)]) (C:=[_,_,_,_,_,_]) B76 ⟨(.r rfl),(.r rfl),(.r rfl),(.r rfl),trivial⟩ rfl ⟨_,[_],[_,_,_,_,_,_],rfl,rfl,rfl,rfl,⟨_,[_],[_,_,_,_,_,_],rfl,rfl,rfl,rfl,⟨_,[_],[_,_,_,_,_,_],rfl,rfl,rfl,rfl,⟨_,[_],[_,_,_,_,_,_],rfl,rfl,rfl,rfl,rfl⟩⟩⟩⟩)<|⟨fun _ hw=>hw.gY [1,2,3,4,5] rfl,ga rfl<|eW (ps:=[(_,_)]) (vs:=[(_,_)]) (Z:=[_,_,_,_,_,_]) (C:=[_,_,_,_,_,_]) tY Qp vU ⟨(.r rfl),trivial⟩ rfl rfl rfl rfl ⟨_,[_,_,_,_,_,_],[_,_,_,_,_,_],rfl,rfl,rfl,rfl,rfl⟩ fun b10=>⟨fun _ hw=>hw.gY [2,3,4,5,6] rfl,ga rfl<|eP (o7 kind N j (some ⟨b9,0,none⟩) 1 pp pc pa) 4 0 (fun R=>[_,_,_,_,R,_,_]) tY tY I76 (.r rfl) (.r rfl) rfl rfl rfl rfl rfl rfl rfl (fun _=>rfl) rfl (by omega) fun p14 c14=>⟨fun _ hw=>hw.gY [2,3,5,6] rfl,az<|az<|hX<|cq 3 (vs:=[_]) (C':=[_,_,_,_,_,_,_,_,_,_,_,_,_,_,_,_,_,_,_]) (L':=[_,_,_,_,_,_,_]) N73 rfl rfl rfl rfl rfl rfl rfl rfl<|⟨fun _ hw=>hw.gY [2,5,6] rfl,fB ?_⟩⟩⟩⟩⟩)
 refine aj<|av<|iv (fun w hw=>Sc (kind:=kind) (N:=N) (pp:=pp) (pc:=pc) (pa:=pa) (St.yu (v:=nC j) (z:=1) 0 rfl rfl (dq (L1:=[_,_,_,_,_,_,_]) [1,5,0,2,3,4,6] rfl rfl _ hw))) ?_
 show VC _ _ _ _ _ _ [bV ((tk++[o7 kind N j (some ⟨b9,0,none⟩) 1 pp pc pa]).map cH.aR),_,_,_,_,_] _ _
 refine eC [[0,1,2,3,4,5],[0,1,2,3,4]] [some 0,some 0,some 0,some 0,some 0,some 0,none] mixed (by kernel_rfl) rfl (cT rfl<|aG (fun _ hJ=>cV (.r rfl)) rfl<|aG (fun _ hJ=>aP (r:=10) tO (.r rfl) rfl) rfl<|aG (fun _ hJ=>aC SA (.r rfl) (fun _ hw=>cN (hJ _ hw) 3 rfl ⟨_,rfl⟩)) rfl<|aG (fun _ hJ=>aX (vs:=[_,_]) A95 (.r rfl) (fun _ hw=>cN (hJ _ hw) 2 rfl ⟨_,rfl⟩) rfl) rfl<|cT rfl<|dC<|fj) (az<|az<|az<|az<|az<|az<|hX<|HO.MD 5 (fun R=>[_,_,_,_,_,R]) ((N:Int),(j:Int)) tk.length XF (.r rfl) (.r rfl) (.r rfl) rfl (fun _=>rfl)<|⟨fun _ hw=>hw.gY [0,1,2,3,4] rfl,fB ?_⟩)
 rw[Jf]
 refine aj<|au (ag rfl<|ax rfl<|aq<|be (dP rfl rfl (fun w hw=>?_)))
 exact⟨⟨p14,c14,some ⟨b9,0,none⟩,1⟩,trivial,rfl,dq [3,4,0,5] rfl rfl _ hw⟩
theorem xo:cP af 85 7 11:=⟨_,_,iE,rfl,rfl,7,by kernel_rfl⟩
theorem Vi:fU af 95 [(0,1),(1,1)] [.int .i64 0,.int .i64 0]:=lA fun _=>by kernel_rfl
theorem vf:cP af 76 2 2:=⟨_,_,jP,rfl,rfl,0,by kernel_rfl⟩
theorem Ou:cP af 76 3 3:=⟨_,_,jP,rfl,rfl,0,by kernel_rfl⟩
theorem sN {α δ:Type} {g:α→δ} {f:δ→δ} {l:List α} {k:Nat} {t t':α} (h:l[k]? =some t) (he:g t'=f (g t)):(l.set k t').map g=(l.map g).modify k f:=by
 refine cM fun i=>?_
 rw[aI,jE,aI,eQ]
 by_cases q:k=i
 ·subst q
  obtain⟨hl,_⟩:=an.1 h
  rw[if_pos rfl,if_pos hl,h]
  simp [he]
 ·rw[if_neg q];cases l[i]? <;>simp [q]
theorem iK {α δ:Type} {g:α→δ} {l:List α} {k:Nat} {t t':α} (h:l[k]? =some t) (he:g t'=g t):(l.set k t').map g=l.map g:=by
 refine cM fun i=>?_
 rw[aI,aI,eQ]
 by_cases q:k=i
 ·subst q
  obtain⟨hl,_⟩:=an.1 h
  rw[if_pos rfl,if_pos hl,h]
  exact congrArg some he
 ·rw[if_neg q]
theorem RC {l:List cH} {k c b:Nat} {p:Option Addr} {t:cH}:(l.map cH.cells).set k ((cH.cells t).take 2++[.slice p (t.ar++[b]).length c]++(cH.cells t).drop (2+[il p (t.ar++[b]).length c].length))=(l.set k { t with ap:=p,ac:=c,ar:=t.ar++[b] }).map cH.cells:=by rw[iS];rfl
theorem Rc {l:List cH} {k:Nat} {v:Int} {t:cH}:(l.map cH.cells).set k ((cH.cells t).take 3++[.int .i64 v]++(cH.cells t).drop (3+[cX .i64 v].length))=(l.set k { t with en:=v }).map cH.cells:=by rw[iS];rfl
theorem Ir {l:List cH} {k c b:Nat} {p:Option Addr} {t:cH}:(l.map cH.cells).set k ((cH.cells t).take 5++[.slice p (t.ch++[b]).length c]++(cH.cells t).drop (5+[il p (t.ch++[b]).length c].length))=(l.set k { t with cp:=p,cc:=c,ch:=t.ch++[b] }).map cH.cells:=by rw[iS];rfl
theorem PB {N a k0:Nat} {tk0:List fo} {of0:Nat×Nat→Option Nat} {es:List gF} {e:gF} (h:KK (N+1) tk0 of0) (hf:e.f=[a]) (hk:of0 (N,a)=some k0) (hes:∀x,x∈es→a∉x.f):(tk0.map (jU (N+1) es)).modify k0 (NS e)=tk0.map (jU (N+1) (es++[e])):=by
 have h1:=Dt (es:=es) (e:=e) (j:=0) h hk (by rw[hf];rfl) (by rw[hf];simp) hes
 rw[DN h.en]at h1
 rw[h1]
 have:cut e (0+1)=e:=by have z:=IA (e:=e);rw[hf]at z;exact z
 rw[this]
structure ChP (N:Nat) (es:List gF) (tk0:List fo) (tk tk':List cH):Prop where
 m:tk'.map cH.m=tk0.map (jU (N+1) es)
 p:tk'.map cH.pR=tk.map cH.pR
 c:tk'.map cH.cR=tk.map cH.cR
theorem M6 {N:Nat} {es:List gF} {tk0:List fo} {tk:List cH} (h:tk.map cH.m=tk0.map (jU (N+1) es)):tk.length=tk0.length:=by
 have:=congrArg List.length h;rwa [ak,ak]at this
theorem Zt {N:Nat} {es:List gF} {tk0:List fo} {tk:List cH} {of0:Nat×Nat→Option Nat} (h0:KK (N+1) tk0 of0) (h:tk.map cH.m=tk0.map (jU (N+1) es)) {t:cH} (ht:t∈tk):t.ar.length≤N+2:=by
 have h1:t.m∈tk0.map (jU (N+1) es):=by rw[←h];exact bw ht
 obtain⟨x,hx,e⟩:=bN.1 h1
 have hp:=(h0.pos x hx).2
 unfold fo.up at hp
 have e2:t.ar=(jU (N+1) es x).ar:=congrArg fo.ar e.symm
 rw[e2]
 rcases jL (N+1) es x with⟨_,z⟩|⟨_,_,z⟩|⟨_,_,z⟩<;>rw[z]
 ·omega
 ·show(x.ar++_).length≤_;rw[List.length_append,List.length_singleton];omega
 ·show x.ar.length≤_;omega
structure ChE (N:Nat) (es:List gF) (tk0:List fo) (of0:Nat×Nat→Option Nat) (er:db) (tk:List cH) (kd:Nat→Int):Prop where
 base:KK (N+1) tk0 of0
 tk:tk.map cH.m=tk0.map (jU (N+1) es)
 kind:er.kd=iR er.f.length er.t.length
 Bg:er.f.Nodup
 ap:∀x,x∈es→(∀a,a∈er.f→a∉x.f)∧∀b,b∈er.t→b∉x.t
 Fb:∀a,a∈er.f→∃k,of0 (N,a)=some k
 len:er.f.length≤1000000
 kb:∀j,0≤kd j∧kd j≤1000000000000
 n:N≤1000
theorem ZL {a b:Nat} {k:Int} (h:k=iR a b):k=(k.toNat:Int)∧k.toNat<8:=by have:=DQ a b;omega
theorem OO (b:Nat) (h:jk) (la:Int) (q:B1) (pt:Option Addr) (ct:Nat) (kd:Nat→Int) (tk:List cH) (N:Nat) (es:List gF) (tk0:List fo) (of0:Nat×Nat→Option Nat) (er:db) (w:World) (hh:Has w (Rv b h la q pt ct kd tk (r6 N es of0))) (hc:ChE N es tk0 of0 er tk kd) (hcap:∀{L:List dg} {v:World},St ⟨w,mG (Rv b h la q pt ct kd tk (r6 N es of0))⟩ L v→RO 1 nC v er.fp er.f∧RO 1 nC v er.tp er.t) (hef:jR er.fp er.f.length) (het:jR er.tp er.t.length):
 Calls af 33 #[.pointer (some ⟨b,0,none⟩),.int .i64 ((N+1:Nat):Int),.agg #[.int .i64 er.kd,.slice er.fp er.f.length er.fc,.slice er.tp er.t.length er.tc]] w fun e w'=>∃tk':List cH,ChP N (es++[er.m]) tk0 tk tk'∧e= .returned (.tuple #[])∧St ⟨w,mG (Rv b h la q pt ct kd tk (r6 N es of0))⟩ (Rv b h la q pt ct (KR kd er.kd.toNat) tk' (r6 N (es++[er.m]) of0)) w':=by
 obtain⟨hk1,hk2⟩:=ZL hc.kind
 have hkb:=hc.kb er.kd.toNat
 have hn:=hc.n
 have hel:=hc.len
 have hlt:=M6 hc.tk
 refine oL (vs:=[_,_,_]) (env:=[(0,_),(1,_),(2,_)]) hh.enter Tryz.func33 rfl rfl rfl rfl ?_
 refine au (aB rfl<|c8 (C:=#[_,_,_]) rfl rfl fun b5=>aq<|av<|eC [[0,1,2,3,4],[0,2,3,4]] [some 0,some 0,some 0,some 0,some 0,some 0,some 0,some 0,some 0,some 0,some 0,none] mixed (by kernel_rfl) rfl (cT rfl<|aG (fun _ hJ=>aP (r:=0) wY (.r rfl) rfl) rfl<|aG (fun _ hJ=>aC O3 (.r rfl) (fun _ hw=>cN (hJ _ hw) 0 rfl ⟨_,rfl⟩)) rfl<|aG (fun _ hJ=>cV (.r rfl)) rfl<|aG (fun _ hJ=>aP (r:=11) xo (.r rfl) rfl) rfl<|aG (fun _ hJ=>LO.Uc (j:=er.kd.toNat) (r:=11+er.kd.toNat) iZ N3 (.r rfl) (.r rfl) hk1 hk2 (by omega)) rfl<|aG (fun _ hJ=>aC O3 (.r rfl) (fun _ hw=>cN (hJ _ hw) 1 rfl (VR hk2))) rfl<|aG (fun _ hJ=>LO.add (.r rfl) (.r rfl) (wi (by omega) (by omega))) rfl<|aG (fun _ hJ=>cV (.r rfl)) rfl<|aG (fun _ hJ=>aP (r:=11) xo (.r rfl) rfl) rfl<|aG (fun _ hJ=>LO.Uc (j:=er.kd.toNat) (r:=11+er.kd.toNat) iZ N3 (.r rfl) (.r rfl) hk1 hk2 (by omega)) rfl<|dC<|fj) (az<|az<|az<|az<|az<|az<|az<|az<|az<|az<|az<|hX<|cq 1 (vs:=[_]) (C':=uO h la q pt tk.length ct (KR kd er.kd.toNat)) (L':=[_,_,_,_,_]) N3 rfl rfl rfl rfl (Nat.ble_eq_true_of_le (show 11+er.kd.toNat+1≤19 by omega)) rfl (Vp hk2) rfl<|⟨fun _ hw=>hw.gY [0,2,3,4] rfl,fB ?_⟩))
 refine aj<|av<|au (bO (r:=0) wY rfl<|cL 0 O3 rfl rfl ⟨_,rfl⟩ rfl<|ah (LO.eq (.r rfl) (.r rfl)) rfl<|aq<|ay rfl (fun h22=>?_) (fun h22=>?_))
 ·
  have hkk:=hc.kind
  rw[h22]at hkk
  obtain⟨hk3,hk4⟩:=yH hkk.symm
  obtain⟨a,hf⟩:∃a,er.f=[a]:=⟨_,uR hk3⟩
  obtain⟨bb,ht⟩:∃b,er.t=[b]:=⟨_,uR hk4⟩
  have hf0:er.f[0]? =some a:=by rw[hf];rfl
  have ht0:er.t[0]? =some bb:=by rw[ht];rfl
  obtain⟨k0,hk0⟩:=hc.Fb a (by rw[hf];simp)
  have hkl:=(hc.base.lt hk0).2
  have hk0f:of0 (N,er.m.f.headD 0)=some k0:=by show of0 (N,er.f.headD 0)=_;rw[hf];exact hk0
  obtain⟨tr,htr⟩:=du (l:=tk) (n:=k0) (by omega)
  refine av<|VC.draw mixed (LL.m rfl<|bl (cV (.r rfl)) rfl<|bl (aP (r:=10) tO (.r rfl) rfl) rfl<|bl (aC SA (.r rfl) (aF 1 rfl ⟨_,rfl⟩)) rfl<|LL.m rfl<|bl (eN (gz (.r rfl) (.r rfl) (wi (by omega) (by omega))) (congrArg (cX .i64) (show((N+1:Nat):Int)-1=(N:Int) by omega))) rfl<|bl (aP (r:=1) yW (.r rfl) rfl) rfl<|bl (aC iL (.r rfl) (aF 0 rfl ⟨_,rfl⟩)) rfl<|bl (bM fk N3 hef (.r rfl) (.r rfl) (j:=0) rfl (by omega)) rfl<|bl (aC O3 (.r rfl) (fun w hw=>aA (off:=0) ((fun w3 h3=>cY (hcap h3).1 hf0) w hw) ⟨_,rfl⟩)) rfl<|bl (fA (ps:=[(_,_),(_,_)]) (vs:=[(_,_),(_,_)]) (C:=[_,_]) Vi ⟨(.r rfl),(.r rfl),trivial⟩ rfl ⟨_,[_],[_,_],rfl,rfl,rfl,rfl,⟨_,[_],[_,_],rfl,rfl,rfl,rfl,rfl⟩⟩) rfl<|bl (eN (v':=.int .i64 (k0:Int)) (LO.Mu (n:=((N:Int),(a:Int))) XF (.r rfl) (.r rfl) (fun _ hw=>St.inv hw 4 _ rfl)) (by rw[va,Iu,hk0];rfl)) rfl<|bl (LO.as (.r rfl)) rfl<|LL.nil) (by kernel_rfl)<|aj<|av<|iv (L':=cH.aR tr::bV ((tk.eraseIdx k0).map cH.aR)::[_,_,_,_]) (fun w hw=>St.rh (f:=cH.aR) (dq [3,0,1,2,4] rfl rfl w hw) htr) ?_
  show VC _ _ _ _ _ _ (own 3 1 tr.ap tr.ac (tr.ar.map nC)::_) _ _
  refine eC [[0,1,2,3,4,5],[0,1,2,3,4,5],[1,2,3,4,5],[1,2,3,5]] [some 2,some 2,some 2,some 2,some 2,some 1,some 1,some 1,some 1,some 1,some 1,some 1,some 1,some 0,some 0,some 0,some 0,none,none,some 2,some 2,none] mixed (by kernel_rfl) rfl (cT rfl<|aG (fun _ hJ=>cV (.r rfl)) rfl<|aG (fun _ hJ=>aP (r:=9) pK (.r rfl) rfl) rfl<|aG (fun _ hJ=>aC K5 (.r rfl) (fun _ hw=>cN (hJ _ hw) 2 rfl ⟨_,rfl⟩)) rfl<|cT rfl<|cT rfl<|aG (fun _ hJ=>cV (.r rfl)) rfl<|aG (fun _ hJ=>aP (r:=9) pK (.r rfl) rfl) rfl<|aG (fun _ hJ=>aC K5 (.r rfl) (fun _ hw=>cN (hJ _ hw) 3 rfl ⟨_,rfl⟩)) rfl<|cT rfl<|aG (fun _ hJ=>cy tY vU (fun _ hw=>(bL (hJ _ hw) 4 rfl).some (by rw[ak];try omega)) (.r rfl) (.r rfl) rfl (by omega)) rfl<|aG (fun _ hJ=>aP vf (.r rfl) rfl) rfl<|aG (fun _ hJ=>aC iL (.r rfl) (fun w hw=>aA (off:=2) (cO (hJ _ hw) 4 rfl htr) ⟨_,rfl⟩)) rfl<|aG (fun _ hJ=>aP (r:=2) yV (.r rfl) rfl) rfl<|aG (fun _ hJ=>aC iL (.r rfl) (fun _ hw=>cN (hJ _ hw) 2 rfl ⟨_,rfl⟩)) rfl<|aG (fun _ hJ=>bM fk N3 het (.r rfl) (.r rfl) (j:=0) rfl (by omega)) rfl<|aG (fun _ hJ=>aC O3 (.r rfl) (fun w hw=>aA (off:=0) ((fun w3 h3=>cY (hcap h3).2 ht0) w (hJ _ hw)) ⟨_,rfl⟩)) rfl<|dC<|dC<|aG (fun _ hJ=>cy tY vU (fun _ hw=>(bL (hJ _ hw) 3 rfl).some (by rw[ak];try omega)) (.r rfl) (.r rfl) rfl (by omega)) rfl<|aG (fun _ hJ=>aP vf (.r rfl) rfl) rfl<|dC<|fj) (az<|az<|az<|az<|az<|az<|az<|az<|az<|az<|az<|az<|az<|az<|az<|az<|az<|ga rfl<|eW (ps:=[(_,_)]) (vs:=[(_,_)]) (Z:=[_]) (C:=[_]) fk Z3 N3 ⟨(.r rfl),trivial⟩ rfl rfl rfl rfl ⟨_,[_],[_],rfl,rfl,rfl,rfl,rfl⟩ fun b8=>⟨fun _ hw=>hw.gY [1,2,3,4,5,6] rfl,ga rfl<|eP (bb) 1 0 (fun R=>[_,R,_,_,_,_,_]) fk fk I3 (.r rfl) (.r rfl) rfl rfl rfl rfl rfl rfl rfl (fun _=>rfl) rfl (by have:=Zt hc.base hc.tk (al htr);omega) fun p18 c18=>⟨fun _ hw=>hw.gY [2,3,4,5,6] rfl,az<|az<|hX<|HO.Qv 5 (fun R=>[_,_,_,_,_,R,_]) (o:=2) (vs:=[_]) qL (.r rfl) (.r rfl) rfl (oZ htr) rfl rfl (bz rfl) rfl (fun _=>rfl)<|⟨fun _ hw=>hw.gY [2,3,4,6] rfl,fB ?_⟩⟩⟩)
  rw[RC]
  refine aj<|av<|iv (L':=bV ((tk.set k0 { tr with ap:=p18,ac:=c18,ar:=tr.ar++[bb] }).map cH.aR)::[_,_,_,_,_]) (fun w hw=>St.nK (f:=cH.aR) (a:={ tr with ap:=p18,ac:=c18,ar:=tr.ar++[bb] }) (i:=k0) (dq (L1:=cH.aR { tr with ap:=p18,ac:=c18,ar:=tr.ar++[bb] }::[_,_,_,_,_,_]) [1,2,0,3,4,5,6] rfl rfl w hw) (by omega))<|eC [[0,1,2,3,4,5],[0,1,2,3,4]] [some 0,some 0,some 0,some 0,some 0,some 0,some 0,some 0,some 0,some 0,some 0,none] mixed (by kernel_rfl) rfl (cT rfl<|aG (fun _ hJ=>cV (.r rfl)) rfl<|aG (fun _ hJ=>aP (r:=10) tO (.r rfl) rfl) rfl<|aG (fun _ hJ=>aC SA (.r rfl) (fun _ hw=>cN (hJ _ hw) 3 rfl ⟨_,rfl⟩)) rfl<|cT rfl<|aG (fun _ hJ=>aP (r:=2) yV (.r rfl) rfl) rfl<|aG (fun _ hJ=>aC iL (.r rfl) (fun _ hw=>cN (hJ _ hw) 2 rfl ⟨_,rfl⟩)) rfl<|aG (fun _ hJ=>bM fk N3 het (.r rfl) (.r rfl) (j:=0) rfl (by omega)) rfl<|aG (fun _ hJ=>aC O3 (.r rfl) (fun w hw=>aA (off:=0) ((fun w3 h3=>cY (hcap h3).2 ht0) w (hJ _ hw)) ⟨_,rfl⟩)) rfl<|aG (fun _ hJ=>fA (ps:=[(_,_),(_,_)]) (vs:=[(_,_),(_,_)]) (C:=[_,_]) Vi ⟨(.r rfl),(.r rfl),trivial⟩ rfl ⟨_,[_],[_,_],rfl,rfl,rfl,rfl,⟨_,[_],[_,_],rfl,rfl,rfl,rfl,rfl⟩⟩) rfl<|cT rfl<|dC<|fj) (az<|az<|az<|az<|az<|az<|az<|az<|az<|az<|az<|hX<|HO.MD 5 (fun R=>[_,_,_,_,_,R]) (((N+1:Nat):Int),(bb:Int)) k0 XF (.r rfl) (.r rfl) (.r rfl) rfl (fun _=>rfl)<|⟨fun _ hw=>hw.gY [0,1,2,3,4] rfl,fB ?_⟩)
  refine aj<|be (bA (dh (vs:=[]) rfl trivial (fun w hw=>?_)))
  rw[Jf,OI (e:=er.m) h22 ht hk0f (fun x hx=>(hc.ap x hx).2 bb (by rw[ht];simp))]at hw
  refine⟨tk.set k0 { tr with ap:=p18,ac:=c18,ar:=tr.ar++[bb] },⟨?_,iK htr rfl,iK htr rfl⟩,rfl,?_⟩
  ·rw[sN (f:=NS er.m) htr (by unfold NS;rw[if_pos (show er.m.kd=4 from h22)];show _=({ tr.m with ar:=tr.ar++[er.t.headD 0] }:fo);rw[ht];rfl),hc.tk]
   exact PB hc.base hf hk0 (fun x hx=>(hc.ap x hx).1 a (by rw[hf];simp))
  ·have hs:=dq [3,4,0,5] rfl rfl _ hw
   have hlen:tk.length=(tk.set k0 { tr with ap:=p18,ac:=c18,ar:=tr.ar++[bb] }).length:=by rw[eB]
   rw[hlen]at hs
   exact hs
 ·
  refine aE (aj<|au (bO (r:=1) yW rfl<|cL 0 iL rfl rfl ⟨_,rfl⟩ rfl<|ah (bE fk (.r rfl) rfl) rfl<|ag rfl<|aq<|aD<|gw [2,0,1,3,4] rfl<|bS (α:=Nat×(List cH)) 1 (fun gx=>[(70,.int .i64 (gx.1:Nat))]) [(0,_),(1,_),(5,_),(68,_),(69,_)] (fun gx=>[own 76 6 pt ct (gx.2.map cH.cells)]) (fun gx=>gx.1≤er.f.length∧gx.2.length=tk.length∧gx.2.map cH.aR=tk.map cH.aR∧ChP N (es++[cut er.m gx.1]) tk0 tk gx.2) (fun gx=>er.f.length-gx.1) (0,tk) (by exact⟨aY _,rfl,rfl,by rw[DN hc.base.en];exact hc.tk,rfl,rfl⟩) (.c4 rfl rfl rfl rfl (.cons rfl (.cons rfl .nil))) (fun _ h=>h) ?_))
  rintro ⟨j,tkj⟩ ⟨hj,hln,haR,⟨hm,hpR,hcR⟩⟩
  show VC _ _ _ _ _ ([(70,.int .i64 (j:Nat))]++_) ([own 76 6 pt ct (tkj.map cH.cells)]++_) _ _
  dsimp only at hj hln haR hm hpR hcR
  refine au (dK rfl<|aq<|av<|ay rfl (fun h71=>?_) (fun h71=>?_))
  ·
   obtain⟨ai,hf0⟩:=du (l:=er.f) (n:=j) (by omega)
   obtain⟨k0,hk0⟩:=hc.Fb ai (al hf0)
   have hkl:=(hc.base.lt hk0).2
   obtain⟨tr,htr⟩:=du (l:=tkj) (n:=k0) (by omega)
   refine aE (aj<|av<|aD<|au (ah (bM fk N3 hef (.r rfl) (.r rfl) rfl (by omega)) rfl<|ah (aC O3 (.r rfl) (fun w hw=>aA (off:=0) ((fun w3 h3=>cY (hcap h3).1 hf0) w hw) ⟨_,rfl⟩)) rfl<|ax rfl<|aq<|eC [[0,1,2,3,4],[1,2,3,4]] [some 0,some 0,some 0,some 0,some 0,some 0,some 0,some 0,some 0,some 0,some 0,some 0,some 0,some 0,some 0,some 0,some 0,none] mixed (by kernel_rfl) rfl (cT rfl<|aG (fun _ hJ=>cV (.r rfl)) rfl<|aG (fun _ hJ=>aP (r:=9) pK (.r rfl) rfl) rfl<|aG (fun _ hJ=>aC K5 (.r rfl) (fun _ hw=>cN (hJ _ hw) 2 rfl ⟨_,rfl⟩)) rfl<|cT rfl<|aG (fun _ hJ=>cV (.r rfl)) rfl<|aG (fun _ hJ=>aP (r:=10) tO (.r rfl) rfl) rfl<|aG (fun _ hJ=>aC SA (.r rfl) (fun _ hw=>cN (hJ _ hw) 2 rfl ⟨_,rfl⟩)) rfl<|cT rfl<|aG (fun _ hJ=>eN (gz (.r rfl) (.r rfl) (wi (by omega) (by omega))) (congrArg (cX .i64) (show((N+1:Nat):Int)-1=(N:Int) by omega))) rfl<|cT rfl<|aG (fun _ hJ=>fA (ps:=[(_,_),(_,_)]) (vs:=[(_,_),(_,_)]) (C:=[_,_]) Vi ⟨(.r rfl),(.r rfl),trivial⟩ rfl ⟨_,[_],[_,_],rfl,rfl,rfl,rfl,⟨_,[_],[_,_],rfl,rfl,rfl,rfl,rfl⟩⟩) rfl<|aG (fun _ hJ=>eN (v':=.int .i64 (k0:Int)) (LO.Mu (n:=((N:Int),(ai:Int))) XF (.r rfl) (.r rfl) (fun _ hw=>St.inv (hJ _ hw) 4 _ rfl)) (by rw[va,Iu,hk0];rfl)) rfl<|aG (fun _ hJ=>aP (r:=0) wY (.r rfl) rfl) rfl<|aG (fun _ hJ=>aC O3 (.r rfl) (fun _ hw=>cN (hJ _ hw) 1 rfl ⟨_,rfl⟩)) rfl<|aG (fun _ hJ=>cy tY vU (fun _ hw=>(bL (hJ _ hw) 0 rfl).some (by rw[ak];try omega)) (.r rfl) (.r rfl) rfl (by omega)) rfl<|aG (fun _ hJ=>aP Ou (.r rfl) rfl) rfl<|dC<|fj) (az<|az<|az<|az<|az<|az<|az<|az<|az<|az<|az<|az<|az<|az<|az<|az<|az<|hX<|HO.Qv 0 (fun R=>[R,_,_,_,_]) (o:=3) (vs:=[_]) N3 (.r rfl) (.r rfl) rfl (oZ htr) rfl rfl (bz rfl) rfl (fun _=>rfl)<|⟨fun _ hw=>hw.gY [1,2,3,4] rfl,fB ?_⟩)))
   rw[Rc]
   refine bB (aj<|aM (da rfl rfl (by omega) (by omega) rfl<|ag rfl<|aN<|aZ fun a w ha hw=>⟨(j+1,tkj.set k0 { tr with en:=er.kd }),⟨by dsimp only;omega,by dsimp only;rw[eB];exact hln,(iK (t':={ tr with en:=er.kd }) htr rfl).trans haR,by dsimp only;rw[sN (f:=NS er.m) htr (by unfold NS;rw[if_neg (show ¬er.m.kd=4 from h22)];rfl),hm];exact Dt hc.base hk0 hf0 hc.Bg (fun x hx=>(hc.ap x hx).1 ai (al hf0)),(iK (t':={ tr with en:=er.kd }) htr rfl).trans hpR,(iK (t':={ tr with en:=er.kd }) htr rfl).trans hcR⟩,(by dsimp only;omega),ha.sub (.c4 rfl rfl rfl rfl (.cons rfl (.cons rfl .nil))),hw⟩))
  ·
   refine bU (aH (aH (cB (VE.D5 (vs:=[]) rfl trivial (fun w hw=>?_)))))
   have hje:j=er.f.length:=by omega
   subst hje
   rw[show cut er.m er.f.length=er.m from IA]at hm
   refine⟨tkj,⟨hm,hpR,hcR⟩,rfl,?_⟩
   rw[Oa (e:=er.m) (show er.m.kd≠4 from h22)]
   have hs:=dq [2,0,3,4] rfl rfl _ hw
   rw[←haR, ←hln]at hs
   exact hs
end Go.Proofs.YtgemekpofpoopaaGreat
