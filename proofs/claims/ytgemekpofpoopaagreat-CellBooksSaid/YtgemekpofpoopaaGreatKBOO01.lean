/-
  The first walks: small functions of beam and cast.
  (and more)
-/
import Derived.Test.YtgemekpofpoopaaGreatKBOO00
import Derived.Test.YtgemekpofpoopaaGreatChecked
import Derived.ChangeKeysEq
import Derived.ProofKit
import Derived.OpenShut
import Derived.Carry
import Derived.ChangeCalls
import Derived.JoinedOf
import Derived.Laws.CopyRow
open Go.Proofs.Tryz renaming prog→af,underlying23→iD,underlying58→l6,underlying35→nO,underlying33→qV
open Go.SL.VC renaming q→au,ret→be,seq→av,block→aD,cond→ay,skip→aE
open Go.SL.VO renaming a→ax,n→aq,m→ag,l→ah,gt→bh,f→bO,c→cL,gf→aK
open Go.SL.LO renaming mv→aS,call→bK,fa→aP,ld→aC,jZ→cD,fT→aX
open Go.SL.VE renaming s→dP,aU→aj,mq→dA,dB→bA,gO→bB
open Go.SL.HO renaming box→c8
open Nat renaming blt→dO,le_of_ble_eq_true→bz,beq→fl,le_of_eq→pj,add_mul→fQ,eq_of_beq_eq_true→cw,lt_or_ge→bf,lt_trichotomy→ic,beq_refl→gV,ble_eq_true_of_le→eD,strongRecOn→jv,lt_of_lt_of_le→dZ,eq_zero_or_pos→fC,zero_le→aY,lt_of_le_of_lt→lr,le_trans→dE,blt_eq→pV
open Option renaming bind_some→mn,map_some→ft,getD_some→gR
open Go.Region renaming wanted→gZ,binds→eH,ready→eu
open Go.Op renaming operands→aL,equalIn→jg,eqFields→rB,eqItems→xu
open List renaming length_append→aJ,map_append→bG,getElem?_map→aI,drop_eq_getElem_cons→dN,drop_of_length_le→lK,foldlM_cons→xP,take_append_drop→jh,drop_drop→ua,range→bF,map_cons→gI,map_nil→xv,getElem?_eq_getElem→aw,getD→ku,getElem?_drop→mY,getElem?_append_left→aV,getElem?_eq_some_iff→an,getElem_of_mem→fD,pairwise_iff_getElem→cj,mem_of_getElem?→al,getElem_map→jx,all_eq_true→cz,any_eq_true→dY,mem_map→bN,map_map→dV,nodup_append→jN,mem_append→bQ,nodup_cons→kT,cons_append→oQ,append_assoc→dk,perm_middle→iu,mem_cons→dU,mem_filter→bR,mem_range→a8,mem_append_left→dt,mem_filterMap→kx,mem_append_right→fe,append_nil→ew,filter_eq_nil_iff→fZ,length_filter_le→cE,eq_nil_iff_forall_not_mem→oH,getElem?_take→vk,length_map→ak,sum_cons→jG,flatten_cons→gB,length→dv,take_succ_cons→mC,getElem?_eq_none→aQ,mem_iff_getElem?→eA,mem_cons_self→jl,pairwise_cons→jm,mem_cons_of_mem→iP,pairwise_append→jD,take_append_of_le_length→jw,drop_append_of_le_length→oR,size_toArray→gA,replicate→bH,mem_replicate→ng
open Go.Call renaming operands→eL
open Go.Deferred renaming ofValue→mJ
open Go.Sem renaming run_bind→bY,run_pure→dL
open Go.Result renaming andThen_ok→bP
open Array renaming ext'→qS,all_eq_true_iff_forall_mem→e8,getElem?_setIfInBounds_ne→bq,replicate→jK,getElem?_replicate→eM,getElem?_eq_some_iff→fV,getD_eq_getD_getElem?→j8,getElem?_setIfInBounds_self_of_lt→gX,length_toList→ky
open Bool renaming false_eq_true→cA,or_eq_true→gP,not_true→gp,and_eq_true→bD,false_or→fO,not_eq_true'→cF
open Classical renaming not_not→eK,not_forall→na,byContradiction→dx
open Go.SL renaming Rows→pT
open Go.SL.Rows renaming some→PJ,b0→PK
open Go.Act renaming put→fN,eval→fI
open Ne renaming symm→gi
open Option.some renaming injEq→nL
open Go.DataW renaming trod→vl,TrodAll→sX
open Go.Instr renaming fill→kQ
open List.Perm renaming append_left→xS,swap→sY

set_option linter.unusedSimpArgs false
set_option maxRecDepth 20000
set_option maxHeartbeats 8000000
namespace Go.Proofs.YtgemekpofpoopaaGreat
open Go.SL Go.Proofs Go.sM Go.Cell
set_option linter.unusedVariables false
theorem TG:cP af 23 0 0:=⟨_,_,iD,rfl,rfl,0,by kernel_rfl⟩
theorem O3:jJ af 3:=⟨⟨_,Tryz.underlying3,rfl⟩,by kernel_rfl⟩
theorem Y1:fh af 59:=⟨_,Tryz.func59,by decide,rfl⟩
theorem Tu:cP af 23 1 1:=⟨_,_,iD,rfl,rfl,0,by kernel_rfl⟩
theorem TZ:cP af 23 2 2:=⟨_,_,iD,rfl,rfl,0,by kernel_rfl⟩
theorem iQ:cP af 23 3 3:=⟨_,_,iD,rfl,rfl,0,by kernel_rfl⟩
theorem uH:cP af 23 4 4:=⟨_,_,iD,rfl,rfl,0,by kernel_rfl⟩
abbrev lL (g:eo):Value:=.agg #[.int .i64 g.x,.int .i64 g.y,.int .i64 g.size,.int .i64 g.wide,.int .i64 g.high]
theorem qP (n lo hi:Int) (w:World):
 Calls af 59 #[.int .i64 n,.int .i64 lo,.int .i64 hi] w fun e w'=>e= .returned (.bool (decide (lo≤n)&&decide (n≤hi)))∧St (bs w) [] w':=by
 refine enter (vs:=[_,_,_]) (env:=[(0,_),(1,_),(2,_)]) Tryz.func59 rfl rfl rfl rfl ?_
 refine au (ax rfl<|aq<|au (ag rfl<|ag rfl<|ah (LO.le (.r rfl) (.r rfl)) rfl<|ag rfl<|bh rfl (fun hg=>aS (.r rfl))<|bh rfl (fun hg=>aS (.r rfl))<|bh rfl (fun hg=>LO.le (.g hg rfl) (.g hg rfl))<|ah (LO.qc (.r rfl) rfl rfl (.r rfl)) rfl<|ax rfl<|aq<|be (dP rfl rfl (fun w hw=>?_))))
 exact⟨rfl,hw.nil⟩
theorem sA (g:eo) (w:World):
 Calls af 25 #[lL g] w fun e w'=>e= .returned (.int .i64 (kP g))∧St (bs w) [] w':=by
 refine enter (vs:=[_]) (env:=[(0,_)]) Tryz.func25 rfl rfl rfl rfl ?_
 refine au (VO.h rfl<|c8 (C:=#[_,_,_,_,_]) rfl rfl fun b1=>ax rfl<|aq<|av<|aD<|av<|av ?_)
 refine VC.eX (bO (r:=0) TG rfl<|cL 0 O3 rfl rfl ⟨_,rfl⟩ rfl<|ah (bK (xs:=[_,_,_]) (vs:=[_,_,_]) Y1 ⟨(.r rfl),(.r rfl),(.r rfl),trivial⟩ (fun w _=>qP _ _ _ w)) rfl<|ah (LO.not (.r rfl)) rfl<|ax rfl<|aq<|ay rfl (fun h1=>?_) (fun h1=>?_))
 ·
  refine aE (aj<|ay rfl (fun h2=>?_) (fun h2=>?_))
  ·
   refine au (ax rfl<|aq<|be (dA (bA (dP rfl rfl (fun w hw=>?_)))))
   exact⟨by simp only[oq,kP];first |rw[if_pos (by unfold dH;omega)]|rw[if_neg (by unfold dH;omega)],hw.nil⟩
  ·
   refine aE (bB (aj<|au (ax rfl<|aq<|be (dP rfl rfl (fun w hw=>?_)))))
   exact⟨by simp only[oq,kP];first |rw[if_pos (by unfold dH;omega)]|rw[if_neg (by unfold dH;omega)],hw.nil⟩
 ·
  refine au (bO (r:=1) Tu rfl<|cL 0 O3 rfl rfl ⟨_,rfl⟩ rfl<|ah (bK (xs:=[_,_,_]) (vs:=[_,_,_]) Y1 ⟨(.r rfl),(.r rfl),(.r rfl),trivial⟩ (fun w _=>qP _ _ _ w)) rfl<|ah (LO.not (.r rfl)) rfl<|ax rfl<|aq<|ay rfl (fun h3=>?_) (fun h3=>?_))
  ·
   refine aE (aj<|ay rfl (fun h4=>?_) (fun h4=>?_))
   ·
    refine au (ax rfl<|aq<|be (dA (bA (dP rfl rfl (fun w hw=>?_)))))
    exact⟨by simp only[oq,kP];first |rw[if_pos (by unfold dH;omega)]|rw[if_neg (by unfold dH;omega)],hw.nil⟩
   ·
    refine aE (bB (aj<|au (ax rfl<|aq<|be (dP rfl rfl (fun w hw=>?_)))))
    exact⟨by simp only[oq,kP];first |rw[if_pos (by unfold dH;omega)]|rw[if_neg (by unfold dH;omega)],hw.nil⟩
  ·
   refine au (bO (r:=2) TZ rfl<|cL 0 O3 rfl rfl ⟨_,rfl⟩ rfl<|ah (bK (xs:=[_,_,_]) (vs:=[_,_,_]) Y1 ⟨(.r rfl),(.r rfl),(.r rfl),trivial⟩ (fun w _=>qP _ _ _ w)) rfl<|ah (LO.not (.r rfl)) rfl<|ax rfl<|aq<|ay rfl (fun h5=>?_) (fun h5=>?_))
   ·
    refine aE (aj<|ay rfl (fun h6=>?_) (fun h6=>?_))
    ·
     refine au (ax rfl<|aq<|be (dA (bA (dP rfl rfl (fun w hw=>?_)))))
     exact⟨by simp only[oq,kP];first |rw[if_pos (by unfold dH;omega)]|rw[if_neg (by unfold dH;omega)],hw.nil⟩
    ·
     refine aE (bB (aj<|au (ax rfl<|aq<|be (dP rfl rfl (fun w hw=>?_)))))
     exact⟨by simp only[oq,kP];first |rw[if_pos (by unfold dH;omega)]|rw[if_neg (by unfold dH;omega)],hw.nil⟩
   ·
    refine au (bO (r:=3) iQ rfl<|cL 0 O3 rfl rfl ⟨_,rfl⟩ rfl<|ah (bK (xs:=[_,_,_]) (vs:=[_,_,_]) Y1 ⟨(.r rfl),(.r rfl),(.r rfl),trivial⟩ (fun w _=>qP _ _ _ w)) rfl<|ah (LO.not (.r rfl)) rfl<|ax rfl<|aq<|ay rfl (fun h7=>?_) (fun h7=>?_))
    ·
     refine aE (aj<|ay rfl (fun h8=>?_) (fun h8=>?_))
     ·
      refine au (ax rfl<|aq<|be (dA (bA (dP rfl rfl (fun w hw=>?_)))))
      exact⟨by simp only[oq,kP];first |rw[if_pos (by unfold dH;omega)]|rw[if_neg (by unfold dH;omega)],hw.nil⟩
     ·
      refine aE (bB (aj<|au (ax rfl<|aq<|be (dP rfl rfl (fun w hw=>?_)))))
      exact⟨by simp only[oq,kP];first |rw[if_pos (by unfold dH;omega)]|rw[if_neg (by unfold dH;omega)],hw.nil⟩
    ·
     refine VC.eX (bO (r:=4) uH rfl<|cL 0 O3 rfl rfl ⟨_,rfl⟩ rfl<|ah (bK (xs:=[_,_,_]) (vs:=[_,_,_]) Y1 ⟨(.r rfl),(.r rfl),(.r rfl),trivial⟩ (fun w _=>qP _ _ _ w)) rfl<|ah (LO.not (.r rfl)) rfl<|ax rfl<|aq<|ay rfl (fun h9=>?_) (fun h9=>?_))
     ·
      refine au (ax rfl<|aq<|be (dA (bA (dP rfl rfl (fun w hw=>?_)))))
      exact⟨by simp only[oq,kP];first |rw[if_pos (by unfold dH;omega)]|rw[if_neg (by unfold dH;omega)],hw.nil⟩
     ·
      refine aE (bB (aj<|au (ax rfl<|aq<|be (dP rfl rfl (fun w hw=>?_)))))
      exact⟨by simp only[oq,kP];first |rw[if_pos (by unfold dH;omega)]|rw[if_neg (by unfold dH;omega)],hw.nil⟩
end Go.Proofs.YtgemekpofpoopaaGreat
namespace Go.SL
set_option linter.unusedVariables false
section
variable {P:Program} {ro:Option Nat} {β:Bs} {N:Nat} {ds:List Deferred} {env:Env} {L:List dg} {Q:Exit→Act→World→Prop}
variable {ty:TypeId} {pos:String} {aft:Array Edge} {g:Option (Nat×Bool)}
theorem NI {c b:Bool} (h:c=true):(c&&b)=b:=by rw[h,Bool.true_and]
theorem HO.guard {dd:Option Nat} {op:Op} {K:Value→List dg→Prop} {g':Option (Nat×Bool)} (h:HO P β env L ⟨dd,op,ty,pos,aft,g⟩ K):HO P β env L ⟨dd,op,ty,pos,aft,g'⟩ K:=h
theorem VO.bc {ops:Array Oper} {rest:List Oper} {x:Nat} {b:Bool} (h:j9 env x=some (.bool b)) (k1:b=true→VO P ro β N ds ops env L rest Q) (k2:b=false→VO P ro β N ds ops env L rest Q):VO P ro β N ds ops env L rest Q:=by
 cases b with
 |true=>exact k1 rfl
 |false=>exact k2 rfl
theorem VO.gT {ops:Array Oper} {d j t:Nat} {want:Bool} {op:Op} {rest:List Oper} {u:Value} (hj:(ops[j]?).bind (·.dst)=some t) (ht:j9 env t=some u) (hu:u= .bool want) (hd:dO d N=true)
  (h:HO P β env L ⟨some d,op,ty,pos,aft,none⟩ fun v L'=>VO P ro β N ds ops ((d,v)::env) L' rest Q):VO P ro β N ds ops env L (⟨some d,op,ty,pos,aft,some (j,want)⟩::rest) Q:=by
 intro a w ha hw
 have ht':=ha.get t u ht
 have hy:yielded ops a.tmps j=vb u:=by
  unfold yielded;rw[hj];simp only[mn,ht'];cases u<;>rfl
 refine wpListIn_step fun K hK=>?_
 simp only[gZ,hy]
 subst hu
 simp only[vb,beq_self_eq_true,if_true]
 exact(h.guard (g':=some (j,want))).wp (fun x _ u hu=>ha.eval hu) hw fun v L' w' hk hs=>hK _ _ (hk _ w' (ha.put (bz hd) v) hs)
theorem LO.pkT {d:Option Nat} {c x y:Operand} {b:Bool} {v:Value} (hc:OV env c (.bool b)) (hb:b=true) (hx:OV env x v):LO P β env L ⟨d,.pick c x y,ty,pos,aft,g⟩ v:=
 .fy fun a w h hw=>⟨w,by subst hb;simp [execOp,h c (by simp [aL]) _ hc,h x (by simp [aL]) _ hx,asBool],hw⟩
theorem LO.pkF {d:Option Nat} {c x y:Operand} {b:Bool} {v:Value} (hc:OV env c (.bool b)) (hb:b=false) (hy:OV env y v):LO P β env L ⟨d,.pick c x y,ty,pos,aft,g⟩ v:=
 .fy fun a w h hw=>⟨w,by subst hb;simp [execOp,h c (by simp [aL]) _ hc,h y (by simp [aL]) _ hy,asBool],hw⟩
theorem HO.k8 {α:Type} {f:α→List Value} {l:List α} (x0:α) (i j:Nat) (LF:dg→List dg) {K:Value→List dg→Prop} {dd:Option Nat} {x y:Operand} {T T' E z by_:Nat} {aT:Array TypeId} {zero:Value} {p:Option Addr} {n cap b:Nat} {C:Array Value} (hT:ee P T E) (hT':ee P T' E) (hE:j6 P E z by_ zero) (hx:OV env x (.slice p n cap)) (hy:OV env y (.slice (some ⟨b,0,none⟩) 1 1))
  (hi:L[i]? =some (own E z p cap (l.map f))) (hj:L[j]? =some (gq b (.cells C E))) (hC:C=(f x0).toArray) (hr:fl (f x0).length z=true) (h1:mU (f x0)=true) (ha0:aT[0]? =some T) (ha1:aT[1]? =some T') (hL:∀R:dg,L.set i R=LF R) (hn:n=l.length) (hs:(2*(l.length+1)+768)*by_≤281474976710656)
  (k:∀p' cap',K (.slice p' (l++[x0]).length cap') (LF (own E z p' cap' ((l++[x0]).map f)))):HO P β env L ⟨dd,.call ⟨.builtin .append,#[x,y],aT⟩,ty,pos,aft,none⟩ K:=by
 subst hn
 refine HO.abA i j LF hT hT' hE hx hy hi hj hC hr h1 ha0 ha1 hL (by simp) hs fun p' cap'=>?_
 have:=k p' cap'
 rw[aJ,bG]at this
 exact this
theorem HO.TE {α:Type} (i:Nat) {r:dg} (LF:dg→List dg) {K:Value→List dg→Prop} {dd:Option Nat} {f:FuncId} {fx:Operand} {xs:List Operand} {vs first cap:List Value} {aT:Array TypeId} {v:α→Value} {r':α→dg} {I:α→Prop} (hi:L[i]? =some r) (hfx:OV env fx (.func (.func f) first.toArray cap.toArray)) (hf:fh P f) (hx:AA env xs vs) (hL:∀R:dg,L.set i R=LF R)
  (hc:∀w,St β L w→Calls P f (first++vs++cap).toArray w fun e w'=>∃x,I x∧e= .returned (v x)∧St ⟨w,r.fp⟩ [r' x] w') (k:∀x,I x→K (v x) (LF (r' x))):HO P β env L ⟨dd,.call ⟨.value fx,xs.toArray,aT⟩,ty,pos,aft,none⟩ K:=by
 intro a w h hw
 refine .inr (.inl ⟨f,(first++vs++cap).toArray,?_,?_⟩)
 ·have hm:xs.map a.eval=vs:=hx.map fun x hm u hu=>by obtain⟨u',hu',e⟩:=hu;subst e;exact h x (by simp [aL,eL,hm]) u' hu'
  have hfe:a.eval fx= .func (.func f) first.toArray cap.toArray:=by obtain⟨u',hu',e⟩:=hfx;subst e;exact h fx (by simp [aL,eL]) _ hu'
  simp [execOp,resolve,hfe,mJ,invoke,qG hf,hm]
 ·exact(hc w hw).mono fun e w' ⟨x,hI,he,hs⟩=>⟨v x,_,he,k x hI,by rw[←hL];exact hw.Nb i hi hs⟩
theorem LO.nc {d:Option Nat} {x:Operand} {p:Addr} (hx:OV env x (.pointer (some p))):LO P β env L ⟨d,.nilCheck x,ty,pos,aft,g⟩ (.pointer (some p)):=
 .fy fun a w h hw=>⟨w,by simp [execOp,h x (by simp [aL]) _ hx],hw⟩
theorem LO.jA {d:Option Nat} {x i:Operand} {T E z:Nat} {p:Option Addr} {n c j:Nat} {k:IntKind} {e:Int} (hT:ee P T E) (hz:(P.info? E).map (·.size)=some z) (hs:∀w,St β L w→jR p n) (hx:OV env x (.slice p n c)) (hi:OV env i (.int k e)) (he:e=(j:Int)) (hj:j<n):
  LO P β env L ⟨d,.indexAddr T x i,ty,pos,aft,g⟩ (.pointer (some ⟨pb p,po p+j*z,none⟩)):=
 fun a w h hw=>LO.iy (d:=d) (ty:=ty) (pos:=pos) (aft:=aft) (g:=g) hT hz (hs w hw) hx hi he hj a w h hw
theorem cO {α:Type} {f:α→List Value} {w:World} (hw:St β L w) (i:Nat) {E z:Nat} {p:Option Addr} {cap:Nat} {l:List α} (hi:L[i]? =some (own E z p cap (l.map f))) {j:Nat} {x:α} (hx:l[j]? =some x):fG w ⟨pb p,po p+j*z,none⟩ (f x):=
 (bL hw i hi).cells j _ (by rw[aI,hx];rfl)
theorem kJ {L0 L1:List dg} {js:List Nat} (is:List Nat) (hn:kN is=true) (h1:gY L is=L1) (h2:gY L0 js=L1):∀w,St β L w→St β (gY L0 js) w:=fun w hw=>by
 rw[h2, ←h1];exact hw.gY is hn
theorem VC.perm (is:List Nat) {c:Code} (hn:kN is=true) (h:VC P ro β N ds env (gY L is) c Q):VC P ro β N ds env L c Q:=fun a w ha hw=>h a w ha (hw.gY is hn)
theorem VC.T3 {φ:Prop} {c:Code} (h:∀w,St β L w→φ) (k:φ→VC P ro β N ds env L c Q):VC P ro β N ds env L c Q:=fun a w ha hw=>k (h w hw) a w ha hw
end
end Go.SL
namespace Go.SL
set_option linter.unusedVariables false
set_option linter.unusedSimpArgs false
open Go.RowKit
section
variable {P:Program}
def oT (P:Program):Nat→TypeId→Option Nat
 |0,_=>none
 |f+1,T=>
  match P.underlying T with
  |some (.int .i64)=>if(P.info? T).map (·.size)=some 1 then some 1 else none
  |some (.struct fs)=>
   if P.stoodInHeld T then none else
   match fs.toList.foldlM (fun(o:Nat) F=>if F.name= "_" ||F.offset≠o then none else(oT P f F.type).map (o+ ·)) 0 with
   |some n=>if(P.info? T).map (·.size)=some n then some n else none
   |none=>none
  |some (.array n E)=>
   match oT P f E with
   |some z=>if P.cellsOf E=z∧(P.info? E).map (·.size)=some z∧(P.info? T).map (·.size)=some (n*z) then some (n*z) else none
   |none=>none
  |_=>none
def yO (P:Program) (T:TypeId) («as» :List Int):Value:=match P.underlying T with
 |some (.struct _)=>.agg («as».map je).toArray
 |some (.array _ _)=>.agg («as».map je).toArray
 |_=>(«as».map je).head?.getD undef
theorem B3 {f:Nat} {T n:Nat} (h:oT P f T=some n) {«as» :List Int} {o:Nat} (ho:o+n≤ «as».length) (w:World):
  (part T («as».map je).toArray o).run P w= .ok (yO P T ((«as».drop o).take n)) w:=by
 cases f with
 |zero=>simp [oT]at h
 |succ f=>
  unfold oT at h
  unfold yO
  split at h
  ·rename_i hu
   split at h
   ·rename_i hs
    cases h
    have h1:jJ P T:=⟨⟨_,hu,rfl⟩,hs⟩
    have hlt:o< «as».length:=by omega
    have e:(«as».drop o).take 1=[«as»[o]]:=by
     rw[dN hlt];rfl
    simp [part,qC h1,hu,e,hlt]
   ·cases h
  ·rename_i fs hu
   split at h
   ·cases h
   ·split at h
    ·rename_i n' _
     split at h
     ·rename_i hs
      cases h
      have h1:lh P T n:=⟨⟨_,hu,rfl⟩,hs⟩
      simp only[part,bY,tw h1,bP,iz hs,if_true,dL,hu]
      congr 2
      apply qS
      simp [List.map_drop,List.map_take,List.extract]
     ·cases h
    ·cases h
  ·rename_i k E hu
   split at h
   ·rename_i z hz
    split at h
    ·rename_i hs
     cases h
     have h1:lh P T (k*z):=⟨⟨_,hu,rfl⟩,hs.2.2⟩
     simp only[part,bY,tw h1,bP,iz hs.2.2,if_true,dL,hu]
     congr 2
     apply qS
     simp [List.map_drop,List.map_take,List.extract]
    ·cases h
   ·cases h
  ·cases h
theorem zf {f dd:Nat} (ih:∀{T n:Nat},oT P f T=some n→∀{«as» bs:List Int}, «as».length=n→bs.length=n→∀w,(jg dd T (yO P T «as») (yO P T bs)).run P w= .ok (decide («as» =bs)) w):
  ∀(fs:List Field) (o n:Nat),fs.foldlM (fun(o:Nat) F=>if F.name= "_" ||F.offset≠o then none else(oT P f F.type).map (o+ ·)) o=some n→∀{«as» bs:List Int}, «as».length=n→bs.length=n→o≤n→∀w,
   (rB dd («as».map je).toArray (bs.map je).toArray fs).run P w= .ok (decide («as».drop o=bs.drop o)) w
 |[],o,n,h, «as»,bs,ha,hb,ho,w=>by
  simp at h
  subst h
  simp [rB,lK (pj ha),lK (pj hb)]
 |F::fs,o,n,h, «as»,bs,ha,hb,ho,w=>by
  simp only[xP]at h
  by_cases hc:(F.name= "_" ||F.offset≠o)=true
  ·rw[if_pos hc]at h;simp at h
  ·simp only[hc,cA,if_false]at h
   simp only[gP,decide_eq_true_eq,not_or,ne_eq,eK]at hc
   obtain⟨hn,hoff⟩:=hc
   cases hf:oT P f F.type with
   |none=>simp [hf]at h
   |some m=>
    simp only[hf,ft]at h
    replace h:List.foldlM (fun(o:Nat) F=>if F.name= "_" ||F.offset≠o then none else(oT P f F.type).map (o+ ·)) (o+m) fs=some n:=h
    have hle:o+m≤n:=Eo fs (o+m) n h
    simp only[rB,hn,ne_eq,not_false_eq_true,if_true,bY,hoff]
    rw[B3 hf (by omega) w]
    simp only[bP]
    rw[B3 hf (by omega) w]
    simp only[bP]
    rw[ih hf (by simp;omega) (by simp;omega) w]
    simp only[bP]
    have sp:∀l:List Int,l.drop o=(l.drop o).take m++l.drop (o+m):=by
     intro l
     have:=jh m (l.drop o)
     rw[ua]at this
     exact this.symm
    by_cases e:(«as».drop o).take m=(bs.drop o).take m
    ·simp only[e,decide_true,gp,cA,if_false]
     rw[zf ih fs (o+m) n h ha hb hle w]
     congr 2
     apply propext
     rw[sp «as»,sp bs,e]
     simp
    ·simp only[e,decide_false,Bool.not_false,if_true,dL]
     congr 1
     symm
     rw[decide_eq_false_iff_not]
     intro q
     exact e (by rw[q])
where
 Eo:∀(fs:List Field) (o n:Nat),fs.foldlM (fun(o:Nat) F=>if F.name= "_" ||F.offset≠o then none else(oT P f F.type).map (o+ ·)) o=some n→o≤n
  |[],o,n,h=>by simp at h;omega
  |F::fs,o,n,h=>by
   simp only[xP]at h
   by_cases hc:(F.name= "_" ||F.offset≠o)=true
   ·rw[if_pos hc]at h;simp at h
   ·simp only[hc,cA,if_false]at h
    cases hf:oT P f F.type with
    |none=>simp [hf]at h
    |some m=>
     simp only[hf,ft]at h
     have:=Eo fs (o+m) n h
     omega
theorem AO {f dd:Nat} {E z:Nat} (ih:∀{«as» bs:List Int}, «as».length=z→bs.length=z→∀w,(jg dd E (yO P E «as») (yO P E bs)).run P w= .ok (decide («as» =bs)) w) (hE:oT P f E=some z) {«as» bs:List Int}:
  ∀(m i:Nat), «as».length=(i+m)*z→bs.length=(i+m)*z→∀w,(xu dd E z («as».map je).toArray (bs.map je).toArray ((bF m).map (i+ ·))).run P w= .ok (decide («as».drop (i*z)=bs.drop (i*z))) w
 |0,i,ha,hb,w=>by
  simp at ha hb
  simp [xu,lK (pj ha),lK (pj hb)]
 |m+1,i,ha,hb,w=>by
  have e0:(bF (m+1)).map (i+ ·)=i::(bF m).map (i+1+ ·):=by
   rw[List.range_succ_eq_map]
   simp [Function.comp_def,Nat.add_assoc,Nat.add_comm 1]
  have hz1:i*z+z≤ «as».length:=by rw[ha,fQ,fQ];omega
  have hz2:i*z+z≤bs.length:=by rw[hb,fQ,fQ];omega
  rw[e0]
  simp only[xu,bY]
  rw[B3 hE hz1 w]
  simp only[bP]
  rw[B3 hE hz2 w]
  simp only[bP]
  rw[ih (by simp;omega) (by simp;omega) w]
  simp only[bP]
  have sp:∀l:List Int,l.drop (i*z)=(l.drop (i*z)).take z++l.drop ((i+1)*z):=by
   intro l
   have:=jh z (l.drop (i*z))
   rw[ua]at this
   rw[fQ,Nat.one_mul]
   exact this.symm
  by_cases e:(«as».drop (i*z)).take z=(bs.drop (i*z)).take z
  ·simp only[e,decide_true,gp,cA,if_false]
   rw[AO ih hE m (i+1) (by rw[ha];congr 1;omega) (by rw[hb];congr 1;omega) w]
   congr 2
   apply propext
   rw[sp «as»,sp bs,e]
   simp
  ·simp only[e,decide_false,Bool.not_false,if_true,dL]
   congr 1
   symm
   rw[decide_eq_false_iff_not]
   intro q
   exact e (by rw[q])
theorem tj:∀(f:Nat) {T n:Nat},oT P f T=some n→∀{«as» bs:List Int}, «as».length=n→bs.length=n→∀dd,f≤dd→∀w,(jg dd T (yO P T «as») (yO P T bs)).run P w= .ok (decide («as» =bs)) w
 |0,T,n,h,_,_,_,_,_,_,_=>by simp [oT]at h
 |f+1,T,n,h, «as»,bs,ha,hb,dd,hd,w=>by
  obtain⟨dd,rfl⟩:∃d',dd=d'+1:=⟨dd-1,by omega⟩
  unfold oT at h
  unfold yO
  split at h
  ·rename_i hu
   split at h
   ·cases h
    match «as»,bs,ha,hb with
    |[a],[b],_,_=>
     simp only[hu,gI,xv,List.head?_cons,gR,je]
     rw[run_equalIn_int w dd T .i64 .i64 a b hu]
     congr 1
     simp [BEq.beq]
   ·cases h
  ·rename_i fs hu
   split at h
   ·cases h
   ·rename_i hs
    split at h
    ·rename_i n' hf
     split at h
     ·cases h
      have hfs:P.fieldsOf T=fs:=by simp [Program.fieldsOf,hu]
      simp only[hu]
      rw[run_equalIn_struct w dd T _ _ (by rw[hfs];exact hu) (by simpa using hs),hfs]
      have:=zf (P:=P) (f:=f) (dd:=dd) (fun {T n} h2 {«as» bs} h3 h4 w=>tj f h2 h3 h4 dd (by omega) w) fs.toList 0 n hf ha hb (by omega) w
      simpa using this
     ·cases h
    ·cases h
  ·rename_i k E hu
   split at h
   ·rename_i z hz
    split at h
    ·rename_i hs
     cases h
     obtain⟨hc,hsz,_⟩:=hs
     obtain⟨i,hi,_⟩:∃i,P.info? E=some i∧i.size=z:=by
      cases q:P.info? E with
      |none=>simp [q]at hsz
      |some i=>exact⟨i,rfl,by simpa [q]using hsz⟩
     simp only[hu]
     rw[run_equalIn_array w dd _ _ hu hi,hc]
     have:=AO (P:=P) (f:=f) (dd:=dd) (E:=E) (z:=z) (fun {«as» bs} h3 h4 w=>tj f hz h3 h4 dd (by omega) w) hz («as» := «as») (bs:=bs) k 0 (by rw[ha];simp) (by rw[hb];simp) w
     simpa using this
    ·cases h
   ·cases h
  ·cases h
def yQ (P:Program) (T n:Nat):Prop:=(∃d,P.underlying T=some d∧(match d with| .struct _| .array _ _=>true|_=>false)=true)∧oT P 20 T=some n∧P.eqGuardType P.depth T=false
variable {ro:Option Nat} {β:Bs} {N:Nat} {ds:List Deferred} {env:Env} {L:List dg} {Q:Exit→Act→World→Prop}
variable {d:Option Nat} {ty:TypeId} {pos:String} {aft:Array Edge} {g:Option (Nat×Bool)}
theorem vd {T n:Nat} (hT:yQ P T n) («as» :List Int):yO P T «as» = .agg («as».map je).toArray:=by
 obtain⟨⟨d,hu,hd⟩,_⟩:=hT
 unfold yO;rw[hu];cases d<;>simp_all
theorem LO.eqA {x y:Operand} {T yT n:Nat} {«as» bs:List Int} (hT:yQ P T n) (hx:OV env x (.agg («as».map je).toArray)) (hy:OV env y (.agg (bs.map je).toArray)) (ha:fl «as».length n=true) (hb:fl bs.length n=true):LO P β env L ⟨d,.binOp .eql T x y yT,ty,pos,aft,g⟩ (.bool (decide («as» =bs))):=
 .fy fun a w h hw=>⟨w,by
  have h1:=tj (P:=P) 20 hT.2.1 («as» := «as») (bs:=bs) (cw ha) (cw hb) 10000 (by decide) w
  rw[vd hT,vd hT]at h1
  simp only[execOp,h x (by simp [aL]) _ hx,h y (by simp [aL]) _ hy,bY,run_eqGuard_agg w .eql T x y _ _ hT.2.2,bP,run_eql_struct,h1,dL],hw⟩
theorem LO.Qr {x y:Operand} {T yT n:Nat} {«as» bs:List Int} (hT:yQ P T n) (hx:OV env x (.agg («as».map je).toArray)) (hy:OV env y (.agg (bs.map je).toArray)) (ha:fl «as».length n=true) (hb:fl bs.length n=true):LO P β env L ⟨d,.binOp .neq T x y yT,ty,pos,aft,g⟩ (.bool (!decide («as» =bs))):=
 .fy fun a w h hw=>⟨w,by
  have h1:=tj (P:=P) 20 hT.2.1 («as» := «as») (bs:=bs) (cw ha) (cw hb) 10000 (by decide) w
  rw[vd hT,vd hT]at h1
  simp only[execOp,h x (by simp [aL]) _ hx,h y (by simp [aL]) _ hy,bY,run_eqGuard_agg w .neq T x y _ _ hT.2.2,bP,run_neq_struct,h1,dL],hw⟩
end
end Go.SL
namespace Go.Proofs.YtgemekpofpoopaaGreat
open Go.SL Go.Proofs Go.sM Go.Cell
set_option linter.unusedVariables false
theorem mj:cP af 58 0 0:=⟨_,_,l6,rfl,rfl,0,by kernel_rfl⟩
theorem mF:cP af 58 1 1:=⟨_,_,l6,rfl,rfl,0,by kernel_rfl⟩
theorem ZC:fh af 60:=⟨_,Tryz.func60,by decide,rfl⟩
theorem OP (n lo hi:Int) (w:World):
 Calls af 60 #[.int .i64 n,.int .i64 lo,.int .i64 hi] w fun e w'=>e= .returned (.bool (decide (lo≤n)&&decide (n≤hi)))∧St (bs w) [] w':=by
 refine enter (vs:=[_,_,_]) (env:=[(0,_),(1,_),(2,_)]) Tryz.func60 rfl rfl rfl rfl ?_
 refine au (ax rfl<|aq<|au (ag rfl<|ag rfl<|ah (LO.ge (.r rfl) (.r rfl)) rfl<|ag rfl<|bh rfl (fun hg=>aS (.r rfl))<|bh rfl (fun hg=>aS (.r rfl))<|bh rfl (fun hg=>LO.le (.g hg rfl) (.g hg rfl))<|ah (LO.qc (.r rfl) rfl rfl (.r rfl)) rfl<|ax rfl<|aq<|be (dP rfl rfl (fun w hw=>?_))))
 exact⟨rfl,hw.nil⟩
theorem Rz (s t lo hi:Int) (w:World):
 Calls af 92 #[.agg #[.int .i64 s,.int .i64 t],.int .i64 lo,.int .i64 hi] w fun e w'=>e= .returned (.bool ((decide (s≤t)&&decide (lo≤s))&&decide (t≤hi)))∧St (bs w) [] w':=by
 refine enter (vs:=[_,_,_]) (env:=[(0,_),(1,_),(2,_)]) Tryz.func92 rfl rfl rfl rfl ?_
 refine au (VO.h rfl<|c8 (C:=#[_,_]) rfl rfl fun b1=>ax rfl<|aq<|au (bO (r:=0) mj rfl<|cL 0 O3 rfl rfl ⟨_,rfl⟩ rfl<|bO (r:=1) mF rfl<|cL 0 O3 rfl rfl ⟨_,rfl⟩ rfl<|ah (LO.le (.r rfl) (.r rfl)) rfl<|ag rfl<|bh rfl (fun hg=>aP (r:=0) mj (.r rfl) rfl)<|bh rfl (fun hg=>aC O3 (.g hg rfl) (aF 0 rfl ⟨_,rfl⟩))<|bh rfl (fun hg=>aS (.r rfl))<|bh rfl (fun hg=>LO.ge (.g hg rfl) (.g hg rfl))<|ah (LO.qc (.r rfl) rfl rfl (.r rfl)) rfl<|ag rfl<|bh rfl (fun hg=>aP (r:=1) mF (.r rfl) rfl)<|bh rfl (fun hg=>aC O3 (.g hg rfl) (aF 0 rfl ⟨_,rfl⟩))<|bh rfl (fun hg=>aS (.r rfl))<|bh rfl (fun hg=>LO.le (.g hg rfl) (.g hg rfl))<|ah (LO.qc (.r rfl) rfl rfl (.r rfl)) rfl<|ax rfl<|aq<|be (dP rfl rfl (fun w hw=>?_))))
 exact⟨rfl,hw.nil⟩
theorem rq (g:eo) (w:World):
 Calls af 26 #[lL g] w fun e w'=>e= .returned (.int .i64 (kP g))∧St (bs w) [] w':=by
 refine enter (vs:=[_]) (env:=[(0,_)]) Tryz.func26 rfl rfl rfl rfl ?_
 refine au (VO.h rfl<|c8 (C:=#[_,_,_,_,_]) rfl rfl fun b1=>ax rfl<|aq<|av<|au (bO (r:=0) TG rfl<|cL 0 O3 rfl rfl ⟨_,rfl⟩ rfl<|ah (bK (xs:=[_,_,_]) (vs:=[_,_,_]) ZC ⟨(.r rfl),(.r rfl),(.r rfl),trivial⟩ (fun w _=>OP _ _ _ w)) rfl<|ah (LO.not (.r rfl)) rfl<|ag rfl<|aK rfl (fun hg=>aP (r:=1) Tu (.r rfl) rfl)<|aK rfl (fun hg=>aC O3 (.g hg rfl) (aF 0 rfl ⟨_,rfl⟩))<|aK rfl (fun hg=>bK (xs:=[_,_,_]) (vs:=[_,_,_]) ZC ⟨(.g hg rfl),(.r rfl),(.r rfl),trivial⟩ (fun w _=>OP _ _ _ w))<|aK rfl (fun hg=>LO.not (.g hg rfl))<|ah (cD (.r rfl) (.r rfl) rfl rfl) rfl<|ag rfl<|aK rfl (fun hg=>aP (r:=2) TZ (.r rfl) rfl)<|aK rfl (fun hg=>aC O3 (.g hg rfl) (aF 0 rfl ⟨_,rfl⟩))<|aK rfl (fun hg=>bK (xs:=[_,_,_]) (vs:=[_,_,_]) ZC ⟨(.g hg rfl),(.r rfl),(.r rfl),trivial⟩ (fun w _=>OP _ _ _ w))<|aK rfl (fun hg=>LO.not (.g hg rfl))<|ah (cD (.r rfl) (.r rfl) rfl rfl) rfl<|ag rfl<|aK rfl (fun hg=>aP (r:=3) iQ (.r rfl) rfl)<|aK rfl (fun hg=>aC O3 (.g hg rfl) (aF 0 rfl ⟨_,rfl⟩))<|aK rfl (fun hg=>bK (xs:=[_,_,_]) (vs:=[_,_,_]) ZC ⟨(.g hg rfl),(.r rfl),(.r rfl),trivial⟩ (fun w _=>OP _ _ _ w))<|aK rfl (fun hg=>LO.not (.g hg rfl))<|ah (cD (.r rfl) (.r rfl) rfl rfl) rfl<|ag rfl<|aK rfl (fun hg=>aP (r:=4) uH (.r rfl) rfl)<|aK rfl (fun hg=>aC O3 (.g hg rfl) (aF 0 rfl ⟨_,rfl⟩))<|aK rfl (fun hg=>bK (xs:=[_,_,_]) (vs:=[_,_,_]) ZC ⟨(.g hg rfl),(.r rfl),(.r rfl),trivial⟩ (fun w _=>OP _ _ _ w))<|aK rfl (fun hg=>LO.not (.g hg rfl))<|ah (cD (.r rfl) (.r rfl) rfl rfl) rfl<|aq ?_))
 refine ay rfl (fun h1=>?_) (fun h1=>?_)
 ·
  refine au (ax rfl<|aq<|be (bA (dP rfl rfl (fun w hw=>?_))))
  exact⟨by simp only[oq,kP];first |rw[if_pos (by unfold dH;omega)]|rw[if_neg (by unfold dH;omega)],hw.nil⟩
 ·
  refine aE (aj<|au (ax rfl<|aq<|be (dP rfl rfl (fun w hw=>?_))))
  exact⟨by simp only[oq,kP];first |rw[if_pos (by unfold dH;omega)]|rw[if_neg (by unfold dH;omega)],hw.nil⟩
theorem lO:cP af 35 0 0:=⟨_,_,nO,rfl,rfl,4,by kernel_rfl⟩
theorem qw:lh af 23 5:=⟨⟨_,iD,rfl⟩,by kernel_rfl⟩
theorem C25:fh af 25:=⟨_,Tryz.func25,by decide,rfl⟩
theorem lN:cP af 35 1 5:=⟨_,_,nO,rfl,rfl,0,by kernel_rfl⟩
theorem zH:jJ af 33:=⟨⟨_,qV,rfl⟩,by kernel_rfl⟩
theorem xq:ee af 33 58:=qV
theorem yA:(af.info? 58).map (·.size)=some 2:=by kernel_rfl
theorem Wi:lh af 58 2:=⟨⟨_,l6,rfl⟩,by kernel_rfl⟩
theorem Z58:dr af 58 (.agg #[.int .i64 0,.int .i64 0]):=by unfold dr;kernel_rfl
theorem C26:fh af 26:=⟨_,Tryz.func26,by decide,rfl⟩
theorem C92:fh af 92:=⟨_,Tryz.func92,by decide,rfl⟩
theorem oy:lh af 35 6:=⟨⟨_,nO,rfl⟩,by kernel_rfl⟩
theorem C62:fh af 62:=⟨_,Tryz.func62,by decide,rfl⟩
theorem C69:fh af 69:=⟨_,Tryz.func69,by decide,rfl⟩
structure Span where
 lo:Int
 hi:Int
def Span.cells (s:Span):List Value:=[.int .i64 s.lo,.int .i64 s.hi]
structure Field where
 g:eo
 ll:List Span
def fL (w:World) (p:Option Addr) (l:List Span):Prop:=pT w 2 p (l.map Span.cells)
theorem fL.some {w:World} {p:Option Addr} {l:List Span} (h:fL w p l):jR p l.length:=PJ h (by simp)
theorem fL.b0 {w0:World} {p:Option Addr} {l:List Span} (h:fL w0 p l) {L:List dg}:∀w,St (bs w0) L w→fL w p l:=PK h
theorem fL.at {w0:World} {p:Option Addr} {l:List Span} (h:fL w0 p l) {L:List dg} {j:Nat} (hj:j<l.length):∀w,St (bs w0) L w→fG w ⟨pb p,po p+j*2,none⟩ [.int .i64 (l.getD j ⟨0,0⟩).lo,.int .i64 (l.getD j ⟨0,0⟩).hi]:=
 fun w hw=>(h.b0 w hw).cells j _ (by simp [aw hj,ku,Span.cells])
theorem aA {w:World} {b o off:Nat} {C vs:List Value} (h:fG w ⟨b,o,none⟩ C) (hv:∃r,C.drop off=vs++r):fG w ⟨b,o+off,none⟩ vs:=by
 intro j v hj
 obtain⟨r,hr⟩:=hv
 have h1:C[off+j]? =some v:=by
  rw[←mY,hr,aV (an.1 hj).1];exact hj
 have h2:=h (off+j) v h1
 have e1:(⟨b,o,none⟩:Addr).add (off+j)=⟨b,o+(off+j),none⟩:=by unfold Addr.add;split<;>simp_all
 have e2:(⟨b,o+off,none⟩:Addr).add j=⟨b,o+off+j,none⟩:=by unfold Addr.add;split<;>simp_all
 rw[e1]at h2;rw[e2,Nat.add_assoc];exact h2
def iN (m:Int) (s:Span):Prop:=0≤s.lo∧s.lo≤s.hi∧s.hi≤m
instance (m:Int) (s:Span):Decidable (iN m s):=by unfold iN;exact inferInstance
def C3 (m:Int) (l:List Span) (i:Nat):Int:=if iN m (l.getD i ⟨0,0⟩) then 0 else 3
def eY (m:Int) (f:Field):Int:=if ¬dH f.g then 3 else if(f.ll.length:Int)≠f.g.wide*f.g.high then 11 else oN (C3 m f.ll) f.ll.length
def stE (s:List Int) (i:Nat):Int:=if 0≤s.getD i 0∧s.getD i 0≤2 then 0 else 3
def Bq (s:List Int) (f:Field) (lv:Int):Int:=if eY 1073741824 f≠0 then eY 1073741824 f else if s.length≠f.ll.length then 11 else if ¬(1≤lv∧lv≤1073741824) then 3 else oN (stE s) s.length
def Pk (s:List Int) (f:Field) (lv:Int) (p:Nat):Prop:=(s.getD p 0=2∧(f.ll.getD p ⟨0,0⟩).hi<lv)∨(s.getD p 0=0∧lv≤(f.ll.getD p ⟨0,0⟩).lo)
instance (s:List Int) (f:Field) (lv:Int) (p:Nat):Decidable (Pk s f lv p):=by unfold Pk;exact inferInstance
section
variable {m:Int} {f:Field} {s l:List Int} {lv:Int} {j:Nat}
theorem Bf (h:iN m (f.ll.getD j ⟨0,0⟩)):C3 m f.ll j=0:=if_pos h
theorem TI (h:¬kP f.g=0):kP f.g=eY m f:=by
 unfold eY
 by_cases q:dH f.g
 ·exact absurd (if_pos q) h
 ·rw[if_pos q];exact if_neg q
theorem Uk (hg:dH f.g) (h:¬(f.ll.length:Int)=f.g.wide*f.g.high):11=eY m f:=by
 unfold eY
 rw[if_neg (fun q=>q hg),if_pos h]
theorem Uj (hg:dH f.g) (h:(f.ll.length:Int)=f.g.wide*f.g.high) (hz:∀k,k<j→C3 m f.ll k=0) (hj:j<f.ll.length) (h4:¬iN m (f.ll.getD j ⟨0,0⟩)):3=eY m f:=by
 have e:C3 m f.ll j=3:=if_neg h4
 unfold eY
 rw[if_neg (fun q=>q hg),if_neg (fun q=>q h),A6 hz (by omega) hj,e]
theorem TX (hg:dH f.g) (h:(f.ll.length:Int)=f.g.wide*f.g.high) (hz:∀k,k<j→C3 m f.ll k=0) (hj:f.ll.length≤j):0=eY m f:=by
 unfold eY
 rw[if_neg (fun q=>q hg),if_neg (fun q=>q h),sJ (fun k hk=>hz k (by omega))]
theorem Zn (h:¬eY 1073741824 f=0):eY 1073741824 f=Bq s f lv:=by unfold Bq;rw[if_pos h]
theorem hE2 (h:eY 1073741824 f=0) (h2:¬s.length=f.ll.length):11=Bq s f lv:=by unfold Bq;rw[if_neg (fun q=>q h),if_pos h2]
theorem XJ (h:eY 1073741824 f=0) (h2:s.length=f.ll.length) (h3:¬(1≤lv∧lv≤1073741824)):3=Bq s f lv:=by unfold Bq;rw[if_neg (fun q=>q h),if_neg (fun q=>q h2),if_pos h3]
end
theorem N8 (f:Field) (pv:Option Addr) (cv:Nat) (m:Int) (w:World) (hv:fL w pv f.ll):
 Calls af 62 #[.agg #[.int .i64 f.g.x,.int .i64 f.g.y,.int .i64 f.g.size,.int .i64 f.g.wide,.int .i64 f.g.high,.slice pv f.ll.length cv],.int .i64 m] w fun e w'=>e= .returned (.int .i64 (eY m f))∧St (bs w) [] w':=by
 refine enter (vs:=[_,_]) (env:=[(0,_),(1,_)]) Tryz.func62 rfl rfl rfl rfl ?_
 refine au (VO.h rfl<|c8 (C:=#[_,_,_,_,_,_]) rfl rfl fun b1=>ax rfl<|aq<|av<|au (bO (r:=0) lO rfl<|ah (aX (vs:=[_,_,_,_,_]) qw (.r rfl) (aF 0 rfl ⟨_,rfl⟩) rfl) rfl<|ah (bK (xs:=[_]) (vs:=[_]) C25 ⟨(.r rfl),trivial⟩ (fun w _=>sA f.g w)) rfl<|ax rfl<|aq ?_))
 refine au (ag rfl<|VO.u rfl<|aq<|ay rfl (fun h1=>?_) (fun h1=>?_))
 ·
  refine au (ag rfl<|ax rfl<|aq<|be (bA (dP rfl rfl (fun w hw=>?_))))
  refine⟨?_,hw.nil⟩
  simp only[oq]
  congr 2
  first |exact TI (by simpa using h1)|exact Uk hgo (by simpa using h2)|exact Uj hgo (by simpa using h2) hz (by omega) (by unfold iN;omega)|exact TX hgo (by simpa using h2) hz (by omega)
 ·
  have hgo:dH f.g:=A5 (by simpa using h1)
  have har:=Ch hgo
  refine aE (aj<|av<|au (bO (r:=5) lN rfl<|cL 0 zH rfl rfl ⟨_,rfl⟩ rfl<|ah (LO.len xq (.r rfl) rfl) rfl<|bO (r:=0) lO rfl<|bO (r:=3) iQ rfl<|cL 0 O3 rfl rfl ⟨_,rfl⟩ rfl<|bO (r:=0) lO rfl<|bO (r:=4) uH rfl<|cL 0 O3 rfl rfl ⟨_,rfl⟩ rfl<|ah (LO.mul (.r rfl) (.r rfl) (wi (by omega) (by omega))) rfl<|VO.u rfl<|aq<|ay rfl (fun h2=>?_) (fun h2=>?_)))
  ·
   refine au (ax rfl<|aq<|be (bA (dP rfl rfl (fun w hw=>?_))))
   refine⟨?_,hw.nil⟩
   simp only[oq]
   congr 2
   first |exact TI (by simpa using h1)|exact Uk hgo (by simpa using h2)|exact Uj hgo (by simpa using h2) hz (by omega) (by unfold iN;omega)|exact TX hgo (by simpa using h2) hz (by omega)
  ·
   refine aE (aj<|av<|au (bO (r:=5) lN rfl<|cL 0 zH rfl rfl ⟨_,rfl⟩ rfl<|ah (LO.len xq (.r rfl) rfl) rfl<|ag rfl<|aq<|aD<|VC.eg (α:=Nat) 0 (fun gx=>[(28,.int .i64 (gx:Nat))]) [(1,_),(26,_),(27,_)] (fun gx=>[]) (fun gx=>gx≤f.ll.length∧∀k,k<gx→C3 m f.ll k=0) (fun gx=>f.ll.length-gx) 0 (by exact⟨by omega,fun k hk=>by omega⟩) (.c4 rfl rfl rfl rfl .nil) (fun _ h=>h) ?_))
   rintro j ⟨hj,hz⟩
   refine au (VO.t rfl<|aq<|av<|ay rfl (fun h3=>?_) (fun h3=>?_))
   ·
    refine aE (aj<|av<|aD<|au (ah (LO.iy xq yA hv.some (.r rfl) (.r rfl) rfl (by omega)) rfl<|ah (aX (vs:=[_,_]) Wi (.r rfl) (fun w hw=>aA (off:=0) ((hv.at (j:=j) (by omega)) w hw) ⟨_,rfl⟩) rfl) rfl<|VO.h rfl<|HO.alloc (C:=#[_,_]) Z58 rfl fun b2=>VO.h0<|HO.st 0 (vs:=[_,_]) (C':=[_,_]) (L':=[_,_]) yA rfl rfl rfl rfl rfl rfl rfl rfl<|aq<|av ?_))
    refine VC.eX (bO (r:=0) mj rfl<|cL 0 O3 rfl rfl ⟨_,rfl⟩ rfl<|VO.t rfl<|ag rfl<|aK rfl (fun hg=>aP (r:=1) mF (.r rfl) rfl)<|aK rfl (fun hg=>aC O3 (.g hg rfl) (aF 0 rfl ⟨_,rfl⟩))<|aK rfl (fun hg=>aP (r:=0) mj (.r rfl) rfl)<|aK rfl (fun hg=>aC O3 (.g hg rfl) (aF 0 rfl ⟨_,rfl⟩))<|aK rfl (fun hg=>LO.lt (.g hg rfl) (.g hg rfl))<|ah (cD (.r rfl) (.r rfl) rfl rfl) rfl<|ag rfl<|aK rfl (fun hg=>aP (r:=1) mF (.r rfl) rfl)<|aK rfl (fun hg=>aC O3 (.g hg rfl) (aF 0 rfl ⟨_,rfl⟩))<|aK rfl (fun hg=>aS (.r rfl))<|aK rfl (fun hg=>LO.gt (.g hg rfl) (.g hg rfl))<|ah (cD (.r rfl) (.r rfl) rfl rfl) rfl<|aq<|ay rfl (fun h4=>?_) (fun h4=>?_))
    ·
     refine au (ax rfl<|aq<|be (dA (bA (bA (dA (bA (dP rfl rfl (fun w hw=>?_))))))))
     refine⟨?_,hw.nil⟩
     simp only[oq]
     congr 2
     first |exact TI (by simpa using h1)|exact Uk hgo (by simpa using h2)|exact Uj hgo (by simpa using h2) hz (by omega) (by unfold iN;omega)|exact TX hgo (by simpa using h2) hz (by omega)
    ·
     refine aE (bB (aj<|VC.eX (VO.p rfl rfl (by omega) (by omega) rfl<|ag rfl<|VO.nil<|VE.df fun a w ha hw=>⟨j+1,⟨by omega,tf hz (Bf (by unfold iN;omega))⟩,(by omega),ha.sub (.c4 rfl rfl rfl rfl .nil),hw.gY [1] rfl⟩)))
   ·
    refine VC.exit (VE.bZ (VE.bZ (VE.jT (aj<|au (ax rfl<|aq<|be (dP rfl rfl (fun w hw=>?_)))))))
    refine⟨?_,hw.nil⟩
    simp only[oq]
    congr 2
    first |exact TI (by simpa using h1)|exact Uk hgo (by simpa using h2)|exact Uj hgo (by simpa using h2) hz (by omega) (by unfold iN;omega)|exact TX hgo (by simpa using h2) hz (by omega)
theorem U6 (f:Field) (pv:Option Addr) (cv:Nat) (m:Int) (w:World) (hv:fL w pv f.ll):
 Calls af 69 #[.agg #[.int .i64 f.g.x,.int .i64 f.g.y,.int .i64 f.g.size,.int .i64 f.g.wide,.int .i64 f.g.high,.slice pv f.ll.length cv],.int .i64 m] w fun e w'=>e= .returned (.int .i64 (eY m f))∧St (bs w) [] w':=by
 refine enter (vs:=[_,_]) (env:=[(0,_),(1,_)]) Tryz.func69 rfl rfl rfl rfl ?_
 refine au (VO.h rfl<|c8 (C:=#[_,_,_,_,_,_]) rfl rfl fun b1=>ax rfl<|aq<|au (bO (r:=0) lO rfl<|ah (aX (vs:=[_,_,_,_,_]) qw (.r rfl) (aF 0 rfl ⟨_,rfl⟩) rfl) rfl<|ah (bK (xs:=[_]) (vs:=[_]) C26 ⟨(.r rfl),trivial⟩ (fun w _=>rq f.g w)) rfl<|ax rfl<|aq<|av ?_))
 refine au (ag rfl<|VO.u rfl<|aq<|ay rfl (fun h1=>?_) (fun h1=>?_))
 ·
  refine au (ag rfl<|ax rfl<|aq<|be (bA (dP rfl rfl (fun w hw=>?_))))
  refine⟨?_,hw.nil⟩
  simp only[oq]
  congr 2
  first |exact TI (by simpa using h1)|exact Uk hgo (by simpa using h2)|exact Uj hgo (by simpa using h2) hz (by omega) (by unfold iN;omega)|exact TX hgo (by simpa using h2) hz (by omega)
 ·
  have hgo:dH f.g:=A5 (by simpa using h1)
  have har:=Ch hgo
  refine aE (aj<|av<|au (bO (r:=5) lN rfl<|cL 0 zH rfl rfl ⟨_,rfl⟩ rfl<|ah (LO.len xq (.r rfl) rfl) rfl<|bO (r:=0) lO rfl<|bO (r:=3) iQ rfl<|cL 0 O3 rfl rfl ⟨_,rfl⟩ rfl<|bO (r:=0) lO rfl<|bO (r:=4) uH rfl<|cL 0 O3 rfl rfl ⟨_,rfl⟩ rfl<|ah (LO.mul (.r rfl) (.r rfl) (wi (by omega) (by omega))) rfl<|VO.u rfl<|aq<|ay rfl (fun h2=>?_) (fun h2=>?_)))
  ·
   refine au (ax rfl<|aq<|be (bA (dP rfl rfl (fun w hw=>?_))))
   refine⟨?_,hw.nil⟩
   simp only[oq]
   congr 2
   first |exact TI (by simpa using h1)|exact Uk hgo (by simpa using h2)|exact Uj hgo (by simpa using h2) hz (by omega) (by unfold iN;omega)|exact TX hgo (by simpa using h2) hz (by omega)
  ·
   refine aE (aj<|av<|au (ax rfl<|aq<|aD<|VC.eg (α:=Nat) 0 (fun gx=>[(6,.int .i64 (gx:Nat))]) [(1,_),(2,_)] (fun gx=>[]) (fun gx=>gx≤f.ll.length∧∀k,k<gx→C3 m f.ll k=0) (fun gx=>f.ll.length-gx) 0 (by exact⟨by omega,fun k hk=>by omega⟩) (.cons rfl (.cons rfl (.cons rfl .nil))) (fun _ h=>h) ?_))
   rintro j ⟨hj,hz⟩
   refine av<|au (ag rfl<|bO (r:=5) lN rfl<|cL 0 zH rfl rfl ⟨_,rfl⟩ rfl<|ah (LO.len xq (.r rfl) rfl) rfl<|VO.t rfl<|aq<|ay rfl (fun h3=>?_) (fun h3=>?_))
   ·
    refine aE (aj<|av<|aD<|au (bO (r:=5) lN rfl<|cL 0 zH rfl rfl ⟨_,rfl⟩ rfl<|ag rfl<|ah (LO.iy xq yA hv.some (.r rfl) (.r rfl) rfl (by omega)) rfl<|ah (aX (vs:=[_,_]) Wi (.r rfl) (fun w hw=>aA (off:=0) ((hv.at (j:=j) (by omega)) w hw) ⟨_,rfl⟩) rfl) rfl<|ag rfl<|ah (bK (xs:=[_,_,_]) (vs:=[_,_,_]) C92 ⟨(.r rfl),(.r rfl),(.r rfl),trivial⟩ (fun w _=>Rz _ _ _ _ w)) rfl<|ah (LO.not (.r rfl)) rfl<|aq<|ay rfl (fun h4=>?_) (fun h4=>?_)))
    ·
     refine au (ax rfl<|aq<|be (dA (bA (bA (dA (bA (dP rfl rfl (fun w hw=>?_))))))))
     refine⟨?_,hw.nil⟩
     simp only[oq]
     congr 2
     first |exact TI (by simpa using h1)|exact Uk hgo (by simpa using h2)|exact Uj hgo (by simpa using h2) hz (by omega) (by unfold iN;omega)|exact TX hgo (by simpa using h2) hz (by omega)
    ·
     refine aE (bB (aj<|VC.eX (ag rfl<|VO.p rfl rfl (by omega) (by omega) rfl<|ax rfl<|VO.nil<|VE.df fun a w ha hw=>⟨j+1,⟨by omega,tf hz (Bf (by unfold iN;omega))⟩,(by omega),ha.sub (.cons rfl (.cons rfl (.cons rfl .nil))),hw⟩)))
   ·
    refine VC.exit (VE.bZ (VE.bZ (VE.jT (aj<|au (ax rfl<|aq<|be (dP rfl rfl (fun w hw=>?_)))))))
    refine⟨?_,hw.nil⟩
    simp only[oq]
    congr 2
    first |exact TI (by simpa using h1)|exact Uk hgo (by simpa using h2)|exact Uj hgo (by simpa using h2) hz (by omega) (by unfold iN;omega)|exact TX hgo (by simpa using h2) hz (by omega)
theorem kA (f:Field) (pv:Option Addr) (cv:Nat) (w:World) (hv:fL w pv f.ll):
 Calls af 30 #[.agg #[.int .i64 f.g.x,.int .i64 f.g.y,.int .i64 f.g.size,.int .i64 f.g.wide,.int .i64 f.g.high,.slice pv f.ll.length cv]] w fun e w'=>e= .returned (.int .i64 (eY 1073741824 f))∧St (bs w) [] w':=by
 refine enter (vs:=[_]) (env:=[(0,_)]) Tryz.func30 rfl rfl rfl rfl ?_
 refine au (VO.h rfl<|c8 (C:=#[_,_,_,_,_,_]) rfl rfl fun b1=>ax rfl<|aq<|au (ah (aX (vs:=[_,_,_,_,_,_]) oy (.r rfl) (aF 0 rfl ⟨_,rfl⟩) rfl) rfl<|ah (bK (xs:=[_,_]) (vs:=[_,_]) C62 ⟨(.r rfl),(.r rfl),trivial⟩ (fun w hw=>N8 f pv cv _ w (hv.b0 w hw))) rfl<|ax rfl<|aq<|be (dP rfl rfl (fun w hw=>?_))))
 exact⟨rfl,hw.nil⟩
theorem tW (f:Field) (pv:Option Addr) (cv:Nat) (w:World) (hv:fL w pv f.ll):
 Calls af 35 #[.agg #[.int .i64 f.g.x,.int .i64 f.g.y,.int .i64 f.g.size,.int .i64 f.g.wide,.int .i64 f.g.high,.slice pv f.ll.length cv]] w fun e w'=>e= .returned (.int .i64 (eY 1073741824 f))∧St (bs w) [] w':=by
 refine enter (vs:=[_]) (env:=[(0,_)]) Tryz.func35 rfl rfl rfl rfl ?_
 refine au (VO.h rfl<|c8 (C:=#[_,_,_,_,_,_]) rfl rfl fun b1=>ax rfl<|aq<|au (ah (aX (vs:=[_,_,_,_,_,_]) oy (.r rfl) (aF 0 rfl ⟨_,rfl⟩) rfl) rfl<|ah (bK (xs:=[_,_]) (vs:=[_,_]) C69 ⟨(.r rfl),(.r rfl),trivial⟩ (fun w hw=>U6 f pv cv _ w (hv.b0 w hw))) rfl<|ax rfl<|aq<|be (dP rfl rfl (fun w hw=>?_))))
 exact⟨rfl,hw.nil⟩
end Go.Proofs.YtgemekpofpoopaaGreat
namespace Go.SL
set_option linter.unusedVariables false
open Go.RowKit
theorem St.Cp {β:Bs} {L L':List dg} {w:World} (h:St β L w) (hp:List.Perm L L'):St β L' w:=by
 have mem:∀{r:dg},r∈L'→∃i:Nat,L[i]? =some r:=fun hr=>by
  obtain⟨i,hi,e⟩:=fD (hp.symm.subset hr)
  exact⟨i,by rw[aw hi,e]⟩
 have hpw:L.Pairwise (fun r s:dg=>∀k,r.fp k→¬s.fp k):=cj.2 fun i j hi hj hij k hk=>h.A2 i j _ _ (by omega) (aw hi) (aw hj) k hk
 have hpw':=(hp.pairwise_iff (fun {r s} (q:∀k,r.fp k→¬s.fp k) k hs hr=>q k hr hs)).1 hpw
 refine⟨h.os,h.tape,h.output,h.size,h.fr,?_,?_,?_⟩
 ·intro i r hr
  obtain⟨j,hj⟩:=mem (al hr)
  exact h.inv j r hj
 ·intro i r hr
  obtain⟨j,hj⟩:=mem (al hr)
  exact h.qE j r hj
 ·intro i j r s hij hr hs k hk hk2
  obtain⟨hi,e1⟩:=an.1 hr
  obtain⟨hj,e2⟩:=an.1 hs
  rcases bf i j with q|q
  ·have:=cj.1 hpw' i j hi hj q k
   rw[e1,e2]at this;exact this hk hk2
  ·have:=cj.1 hpw' j i hj hi (by omega) k
   rw[e1,e2]at this;exact this hk2 hk
structure FS where
 i:Nat
 d:Nat
 val:Nat→Value
 T:TypeId
 C:Array Value
def FS.res (s:FS) (b:Nat):dg:=gq b (.cells s.C s.T)
def FO (P:Program) (env:Env) (o:Oper) (s:FS):Prop:=
 o.dst=some s.d∧o.guard=none∧∀(a:Act) (w:World),(∀x,x∈o.op.operands→∀u,ev env x=some u→a.eval x=u)→(execOp a.eval o).run P w= .ok (.value (s.val w.heap.size)) (w.alloc (.cells s.C s.T))
def Bc (FT:List FS) (i:Nat):Option FS:=FT.find? fun s=>fl s.i i
def HY (P:Program) (β:Bs) (N:Nat) (ds:List Deferred) (J:Nat→List dg) (Q:Exit→Act→World→Prop) (FT:List FS):Nat→Nat→List Oper→List (Option Nat)→Env→List dg→Prop
 |_,_,[],_,env,L=>VE β N ds env L .normal Q
 |m,i,o::r,some _::ms,env,L=>HY P β N ds J Q FT m (i+1) r ms env L
 |m,i,o::r,none::ms,env,L=>
  (∃s,Bc FT i=some s∧∀b,(∀w,St β (s.res b::L) w→St β (J (m+1)) w)∧HY P β N ds J Q FT (m+1) (i+1) r ms ((s.d,s.val b)::env) (s.res b::L))∨
  (Bc FT i=none∧o.guard=none∧(∀d,o.dst=some d→d<N)∧∀X,HO P β env (L++X) o fun v L''=>∃L',L''=L'++X∧(∀w,St β L' w→St β (J (m+1)) w)∧HY P β N ds J Q FT (m+1) (i+1) r ms (qH o v env) L')
 |_,_,_::_,[],_,_=>False
section
variable {P:Program} {ro:Option Nat} {β:Bs} {ds:List Deferred} {N:Nat} {J:Nat→List dg} {Q:Exit→Act→World→Prop} {FT:List FS} {env:Env} {L:List dg}
theorem HY.nil {m i:Nat} {ms:List (Option Nat)} (h:VE β N ds env L .normal Q):HY P β N ds J Q FT m i [] ms env L:=h
theorem HY.s {m i k:Nat} {o:Oper} {rest:List Oper} {ms:List (Option Nat)} (h:HY P β N ds J Q FT m (i+1) rest ms env L):HY P β N ds J Q FT m i (o::rest) (some k::ms) env L:=h
theorem HY.f {m i:Nat} {o:Oper} {rest:List Oper} {ms:List (Option Nat)} {s:FS} (hs:Bc FT i=some s) (h:∀b,(∀w,St β (s.res b::L) w→St β (J (m+1)) w)∧HY P β N ds J Q FT (m+1) (i+1) rest ms ((s.d,s.val b)::env) (s.res b::L)):HY P β N ds J Q FT m i (o::rest) (none::ms) env L:=.inl ⟨s,hs,h⟩
theorem HY.h {m i d:Nat} {op:Op} {ty:TypeId} {pos:String} {aft:Array Edge} {rest:List Oper} {ms:List (Option Nat)} (hs:Bc FT i=none) (hd:dO d N=true)
  (h:∀X,HO P β env (L++X) ⟨some d,op,ty,pos,aft,none⟩ fun v L''=>∃L',L''=L'++X∧(∀w,St β L' w→St β (J (m+1)) w)∧HY P β N ds J Q FT (m+1) (i+1) rest ms ((d,v)::env) L'):HY P β N ds J Q FT m i (⟨some d,op,ty,pos,aft,none⟩::rest) (none::ms) env L:=
 .inr ⟨hs,rfl,(fun d' hd'=>by cases hd';exact bz hd),h⟩
theorem HY.h0 {m i:Nat} {op:Op} {ty:TypeId} {pos:String} {aft:Array Edge} {rest:List Oper} {ms:List (Option Nat)} (hs:Bc FT i=none)
  (h:∀X,HO P β env (L++X) ⟨none,op,ty,pos,aft,none⟩ fun v L''=>∃L',L''=L'++X∧(∀w,St β L' w→St β (J (m+1)) w)∧HY P β N ds J Q FT (m+1) (i+1) rest ms env L'):HY P β N ds J Q FT m i (⟨none,op,ty,pos,aft,none⟩::rest) (none::ms) env L:=
 .inr ⟨hs,rfl,(fun d' hd'=>by cases hd'),h⟩
theorem HY.drop {l:List Oper} {ms:List (Option Nat)} {m p:Nat}:∀(k:Nat),HY P β N ds J Q FT m p (l.drop p) (ms.drop p) env L→p+k≤l.length→(∀i,p≤i→i<p+k→dy ms i=true)→HY P β N ds J Q FT m (p+k) (l.drop (p+k)) (ms.drop (p+k)) env L
 |0,h,_,_=>h
 |k+1,h,hk,hl=>by
  have ih:=HY.drop k h (by omega) (fun i a b=>hl i a (by omega))
  have hlt:p+k<l.length:=by omega
  have hli:=hl (p+k) (by omega) (by omega)
  rw[dN hlt]at ih
  cases q:ms[p+k]? with
  |none=>simp [dy,q]at hli
  |some x=>
   have hml:p+k<ms.length:=(an.1 q).1
   rw[dN hml]at ih
   have e:ms[p+k]=x:=(an.1 q).2
   rw[e]at ih
   cases x with
   |none=>simp [dy,q]at hli
   |some y=>exact ih
def Vb (l:List Oper) (ms:List (Option Nat)) (js:List (List Nat)) (FT:List (Nat×Nat)):Bool:=
  let cl:=jM l
  let n:=l.length
  let isFi:=fun i=>FT.any fun s=>fl s.1 i
  let isD:=fun t=>FT.any fun s=>fl s.2 t
  kN (FT.map (·.1))&&kN (FT.map (·.2))&&
  FT.all (fun s=>dO s.1 n&&gb ms s.1&&fH l s.1 s.2)&&
  fl ms.length n&&js.all kN&&((idxs js.length).all fun m=>(js.getD (m+1) []).all (js.getD m []).contains)&&
  (idxs n).all fun k=>
    match l[k]? with
    |none=>false
    |some o=>
      o.after.toList.all (fun e=> !eH .any e||dO e.on k)&&
      (cl.getD k []).all (fun i=>o.after.toList.any fun e=>eH .any e&&(fl e.on i||(cl.getD e.on []).contains i))&&
      o.after.toList.all (fun e=> !eH .any e||(cl.getD k []).contains e.on)&&
      (dy ms k||isFi k||(idxs n).all fun i=> !gb ms i|| !dO i k||(cl.getD k []).contains i)&&
      (match ms.getD k none with|some m=>(idxs n).all fun i=> !gb ms i||dO (jC ms i) m||(cl.getD i []).contains k|none=>true)&&
      (match o.dst with
       |none=> !dy ms k
       |some d=>((idxs n).all fun i=> !fH l i d|| !ahead ms i k||(cl.getD k []).contains i)&&(isFi k|| !isD d))&&
      ((jY l.toArray o).all fun t=>((idxs n).all fun i=> !fH l i t||((!ahead ms i k||(cl.getD k []).contains i)&&(!ahead ms k i||(cl.getD i []).contains k)))&&(!(dy ms k||isFi k)|| !isD t)&&(!isFi k|| !(idxs n).any fun i=>gb ms i&&fH l i t)&&(FT.all fun s=> !fl s.2 t||dO s.1 k))
structure E7 (l:List Oper) (ms:List (Option Nat)) (js:List (List Nat)) (FT:List FS):Prop where
 len:ms.length=l.length
 jn:∀m,kN (js.getD m [])=true
 js:∀m,(js.getD (m+1) []).all (js.getD m []).contains=true
 fi:∀s,s∈FT→s.i<l.length∧gb ms s.i=true∧fH l s.i s.d=true
 ni:(FT.map (·.i)).Nodup
 nd:(FT.map (·.d)).Nodup
 ops:∀k o,l[k]? =some o→
   (∀e,e∈o.after.toList→eH .any e=true→e.on<k)∧
   (∀i,i∈(jM l).getD k []→∃e,e∈o.after.toList∧eH .any e=true∧(e.on=i∨i∈(jM l).getD e.on []))∧
   (gb ms k=true→Bc FT k=none→∀i,i<k→gb ms i=true→i∈(jM l).getD k [])∧
   (∀m,ms[k]? =some (some m)→∀i,i<l.length→gb ms i=true→jC ms i<m∨k∈(jM l).getD i [])∧
   (∀d,o.dst=some d→(∀i,i<l.length→fH l i d=true→ahead ms i k=true→i∈(jM l).getD k [])∧(Bc FT k=none→∀s,s∈FT→s.d≠d))∧
   (∀t,t∈jY l.toArray o→(∀i,i<l.length→fH l i t=true→(ahead ms i k=true→i∈(jM l).getD k [])∧(ahead ms k i=true→k∈(jM l).getD i []))∧
    ((dy ms k=true∨Bc FT k≠none)→∀s,s∈FT→s.d≠t)∧(Bc FT k≠none→∀i,i<l.length→gb ms i=true→fH l i t=false)∧∀s,s∈FT→s.d=t→s.i<k)
theorem sH {i:Nat} {s:FS} (h:Bc FT i=some s):s∈FT∧s.i=i:=⟨List.mem_of_find?_eq_some h,cw (List.find?_some (p:=fun s:FS=>fl s.i i) h)⟩
theorem Dx {i:Nat} (h:Bc FT i=none):∀s,s∈FT→s.i≠i:=fun s hs e=>by
 have:=List.find?_eq_none.1 h s hs
 rw[e]at this;simp at this
theorem Sy (hn:(FT.map (·.i)).Nodup) {s:FS} (hs:s∈FT):Bc FT s.i=some s:=by
 cases q:Bc FT s.i with
 |none=>exact absurd rfl (Dx q s hs)
 |some u=>
  obtain⟨h1,h2⟩:=sH q
  have hnd:=cj.1 hn
  obtain⟨p1,hp1,e1⟩:=fD h1
  obtain⟨p2,hp2,e2⟩:=fD hs
  rcases ic p1 p2 with r|r|r
  ·exact absurd (by rw[jx,jx,e1,e2,h2]) (hnd p1 p2 (by simpa using hp1) (by simpa using hp2) r)
  ·subst r;rw[←e1,e2]
  ·exact absurd (by rw[jx,jx,e1,e2,h2]) (hnd p2 p1 (by simpa using hp2) (by simpa using hp1) r)
theorem AY:∀{l:List Nat},kN l=true→l.Nodup:=fun {l} h=>by
 rw[List.Nodup,cj]
 intro i j hi hj hij
 exact oD h i j hi hj (by omega)
theorem F5 {d t:Nat} (e:t≠d):fl d t=false:=by
 cases q:fl d t
 ·rfl
 ·exact absurd (cw q).symm e
theorem E7.of {l:List Oper} {ms:List (Option Nat)} {js:List (List Nat)} (h:Vb l ms js (FT.map fun s=>(s.i,s.d))=true):E7 l ms js FT:=by
 unfold Vb at h
 simp only[bD]at h
 obtain⟨⟨⟨⟨⟨⟨n1,n2⟩,n5⟩,h1⟩,h2⟩,h3⟩,h4⟩:=h
 have hlen:=cw h1
 have key:∀k o,l[k]? =some o→_:=fun k o hk=>by
  have hlt:k<l.length:=(an.1 hk).1
  have h5:=cz.1 h4 k (by simpa [idxs]using hlt)
  simp only[hk,bD]at h5
  exact h5
 have anyF:∀k,Bc FT k=none→((FT.map fun s=>(s.i,s.d)).any fun s=>fl s.1 k)=false:=fun k hk=>by
  cases q:(FT.map fun s=>(s.i,s.d)).any fun s=>fl s.1 k with
  |false=>rfl
  |true=>
   obtain⟨x,hx,e⟩:=dY.1 q
   obtain⟨s,hs,rfl⟩:=bN.1 hx
   exact absurd (cw e) (Dx hk s hs)
 have anyF':∀k,Bc FT k≠none→((FT.map fun s=>(s.i,s.d)).any fun s=>fl s.1 k)=true:=fun k hk=>by
  cases q:Bc FT k with
  |none=>exact absurd q hk
  |some s=>
   obtain⟨a,b⟩:=sH q
   exact dY.2 ⟨(s.i,s.d),bN.2 ⟨s,a,rfl⟩,by rw[b];exact gV _⟩
 have anyD:∀t,((FT.map fun s=>(s.i,s.d)).any fun s=>fl s.2 t)=false→∀s,s∈FT→s.d≠t:=fun t ht s hs e=>by
  have:((FT.map fun s=>(s.i,s.d)).any fun s=>fl s.2 t)=true:=dY.2 ⟨(s.i,s.d),bN.2 ⟨s,hs,rfl⟩,by rw[e];exact gV _⟩
  rw[ht]at this;cases this
 have nl:∀k,k<l.length→gb ms k=true→dy ms k=false:=fun k hk hh=>by
  rcases dW hlen hk with⟨_,b,_⟩|⟨a,_,_⟩
  ·rw[b]at hh;cases hh
  ·exact a
 refine⟨hlen,?_,?_,?_,?_,?_,?_⟩
 ·intro m
  cases q:js[m]? with
  |none=>simp [ku,q,kN]
  |some x=>simp only[ku,q,gR];exact cz.1 h2 x (al q)
 ·intro m
  rcases bf m js.length with q|q
  ·exact cz.1 h3 m (by simpa [idxs]using q)
  ·have:js[m+1]? =none:=by simp;omega
   simp [ku,this]
 ·intro s hs
  have:=cz.1 n5 (s.i,s.d) (bN.2 ⟨s,hs,rfl⟩)
  simp only[bD]at this
  exact⟨bz this.1.1,this.1.2,this.2⟩
 ·have:=AY n1;rwa [dV]at this
 ·have:=AY n2;rwa [dV]at this
 ·intro k o hk
  have hlt:k<l.length:=(an.1 hk).1
  obtain⟨⟨⟨⟨⟨⟨a1,a2⟩,a3⟩,a4⟩,a5⟩,a6⟩,a7⟩:=key k o hk
  refine⟨?_,?_,?_,?_,?_,?_⟩
  ·intro e he hb
   have:=cz.1 a1 e he
   simp only[hb,gp,fO]at this
   exact bz this
  ·intro i hi
   have:=cz.1 a2 i hi
   obtain⟨e,he,hx⟩:=dY.1 this
   simp only[bD,gP]at hx
   exact⟨e,he,hx.1,hx.2.imp cw (by simp)⟩
  ·intro hh hf i hi hh2
   rw[nl k hlt hh,anyF k hf,fO,fO]at a4
   have:=cz.1 a4 i (by simp [idxs];omega)
   have hb:dO i k=true:=eD hi
   simpa [hh2,hb]using this
  ·intro m hm i hi hh
   have e:ms.getD k none=some m:=by simp [ku,hm]
   rw[e]at a5
   have:=cz.1 a5 i (by simpa [idxs]using hi)
   simp only[hh,gp,fO,gP]at this
   exact this.imp (fun q=>bz q) (by simp)
  ·intro d hd
   simp only[hd,bD]at a6
   refine⟨fun i hi hw ha=>?_,fun hf=>?_⟩
   ·have:=cz.1 a6.1 i (by simpa [idxs]using hi)
    simpa [hw,ha]using this
   ·have:=a6.2
    rw[anyF k hf,fO,cF]at this
    exact anyD d this
  ·intro t ht
   have:=cz.1 a7 t ht
   simp only[bD]at this
   obtain⟨⟨⟨b1,b2⟩,b3⟩,b4⟩:=this
   refine⟨fun i hi hw=>?_,fun hor=>?_,fun hf i hi hh=>?_,fun s hs e=>?_⟩
   ·have:=cz.1 b1 i (by simpa [idxs]using hi)
    simp only[hw,gp,fO,bD]at this
    exact⟨fun q=>by simpa [q]using this.1,fun q=>by simpa [q]using this.2⟩
   ·have hc:(dy ms k||(FT.map fun s=>(s.i,s.d)).any fun s=>fl s.1 k)=true:=by
     rcases hor with q|q
     ·rw[q,Bool.true_or]
     ·rw[anyF' k q,Bool.or_true]
    rw[hc,gp,fO,cF]at b2
    exact anyD t b2
   ·rw[anyF' k hf,gp,fO,cF]at b3
    cases q:fH l i t with
    |false=>rfl
    |true=>
     have:((idxs l.length).any fun i=>gb ms i&&fH l i t)=true:=dY.2 ⟨i,by simpa [idxs]using hi,by rw[hh,q];rfl⟩
     rw[b3]at this;cases this
   ·have:=cz.1 b4 (s.i,s.d) (bN.2 ⟨s,hs,rfl⟩)
    rw[e]at this
    simp at this
    exact this
structure Hz (P:Program) (β:Bs) (N:Nat) (ds:List Deferred) (J:Nat→List dg) (Q:Exit→Act→World→Prop) (FT:List FS) (l:List Oper) (ms:List (Option Nat)) (V:Nat→Value) (env:Env) (listed:Array Bool) (p:Nat) (eh:Env) (L:List dg) (E:List (FS×Nat)) (a:Act) (w:World):Prop where
 vS:listed.size=l.length
 size:a.tmps.size=N
 yr:a.defers=ds
 st:St β (L++E.map fun x=>x.1.res x.2) w
 hJ:∀w,St β L w→St β (J (jC ms p)) w
 hp:p≤l.length
 hy:HY P β N ds J Q FT (jC ms p) p (l.drop p) (ms.drop p) (eh++lH l ms V env l.length) L
 eE:∀x,x∈E→x.1∈FT∧p≤x.1.i
 en:(E.map fun x=>x.1.i).Nodup
 hd:∀i,i<l.length→gb ms i=true→(listed[i]? =some true↔i<p∨∃x,x∈E∧x.1.i=i)
 closed:∀j,listed[j]? =some true→∀i,i∈(jM l).getD j []→listed[i]? =some true
 sl:∀x,x∈E→a.tmps[x.1.d]? =some (x.1.val x.2)
 J2:∀t v,j9 eh t=some v→a.tmps[t]? =some v
 R3:∀t,j9 eh t=none→∀i,i<p→gb ms i=true→fH l i t=false
 F2:∀t,j9 eh t≠none→∃i,i<p∧gb ms i=true∧fH l i t=true
 top:∀t k,j9 eh t=none→(∀s,s∈FT→s.d≠t)→k<l.length→dy ms k=true→fH l k t=true→listed[k]? =some true→(∀k',k'<l.length→dy ms k'=true→fH l k' t=true→listed[k']? =some true→k'≤k)→a.tmps[t]? =some (V k)
 base:∀t,j9 eh t=none→(∀s,s∈FT→s.d≠t)→(∀k,k<l.length→dy ms k=true→fH l k t=true→listed[k]? ≠some true)→∀v,j9 env t=some v→a.tmps[t]? =some v
theorem uW {α γ:Type} {f:α→γ} {l:List α} (h:(l.map f).Nodup) {x y:α} (hx:x∈l) (hy:y∈l) (e:f x=f y):x=y:=by
 have hnd:=cj.1 h
 obtain⟨p1,hp1,e1⟩:=fD hx
 obtain⟨p2,hp2,e2⟩:=fD hy
 rcases ic p1 p2 with q|q|q
 ·exact absurd (by rw[jx,jx,e1,e2,e]) (hnd p1 p2 (by simpa using hp1) (by simpa using hp2) q)
 ·subst q;rw[←e1,e2]
 ·exact absurd (by rw[jx,jx,e1,e2,e]) (hnd p2 p1 (by simpa using hp2) (by simpa using hp1) q)
theorem w5 {ms:List (Option Nat)} {p i:Nat} (hpi:p≤i) (hm:i≤ms.length) (h:∀k,p≤k→k<i→dy ms k=true):jC ms i=jC ms p:=by
 have:∀k,p+k≤i→jC ms (p+k)=jC ms p:=by
  intro k
  induction k with
  |zero=>intro _;rfl
  |succ k ih=>
   intro hk
   have hlk:=h (p+k) (by omega) (by omega)
   have hkl:p+k<ms.length:=by omega
   rw[show p+(k+1)=(p+k)+1 by omega,pE hkl,ih (by omega)]
   cases r:ms[p+k] with
   |none=>simp [dy,hkl,r]at hlk
   |some x=>simp
 have:=this (i-p) (by omega)
 rwa [show p+(i-p)=i by omega]at this
theorem Hz.YG {l:List Oper} {ms:List (Option Nat)} {js:List (List Nat)} {V:Nat→Value} {listed:Array Bool} {p:Nat} {eh:Env} {E:List (FS×Nat)} {a:Act} {w:World} (hc:E7 l ms js FT)
  (h:Hz P β N ds J Q FT l ms V env listed p eh L E a w) {x:FS×Nat} (hx:x∈E) (hl:∀k,p≤k→k<x.1.i→dy ms k=true):
  ∃eh' L' E',Hz P β N ds J Q FT l ms V env listed (x.1.i+1) eh' L' E' a w∧E'.length<E.length:=by
 obtain⟨hxF,hpx⟩:=h.eE x hx
 obtain⟨hil,hhv,hdx⟩:=hc.fi x.1 hxF
 have hy:=HY.drop (x.1.i-p) h.hy (by omega) (fun k a b=>hl k a (by omega))
 rw[show p+(x.1.i-p)=x.1.i by omega]at hy
 have hml:x.1.i<ms.length:=by rw[hc.len];exact hil
 have e2:ms[x.1.i]=none:=by
  have:=hhv
  unfold gb at this
  rw[aw hml]at this
  cases q:ms[x.1.i] with
  |none=>rfl
  |some y=>rw[q]at this;cases this
 rw[dN hil,dN hml,e2]at hy
 have hF:=Sy hc.ni hxF
 rcases hy with⟨s,hs,hb⟩|⟨hn,_⟩
 ·rw[hF]at hs
  cases hs
  obtain⟨hb1,hb2⟩:=hb x.2
  obtain⟨E1,E2,rfl⟩:=List.append_of_mem hx
  have hrk:jC ms x.1.i=jC ms p:=w5 hpx (by omega) hl
  have hrk1:jC ms (x.1.i+1)=jC ms p+1:=by rw[pE hml,e2,hrk];simp
  have hnd:=h.en
  simp only[bG,gI]at hnd
  have hne:∀y,y∈E1++E2→y.1.i≠x.1.i:=fun y hy e=>by
   have h2:=(jN.1 hnd)
   rcases bQ.1 hy with q|q
   ·exact h2.2.2 _ (bN.2 ⟨y,q,rfl⟩) _ (by simp) e
   ·exact(kT.1 h2.2.1).1 (bN.2 ⟨y,q,e⟩)
  have gt:∀y,y∈E1++E2→x.1.i+1≤y.1.i:=fun y hy=>by
   have hyE:y∈E1++x::E2:=by rcases bQ.1 hy with q|q<;>simp [q]
   obtain⟨hyF,hpy⟩:=h.eE y hyE
   have h1:=hne y hy
   rcases bf y.1.i x.1.i with q|q
   ·have h2:=hl y.1.i hpy q
    rcases dW hc.len (hc.fi y.1 hyF).1 with⟨_,b,_⟩|⟨b,_,_⟩
    ·rw[(hc.fi y.1 hyF).2.1]at b;cases b
    ·rw[b]at h2;cases h2
   ·omega
  have hdi:∀t,fH l x.1.i t=fl x.1.d t:=fun t=>by
   unfold fH at hdx ⊢
   rw[aw hil]at hdx ⊢
   cases q:(l[x.1.i]).dst with
   |none=>simp [q]at hdx
   |some d'=>simp only[q]at hdx ⊢;rw[cw hdx]
  refine⟨(x.1.d,x.1.val x.2)::eh,x.1.res x.2::L,E1++E2,⟨h.vS,h.size,h.yr,?_,?_,by omega,?_,?_,?_,?_,h.closed,?_,?_,?_,?_,?_,?_⟩,by simp⟩
  ·refine h.st.Cp ?_
   simp only[bG,gI,oQ, ←dk]
   exact iu
  ·rw[hrk1];exact hb1
  ·rw[hrk1];exact hb2
  ·intro y hy
   have hyE:y∈E1++x::E2:=by rcases bQ.1 hy with q|q<;>simp [q]
   exact⟨(h.eE y hyE).1,gt y hy⟩
  ·have h2:=(jN.1 hnd)
   rw[bG]
   refine jN.2 ⟨h2.1,(kT.1 h2.2.1).2,fun a ha b hb=>h2.2.2 a ha b (by simp [hb])⟩
  ·intro i hi hh
   rw[h.hd i hi hh]
   constructor
   ·rintro (q|⟨y,hy,e⟩)
    ·exact .inl (by omega)
    ·by_cases r:y.1.i=x.1.i
     ·exact .inl (by omega)
     ·refine .inr ⟨y,?_,e⟩
      rcases bQ.1 hy with q|q
      ·simp [q]
      ·rcases dU.1 q with rfl|q
       ·exact absurd rfl r
       ·simp [q]
   ·rintro (q|⟨y,hy,e⟩)
    ·by_cases r:i=x.1.i
     ·exact .inr ⟨x,by simp,r.symm⟩
     ·left
      rcases bf i p with s|s
      ·exact s
      ·have:=hl i s (by omega)
       rcases dW hc.len hi with⟨_,b,_⟩|⟨b,_,_⟩
       ·rw[b]at hh;cases hh
       ·rw[b]at this;cases this
    ·exact .inr ⟨y,by rcases bQ.1 hy with q|q<;>simp [q],e⟩
  ·intro y hy
   exact h.sl y (by rcases bQ.1 hy with q|q<;>simp [q])
  ·intro t v hv
   by_cases e:t=x.1.d
   ·subst e
    rw[fY]at hv
    cases hv
    exact h.sl x hx
   ·rw[fu e]at hv;exact h.J2 t v hv
  ·intro t hn i hi hh
   have e:t≠x.1.d:=fun e=>by subst e;rw[fY]at hn;cases hn
   rw[fu e]at hn
   by_cases r:i=x.1.i
   ·rw[r,hdi];exact F5 e
   ·refine h.R3 t hn i ?_ hh
    rcases bf i p with s|s
    ·exact s
    ·have:=hl i s (by omega)
     rcases dW hc.len (show i<l.length by omega) with⟨_,b,_⟩|⟨b,_,_⟩
     ·rw[b]at hh;cases hh
     ·rw[b]at this;cases this
  ·intro t hn
   by_cases e:t=x.1.d
   ·subst e;exact⟨x.1.i,by omega,hhv,hdx⟩
   ·rw[fu e]at hn
    obtain⟨i,a,b,c⟩:=h.F2 t hn
    exact⟨i,by omega,b,c⟩
  ·intro t k hn hs
   have e:t≠x.1.d:=fun e=>hs x.1 hxF e.symm
   rw[fu e]at hn
   exact h.top t k hn hs
  ·intro t hn hs
   have e:t≠x.1.d:=fun e=>hs x.1 hxF e.symm
   rw[fu e]at hn
   exact h.base t hn hs
 ·rw[hF]at hn;cases hn
def Zu (l:List Oper) (ms:List (Option Nat)) (listed:Array Bool) (p:Nat):Prop:=∀i,p≤i→i<l.length→gb ms i=true→(∀k,p≤k→k<i→dy ms k=true)→listed[i]? ≠some true
theorem Hz.norm {l:List Oper} {ms:List (Option Nat)} {js:List (List Nat)} {V:Nat→Value} {listed:Array Bool} {a:Act} {w:World} (hc:E7 l ms js FT):∀(n:Nat) {p:Nat} {eh:Env} {L:List dg} {E:List (FS×Nat)},E.length=n→
  Hz P β N ds J Q FT l ms V env listed p eh L E a w→∃p' eh' L' E',Hz P β N ds J Q FT l ms V env listed p' eh' L' E' a w∧Zu l ms listed p':=by
 intro n
 induction n using jv with
 |_ n ih=>
  intro p eh L E hn h
  by_cases q:Zu l ms listed p
  ·exact⟨p,eh,L,E,h,q⟩
  ·unfold Zu at q
   simp only[na]at q
   obtain⟨i,h1,h2,h3,h4,h5⟩:=q
   have h5:=eK.1 h5
   rcases(h.hd i h2 h3).1 h5 with r|⟨x,hx,e⟩
   ·omega
   ·subst e
    obtain⟨eh',L',E',hz,hlt⟩:=h.YG hc hx h4
    exact ih E'.length (by omega) rfl hz
theorem Hz.step {l:List Oper} {ms:List (Option Nat)} {js:List (List Nat)} {L0:List dg} {V:Nat→Value} {listed:Array Bool} {p:Nat} {eh:Env} {E:List (FS×Nat)} {a:Act} {w:World} {Q':Exit→Act→World→Prop} (hc:E7 l ms js FT) (hJe:J=fun m=>gY L0 (js.getD m []))
  (hV:∀k o m,l[k]? =some o→ms[k]? =some (some m)→∃d,o.dst=some d∧d<N∧∀L,(∀w,St β L w→St β (J m) w)→Fx P β l.toArray L o (lH l ms V env k) (V k))
  (hF:∀s,s∈FT→s.d<N∧∃o,l[s.i]? =some o∧FO P (lH l ms V env l.length) o s)
  (h:Hz P β N ds J Q FT l ms V env listed p eh L E a w) (hn:Zu l ms listed p) {i:Nat} (hi:i∈eu .any l.toArray listed) {K:Act→World→Prop}
  (hK:∀p' eh' L' E' a' w',Hz P β N ds J Q FT l ms V env (listed.setIfInBounds i true) p' eh' L' E' a' w'→K a' w'):wpOpIn (Wf ro) 0 P l.toArray Q' i K a w:=by
 have hlen:=hc.len
 simp only[eu,bR,a8,bD,cF]at hi
 obtain⟨hin,hnl,hready⟩:=hi
 have hil:i<l.length:=by simpa using hin
 have hiz:i<listed.size:=by rw[h.vS];exact hil
 obtain⟨o,ho⟩:∃o,l[i]? =some o:=⟨l[i],by simp [hil]⟩
 have hnot:listed[i]? ≠some true:=by
  intro e
  have:listed.getD i true=true:=by simp [e]
  rw[this]at hnl;cases hnl
 have hdone:∀e,e∈o.after.toList→eH .any e=true→listed[e.on]? =some true:=by
  intro e he hb
  have h1:(o.after.all fun e=> !eH .any e||listed.getD e.on false)=true:=by simpa [ho]using hready
  have h2:=(e8.1 h1) e (by simpa using he)
  simp only[hb,gp,fO]at h2
  cases q:listed[e.on]? with
  |none=>simp [q]at h2
  |some b=>simp [q]at h2;rw[h2]
 obtain⟨c1,c2,c3,c4,c5,c6⟩:=hc.ops i o ho
 have hcl:∀j,j∈(jM l).getD i []→listed[j]? =some true:=by
  intro j hj
  obtain⟨e,he,hb,hx⟩:=c2 j hj
  rcases hx with rfl|hx
  ·exact hdone e he hb
  ·exact h.closed _ (hdone e he hb) j hx
 have closed':∀j,(listed.setIfInBounds i true)[j]? =some true→∀k,k∈(jM l).getD j []→(listed.setIfInBounds i true)[k]? =some true:=by
  intro j hj k hk
  rw[cC hiz]at hj ⊢
  rcases hj with rfl|hj
  ·exact .inr (hcl k hk)
  ·exact .inr (h.closed j hj k hk)
 have ho':l.toArray[i]? =some o:=by simpa using ho
 have dstI:∀d,o.dst=some d→∀t,fH l i t=fl d t:=by
  intro d hd t;simp [fH,ho,hd]
 have hEl:∀x,x∈E→listed[x.1.i]? =some true:=fun x hx=>(h.hd _ (hc.fi x.1 (h.eE x hx).1).1 (hc.fi x.1 (h.eE x hx).1).2.1).2 (.inr ⟨x,hx,rfl⟩)
 have before:∀t,t∈jY l.toArray o→∀k,k<l.length→fH l k t=true→ahead ms k i=true→listed[k]? =some true:=fun t ht k hk hw ha=>hcl k (((c6 t ht).1 k hk hw).1 ha)
 have behind:∀t,t∈jY l.toArray o→∀k,k<l.length→fH l k t=true→ahead ms i k=true→listed[k]? ≠some true:=fun t ht k hk hw ha hl=>hnot (h.closed k hl i (((c6 t ht).1 k hk hw).2 ha))
 unfold wpOpIn
 simp only[ho']
 rcases dW hlen hil with⟨hli,hhv,m,hm⟩|⟨hli,hhv,hm⟩
 ·
  obtain⟨d,hd,hdN,hok⟩:=hV i o m ho hm
  have hfn:Bc FT i=none:=by
   cases q:Bc FT i with
   |none=>rfl
   |some s=>
    obtain⟨h1,h2⟩:=sH q
    have:=(hc.fi s h1).2.1
    rw[h2,hhv]at this;cases this
  have hnd:∀s,s∈FT→s.d≠d:=(c5 d hd).2 hfn
  have hstage:jC ms p≤m:=by
   rcases bf m (jC ms p) with q|q
   ·exfalso
    obtain⟨j,hjp,hjh,hjr⟩:=wo (ms:=ms) (m:=m) p (by rw[hlen];exact h.hp) q
    have hjl:j<l.length:=dZ hjp h.hp
    rcases c4 m hm j hjl hjh with r|r
    ·omega
    ·exact hnot (h.closed j ((h.hd j hjl hjh).2 (.inl hjp)) i r)
   ·exact q
  have hJm:∀w,St β (L++E.map fun x=>x.1.res x.2) w→St β (J m) w:=by
   intro w hw
   have h1:St β L w:=by
    have hw2:=hw.Cp (List.perm_append_comm (l₁:=L) (l₂:=E.map fun x=>x.1.res x.2))
    exact St.AV (L1:=E.map fun x=>x.1.res x.2) (L2:=L) (R:=[]) (O:=fun _=>False) hw2 (fun _ f=>f.elim) (St.refl w)
   have:=h.hJ w h1
   rw[hJe]at this ⊢
   exact O1 hc.jn hc.js hstage this
  have hno:j9 eh d=none:=by
   cases q:j9 eh d with
   |none=>rfl
   |some v=>
    exfalso
    obtain⟨k,hkp,hkh,hkd⟩:=h.F2 d (by rw[q];simp)
    have hkl:k<l.length:=dZ hkp h.hp
    have hnl:dy ms k=false:=by
     rcases dW hlen hkl with⟨_,b,_⟩|⟨a,_,_⟩
     ·rw[b]at hkh;cases hkh
     ·exact a
    obtain⟨_,_,_,_,g5,_⟩:=hc.ops k l[k] (by simp [hkl])
    have hkd':l[k].dst=some d:=by
     simp only[fH,aw hkl]at hkd
     cases r:l[k].dst with
     |none=>simp [r]at hkd
     |some d'=>simp only[r]at hkd;rw[cw hkd]
    exact hnot (h.closed k ((h.hd k hkl hkh).2 (.inl hkp)) i ((g5 d hkd').1 i hil (by rw[dstI d hd];exact gV _) (by simp [ahead,hli,hnl])))
  have fin:∀w',St β (L++E.map fun x=>x.1.res x.2) w'→Hz P β N ds J Q FT l ms V env (listed.setIfInBounds i true) p eh L E (a.put (some d) (V i)) w':=by
   intro w' hs
   refine⟨by simp [h.vS],by simp [fN,h.size],h.yr,hs,h.hJ,h.hp,h.hy,h.eE,h.en,?_,closed',?_,?_,h.R3,h.F2,?_,?_⟩
   ·intro k hk hkh
    rw[cC hiz, ←h.hd k hk hkh]
    have:k≠i:=fun e=>by subst e;rw[hhv]at hkh;cases hkh
    simp [this]
   ·intro x hx
    have e:x.1.d≠d:=hnd x.1 (h.eE x hx).1
    simp only[fN]
    rw[bq (gi e)]
    exact h.sl x hx
   ·intro t v hv
    have e:t≠d:=fun e=>by subst e;rw[hno]at hv;cases hv
    simp only[fN]
    rw[bq (gi e)]
    exact h.J2 t v hv
   ·intro t k hn hns hk hkl hkd hdn hmax
    by_cases e:t=d
    ·subst e
     have hki:k=i:=by
      have g:=hmax i hil hli (by rw[dstI t hd];exact gV _) ((cC hiz).2 (.inl rfl))
      rcases bf i k with q|q
      ·exfalso
       have hl':listed[k]? =some true:=by
        rcases(cC hiz).1 hdn with e|e
        ·omega
        ·exact e
       obtain⟨_,_,_,_,g5,_⟩:=hc.ops k l[k] (by simp [hk])
       have hkd':l[k].dst=some t:=by
        simp only[fH,aw hk]at hkd
        cases r:l[k].dst with
        |none=>simp [r]at hkd
        |some d'=>simp only[r]at hkd;rw[cw hkd]
       exact hnot (h.closed k hl' i ((g5 t hkd').1 i hil (by rw[dstI t hd];exact gV _) (by simp only[ahead,hli,hkl,if_true];exact eD q)))
      ·omega
     subst hki
     simp [fN,h.size,hdN]
    ·have hki:k≠i:=fun q=>by subst q;rw[dstI d hd,F5 e]at hkd;cases hkd
     simp only[fN]
     rw[bq (gi e)]
     refine h.top t k hn hns hk hkl hkd ?_ fun k' a b c d=>hmax k' a b c ((cC hiz).2 (.inr d))
     rcases(cC hiz).1 hdn with q|q
     ·exact absurd q hki
     ·exact q
   ·intro t hn hns hnone v hv
    have e:t≠d:=fun q=>by subst q;exact hnone i hil hli (by rw[dstI t hd];exact gV _) ((cC hiz).2 (.inl rfl))
    simp only[fN]
    rw[bq (gi e)]
    exact h.base t hn hns (fun k a b c d=>hnone k a b c ((cC hiz).2 (.inr d))) v hv
  have rd:∀t,t∈jY l.toArray o→∀u,j9 (lH l ms V env i) t=some u→a.tmps[t]? =some u:=by
   intro t ht u hu
   have hns:∀s,s∈FT→s.d≠t:=(c6 t ht).2.1 (.inl hli)
   have hno:j9 eh t=none:=by
    cases q:j9 eh t with
    |none=>rfl
    |some v=>
     exfalso
     obtain⟨k,hkp,hkh,hkd⟩:=h.F2 t (by rw[q];simp)
     have hkl:k<l.length:=dZ hkp h.hp
     have hnl:dy ms k=false:=by
      rcases dW hlen hkl with⟨_,b,_⟩|⟨a,_,_⟩
      ·rw[b]at hkh;cases hkh
      ·exact a
     exact behind t ht k hkl hkd (by simp [ahead,hli,hnl]) ((h.hd k hkl hkh).2 (.inl hkp))
   have late:∀k',k'<l.length→dy ms k'=true→fH l k' t=true→listed[k']? =some true→k'<i:=by
    intro k' hk' hl' hd' hdn
    rcases ic k' i with q|q|q
    ·exact q
    ·subst q;exact absurd hdn hnot
    ·exact absurd hdn (behind t ht k' hk' hd' (by simp only[ahead,hli,hl',if_true];exact eD q))
   rcases mP l ms V env t u i hu with⟨k,h1,h2,h3,h4,h5⟩|⟨h1,h2⟩
   ·rw[←h4]
    refine h.top t k hno hns (by omega) h2 h3 (before t ht k (by omega) h3 (by simp only[ahead,hli,h2,if_true];exact eD h1)) fun k' a b c d=>?_
    rcases bf k k' with q|q
    ·have:=h5 k' q (late k' a b c d) b
     rw[c]at this;cases this
    ·exact q
   ·refine h.base t hno hns (fun k a b c d=>?_) u h2
    have:=h1 k (late k a b c d) b
    rw[c]at this;cases this
  have opr:∀x,x∈o.op.operands→∀u,ev (lH l ms V env i) x=some u→a.eval x=u:=by
   intro x hx u hu
   cases x with
   |tmp t=>
    have:=rd t (dt _ (kx.2 ⟨.tmp t,by simpa using hx,rfl⟩)) u hu
    simp [fI,this]
   |const c=>simpa [ev,fI]using hu
   |global g=>simpa [ev,fI]using hu
   |func f=>simpa [ev,fI]using hu
  have hok':=hok _ hJm
  generalize hVi:V i=vi at hok' fin
  rcases hok' with⟨hg,hlo⟩|⟨j,want,t,u,c,v',hg,hj,ht,hgd,hlo,rfl⟩
  ·rw[if_pos (by simp [gZ,hg])]
   exact(hlo a w opr h.st).wp (ro:=ro) (Q:=Q') (K:=K) fun w' hs=>by rw[hd];exact hK _ _ _ _ _ _ (fin w' hs)
  ·have ht':a.tmps[t]? =some u:=rd t (fe _ (by rw[hg];show t∈((l.toArray[j]?).bind (·.dst)).toList;rw[hj];simp)) u ht
   have hy:yielded l.toArray a.tmps j=vb u:=by
    unfold yielded;rw[hj];simp only[mn,ht'];cases u<;>rfl
   simp only[gZ,hg,hy]
   cases c with
   |true=>
    have hu:=hgd.1 rfl
    subst hu
    simp only[vb,beq_self_eq_true,if_true]
    exact(hlo rfl a w opr h.st).wp (ro:=ro) (Q:=Q') (K:=K) fun w' hs=>by
     rw[hd]
     have:=fin w' hs
     rw[show gv true v'=v' from rfl]at this
     exact hK _ _ _ _ _ _ this
   |false=>
    have hu:=hgd.2 rfl
    have hne:=Pe hu
    simp only[hne,cA,if_false]
    have:=fin w h.st
    rw[show gv false v'=undef from rfl]at this
    rw[hd]
    exact⟨fun _ _=>True.intro,hK _ _ _ _ _ _ this⟩
 ·have hpi:p≤i:=by
   rcases bf i p with q|q
   ·exact absurd ((h.hd i hil hhv).2 (.inl q)) hnot
   ·exact q
  
  have rd:∀t,t∈jY l.toArray o→∀u,j9 (eh++lH l ms V env l.length) t=some u→(j9 eh t=none→∀s,s∈FT→s.d≠t)→a.tmps[t]? =some u:=by
   intro t ht u hu hns
   rw[pQ]at hu
   cases q:j9 eh t with
   |some v=>rw[q]at hu;simp only[nL]at hu;subst hu;exact h.J2 t v q
   |none=>
    rw[q]at hu
    simp only at hu
    rcases mP l ms V env t u l.length hu with⟨k,h1,h2,h3,h4,h5⟩|⟨h1,h2⟩
    ·rw[←h4]
     refine h.top t k q (hns q) h1 h2 h3 (before t ht k h1 h3 (by simp [ahead,hli,h2])) fun k' a b c d=>?_
     rcases bf k k' with r|r
     ·have:=h5 k' r a b
      rw[c]at this;cases this
     ·exact r
    ·refine h.base t q (hns q) (fun k a b c d=>?_) u h2
     have:=h1 k a b
     rw[c]at this;cases this
  cases hf:Bc FT i with
  |some s=>
   
   obtain⟨hsF,hsi⟩:=sH hf
   obtain⟨hdN,o2,ho2,hfo⟩:=hF s hsF
   rw[hsi,ho]at ho2
   cases ho2
   obtain⟨hdst,hg,hrun⟩:=hfo
   rw[if_pos (by simp [gZ,hg])]
   have opr:∀x,x∈o.op.operands→∀u,ev (lH l ms V env l.length) x=some u→a.eval x=u:=by
    intro x hx u hu
    cases x with
    |tmp t=>
     have ht:t∈jY l.toArray o:=dt _ (kx.2 ⟨.tmp t,by simpa using hx,rfl⟩)
     have hno:j9 eh t=none:=by
      cases q:j9 eh t with
      |none=>rfl
      |some v=>
       obtain⟨k,hkp,hkh,hkd⟩:=h.F2 t (by rw[q];simp)
       have:=(c6 t ht).2.2.1 (by rw[hf];simp) k (dZ hkp h.hp) hkh
       rw[hkd]at this;cases this
     have:=rd t ht u (by rw[pQ,hno];exact hu) (fun _=>(c6 t ht).2.1 (.inr (by rw[hf];simp)))
     simp [fI,this]
    |const c=>simpa [ev,fI]using hu
    |global g=>simpa [ev,fI]using hu
    |func f=>simpa [ev,fI]using hu
   have hrun':=hrun a w opr
   have hho:HO P β (lH l ms V env l.length) (L++E.map fun x=>x.1.res x.2) o fun v L'=>∃b,v=s.val b∧L'=s.res b::(L++E.map fun x=>x.1.res x.2):=by
    intro a w hx hw
    exact .inl ⟨_,_,_,_,hrun a w hx,.inl rfl,⟨w.heap.size,rfl,rfl⟩,hw.alloc _⟩
   refine hho.wp (ro:=ro) (Q:=Q') opr h.st fun v L' w' hk hst=>?_
   obtain⟨b,rfl,rfl⟩:=hk
   have hfresh:∀x,x∈E→x.1.i≠i:=fun x hx e=>hnot (by rw[←e];exact hEl x hx)
   have hold:∀t,j9 eh t≠none→t≠s.d:=fun t hne e=>by
    obtain⟨k,hkp,hkh,hkd⟩:=h.F2 t hne
    have hkl:k<l.length:=dZ hkp h.hp
    have hki:k≠i:=by omega
    have hkd':l[k].dst=some t:=by
     simp only[fH,aw hkl]at hkd
     cases r:l[k].dst with
     |none=>simp [r]at hkd
     |some d'=>simp only[r]at hkd;rw[cw hkd]
    cases q:Bc FT k with
    |none=>exact((hc.ops k l[k] (by simp [hkl])).2.2.2.2.1 t hkd').2 q s hsF e.symm
    |some s2=>
     obtain⟨g1,g2⟩:=sH q
     have hd2:=(hc.fi s2 g1).2.2
     rw[g2]at hd2
     simp only[fH,aw hkl,hkd']at hd2
     have e2:t=s2.d:=cw hd2
     have:=uW hc.nd g1 hsF (by show s2.d=s.d;rw[←e2,e])
     rw[this]at g2;omega
   refine hK p eh L ((s,b)::E) _ w' ⟨by simp [h.vS],by rw[hdst];simp [fN,h.size],by rw[hdst];exact h.yr,?_,h.hJ,h.hp,h.hy,?_,?_,?_,closed',?_,?_,h.R3,h.F2,?_,?_⟩
   ·exact hst.Cp (by simpa using(iu (a:=s.res b) (l₁:=L) (l₂:=E.map fun x=>x.1.res x.2)).symm)
   ·intro x hx
    rcases dU.1 hx with rfl|hx
    ·exact⟨hsF,by show p≤s.i;omega⟩
    ·exact h.eE x hx
   ·rw[gI,kT]
    refine⟨fun hm=>?_,h.en⟩
    obtain⟨x,hx,e⟩:=bN.1 hm
    exact hfresh x hx (by rw[e];exact hsi)
   ·intro k hk hkh
    rw[cC hiz,h.hd k hk hkh]
    constructor
    ·rintro (rfl|q|⟨x,hx,e⟩)
     ·exact .inr ⟨(s,b),by simp,hsi⟩
     ·exact .inl q
     ·exact .inr ⟨x,by simp [hx],e⟩
    ·rintro (q|⟨x,hx,e⟩)
     ·exact .inr (.inl q)
     ·rcases dU.1 hx with rfl|hx
      ·left;rw[←e];exact hsi
      ·exact .inr (.inr ⟨x,hx,e⟩)
   ·intro x hx
    rw[hdst]
    rcases dU.1 hx with rfl|hx
    ·simp [fN,h.size,hdN]
    ·have hne:x.1.d≠s.d:=fun e=>by
      have:=uW hc.nd (h.eE x hx).1 hsF e
      exact hfresh x hx (by rw[this];exact hsi)
     simp only[fN]
     rw[bq (gi hne)]
     exact h.sl x hx
   ·intro t v hv
    rw[hdst]
    have e:t≠s.d:=hold t (by rw[hv];simp)
    simp only[fN]
    rw[bq (gi e)]
    exact h.J2 t v hv
   ·intro t k hn hns hk hkl hkd hdn hmax
    have hki:k≠i:=fun e=>by subst e;rw[hli]at hkl;cases hkl
    rw[hdst]
    simp only[fN]
    rw[bq (hns s hsF)]
    refine h.top t k hn hns hk hkl hkd ?_ fun k' a b c d=>hmax k' a b c ((cC hiz).2 (.inr d))
    rcases(cC hiz).1 hdn with q|q
    ·exact absurd q hki
    ·exact q
   ·intro t hn hns hnone v hv
    rw[hdst]
    simp only[fN]
    rw[bq (hns s hsF)]
    exact h.base t hn hns (fun k a b c d=>hnone k a b c ((cC hiz).2 (.inr d))) v hv
  |none=>
   
   have hall:∀k,k<i→gb ms k=true→listed[k]? =some true:=fun k hk hh=>hcl k (c3 hhv hf k hk hh)
   have hlights:∀k,p≤k→k<i→dy ms k=true:=by
    
    refine dx fun hcon=>?_
    simp only[na]at hcon
    obtain⟨k,hk1,hk2,hk3⟩:=hcon
    have hmin:∃j,(p≤j∧j<i∧dy ms j=false)∧∀j',p≤j'→j'<j→dy ms j'=true:=by
     have:∀n j,j=n→p≤j→j<i→dy ms j=false→∃j,(p≤j∧j<i∧dy ms j=false)∧∀j',p≤j'→j'<j→dy ms j'=true:=by
      intro n
      induction n using jv with
      |_ n ih=>
       rintro j rfl h1 h2 h3
       by_cases q:∀j',p≤j'→j'<j→dy ms j'=true
       ·exact⟨j,⟨h1,h2,h3⟩,q⟩
       ·simp only[na]at q
        obtain⟨j',q1,q2,q3⟩:=q
        exact ih j' q2 j' rfl q1 (by omega) (by simpa using q3)
     exact this k k rfl hk1 hk2 (by simpa using hk3)
    obtain⟨j,⟨j1,j2,j3⟩,j4⟩:=hmin
    have hjl:j<l.length:=by omega
    have hjh:gb ms j=true:=by
     rcases dW hlen hjl with⟨a,_,_⟩|⟨_,b,_⟩
     ·rw[a]at j3;cases j3
     ·exact b
    exact hn j j1 hjl hjh j4 (hall j j2 hjh)
   have hy:=HY.drop (i-p) h.hy (by omega) (fun k a b=>hlights k a (by omega))
   rw[show p+(i-p)=i by omega]at hy
   have hml:i<ms.length:=by omega
   have e1:l[i]=o:=by simpa [aw hil]using ho
   have e2:ms[i]=none:=by simpa [aw hml]using hm
   rw[dN hil,dN hml,e1,e2]at hy
   have hrk:jC ms i=jC ms p:=w5 hpi (by omega) hlights
   have hrk1:jC ms (i+1)=jC ms p+1:=by rw[pE hml,e2,hrk];simp
   rcases hy with⟨s,hs,_⟩|⟨_,hg,hdN,hho⟩
   ·rw[hf]at hs;cases hs
   have hnsE:∀t,t∈jY l.toArray o→j9 eh t=none→∀s,s∈FT→s.d≠t:=fun t ht hno s hs e=>by
    have h1:=(c6 t ht).2.2.2 s hs e
    obtain⟨g1,g2,g3⟩:=hc.fi s hs
    rw[e]at g3
    have h2:s.i<p:=by
     rcases bf s.i p with q|q
     ·exact q
     ·have:=hlights s.i q h1
      rcases dW hlen g1 with⟨_,b,_⟩|⟨b,_,_⟩
      ·rw[b]at g2;cases g2
      ·rw[b]at this;cases this
    have:=h.R3 t hno s.i h2 g2
    rw[g3]at this;cases this
   have opr:∀x,x∈o.op.operands→∀u,ev (eh++lH l ms V env l.length) x=some u→a.eval x=u:=by
    intro x hx u hu
    cases x with
    |tmp t=>
     have ht:t∈jY l.toArray o:=dt _ (kx.2 ⟨.tmp t,by simpa using hx,rfl⟩)
     have:=rd t ht u hu (hnsE t ht)
     simp [fI,this]
    |const c=>simpa [ev,fI]using hu
    |global g=>simpa [ev,fI]using hu
    |func f=>simpa [ev,fI]using hu
   rw[if_pos (by simp [gZ,hg])]
   refine((hho (E.map fun x=>x.1.res x.2)).wp (ro:=ro) (Q:=Q') opr h.st fun v L'' w' hk hs=>?_)
   obtain⟨L',rfl,hk1,hk2⟩:=hk
   have envE:qH o v (eh++lH l ms V env l.length)=qH o v eh++lH l ms V env l.length:=by
    unfold qH;cases o.dst<;>rfl
   have hnd:∀d,o.dst=some d→∀s,s∈FT→s.d≠d:=fun d hd=>(c5 d hd).2 hf
   have hgt:∀x,x∈E→i+1≤x.1.i:=fun x hx=>by
    have h1:=(h.eE x hx).2
    have hne:x.1.i≠i:=fun e=>hnot (by rw[←e];exact hEl x hx)
    rcases bf x.1.i i with q|q
    ·have:=hlights x.1.i h1 q
     obtain⟨g1,g2,_⟩:=hc.fi x.1 (h.eE x hx).1
     rcases dW hlen g1 with⟨_,b,_⟩|⟨b,_,_⟩
     ·rw[b]at g2;cases g2
     ·rw[b]at this;cases this
    ·omega
   refine hK (i+1) (qH o v eh) L' E _ w' ⟨by simp [h.vS],?_,(by cases o.dst<;>exact h.yr),hs,?_,by omega,?_,fun x hx=>⟨(h.eE x hx).1,hgt x hx⟩,h.en,?_,closed',?_,?_,?_,?_,?_,?_⟩
   ·cases q:o.dst with
    |none=>exact h.size
    |some d=>simp [fN,h.size]
   ·rw[hrk1, ←hrk];exact hrk ▸ hk1
   ·rw[hrk1, ←envE];exact hk2
   ·intro k hk hkh
    rw[cC hiz,h.hd k hk hkh]
    constructor
    ·rintro (rfl|q|q)
     ·exact .inl (by omega)
     ·exact .inl (by omega)
     ·exact .inr q
    ·rintro (q|q)
     ·by_cases r:k=i
      ·exact .inl r
      ·right;left
       rcases bf k p with s|s
       ·exact s
       ·have:=hlights k s (by omega)
        rcases dW hlen hk with⟨_,b,_⟩|⟨b,_,_⟩
        ·rw[b]at hkh;cases hkh
        ·rw[b]at this;cases this
     ·exact .inr (.inr q)
   ·intro x hx
    cases q:o.dst with
    |none=>exact h.sl x hx
    |some d=>
     have e:x.1.d≠d:=hnd d q x.1 (h.eE x hx).1
     simp only[fN]
     rw[bq (gi e)]
     exact h.sl x hx
   ·intro t u hu
    unfold qH at hu
    cases q:o.dst with
    |none=>simp only[q]at hu;exact h.J2 t u hu
    |some d=>
     simp only[q]at hu
     by_cases e:t=d
     ·subst e
      rw[fY]at hu
      cases hu
      simp [fN,h.size,hdN t q]
     ·rw[fu e]at hu
      simp only[fN]
      rw[bq (gi e)]
      exact h.J2 t u hu
   ·intro t hn k hk hkh
    unfold qH at hn
    have hn':j9 eh t=none:=by
     cases q:o.dst with
     |none=>simpa only[q]using hn
     |some d=>
      simp only[q]at hn
      by_cases e:t=d
      ·subst e;rw[fY]at hn;cases hn
      ·rwa [fu e]at hn
    by_cases r:k=i
    ·subst r
     cases q:o.dst with
     |none=>simp [fH,ho,q]
     |some d=>
      rw[dstI d q]
      refine F5 fun e=>?_
      subst e
      simp only[q]at hn
      rw[fY]at hn
      cases hn
    ·refine h.R3 t hn' k ?_ hkh
     rcases bf k p with s|s
     ·exact s
     ·exfalso
      have:=hlights k s (by omega)
      rcases dW hlen (k:=k) (by omega) with⟨_,b,_⟩|⟨b,_,_⟩
      ·rw[b]at hkh;cases hkh
      ·rw[b]at this;cases this
   ·intro t hn
    unfold qH at hn
    cases q:o.dst with
    |none=>
     simp only[q]at hn
     obtain⟨k,a,b,c⟩:=h.F2 t hn
     exact⟨k,by omega,b,c⟩
    |some d=>
     simp only[q]at hn
     by_cases e:t=d
     ·subst e
      exact⟨i,by omega,hhv,by rw[dstI t q];exact gV _⟩
     ·rw[fu e]at hn
      obtain⟨k,a,b,c⟩:=h.F2 t hn
      exact⟨k,by omega,b,c⟩
   ·intro t k hn hns hk hkl hkd hdn hmax
    have hki:k≠i:=fun e=>by subst e;rw[hli]at hkl;cases hkl
    unfold qH at hn
    have hn':j9 eh t=none∧∀d,o.dst=some d→t≠d:=by
     cases q:o.dst with
     |none=>exact⟨by simpa only[q]using hn,by simp⟩
     |some d=>
      simp only[q]at hn
      by_cases e:t=d
      ·subst e;rw[fY]at hn;cases hn
      ·exact⟨by rwa [fu e]at hn,fun d' hd'=>by cases hd';exact e⟩
    have hdn':listed[k]? =some true:=by
     rcases(cC hiz).1 hdn with q|q
     ·exact absurd q hki
     ·exact q
    have:=h.top t k hn'.1 hns hk hkl hkd hdn' fun k' a b c d=>hmax k' a b c ((cC hiz).2 (.inr d))
    cases q:o.dst with
    |none=>exact this
    |some d=>
     simp only[fN]
     rw[bq (gi (hn'.2 d q))]
     exact this
   ·intro t hn hns hnone u hu
    unfold qH at hn
    have hn':j9 eh t=none∧∀d,o.dst=some d→t≠d:=by
     cases q:o.dst with
     |none=>exact⟨by simpa only[q]using hn,by simp⟩
     |some d=>
      simp only[q]at hn
      by_cases e:t=d
      ·subst e;rw[fY]at hn;cases hn
      ·exact⟨by rwa [fu e]at hn,fun d' hd'=>by cases hd';exact e⟩
    have:=h.base t hn'.1 hns (fun k a b c d=>hnone k a b c ((cC hiz).2 (.inr d))) u hu
    cases q:o.dst with
    |none=>exact this
    |some d=>
     simp only[fN]
     rw[bq (gi (hn'.2 d q))]
     exact this
theorem Hz.end_ {l:List Oper} {ms:List (Option Nat)} {js:List (List Nat)} {V:Nat→Value} {listed:Array Bool} {p:Nat} {eh:Env} {E:List (FS×Nat)} {a:Act} {w:World} (hc:E7 l ms js FT)
  (h:Hz P β N ds J Q FT l ms V env listed p eh L E a w) (hn:Zu l ms listed p) (hall:∀k,k<l.length→listed[k]? =some true):Q .normal a w:=by
 have hlen:=hc.len
 have hl:∀k,p≤k→k<l.length→dy ms k=true:=by
  have:∀n k,k=n→p≤k→k<l.length→dy ms k=true:=by
   intro n
   induction n using jv with
   |_ n ih=>
    rintro k rfl h1 h2
    rcases dW hlen h2 with⟨a,_,_⟩|⟨_,b,_⟩
    ·exact a
    ·exact absurd (hall k h2) (hn k h1 h2 b fun j j1 j2=>ih j j2 j rfl j1 (by omega))
  exact fun k=>this k k rfl
 have hE:E=[]:=by
  cases E with
  |nil=>rfl
  |cons x E=>
   exfalso
   obtain⟨h1,h2⟩:=h.eE x (by simp)
   obtain⟨g1,g2,_⟩:=hc.fi x.1 h1
   have:=hl x.1.i h2 g1
   rcases dW hlen g1 with⟨_,b,_⟩|⟨b,_,_⟩
   ·rw[b]at g2;cases g2
   ·rw[b]at this;cases this
 subst hE
 have hx:=HY.drop (l.length-p) h.hy (by have:=h.hp;omega) (fun k a b=>hl k a (by have:=h.hp;omega))
 rw[show p+(l.length-p)=l.length by have:=h.hp;omega]at hx
 rw[List.drop_length]at hx
 have hst:=h.st
 rw[xv,ew]at hst
 refine hx a w ⟨h.size,h.yr,fun t u hu=>?_⟩ hst
 rw[pQ]at hu
 cases q:j9 eh t with
 |some v=>rw[q]at hu;simp only[nL]at hu;subst hu;exact h.J2 t v q
 |none=>
  rw[q]at hu
  simp only at hu
  have hns:∀s,s∈FT→s.d≠t:=fun s hs e=>by
   obtain⟨g1,g2,g3⟩:=hc.fi s hs
   rw[e]at g3
   have h2:s.i<p:=by
    rcases bf s.i p with r|r
    ·exact r
    ·have:=hl s.i r g1
     rcases dW hlen g1 with⟨_,b,_⟩|⟨b,_,_⟩
     ·rw[b]at g2;cases g2
     ·rw[b]at this;cases this
   have:=h.R3 t q s.i h2 g2
   rw[g3]at this;cases this
  rcases mP l ms V env t u l.length hu with⟨k,h1,h2,h3,h4,h5⟩|⟨h1,h2⟩
  ·rw[←h4]
   refine h.top t k q hns h1 h2 h3 (hall k h1) fun k' a b c d=>?_
   rcases bf k k' with r|r
   ·have:=h5 k' r a b
    rw[c]at this;cases this
   ·exact r
  ·refine h.base t q hns (fun k a b c d=>?_) u h2
   have:=h1 k a b
   rw[c]at this;cases this
def FOk (P:Program) (N:Nat) (l:List Oper) (env:Env):List FS→Prop
 |[]=>True
 |s::FT=>(dO s.d N=true∧∃o,l[s.i]? =some o∧FO P env o s)∧FOk P N l env FT
theorem FOk.mem {l:List Oper}:∀{FT:List FS},FOk P N l env FT→∀s,s∈FT→s.d<N∧∃o,l[s.i]? =some o∧FO P env o s
 |[],_,s,hs=>by cases hs
 |x::FT,h,s,hs=>by
  rcases dU.1 hs with rfl|hs
  ·exact⟨bz h.1.1,h.1.2⟩
  ·exact h.2.mem s hs
theorem VC.O0 (FT:List FS) (js:List (List Nat)) (ms:List (Option Nat)) {env':Env} {id:Nat} {l:List Oper} (hm:P.follows .mixedOrders=true) (hc:Vb l ms js (FT.map fun s=>(s.i,s.d))=true) (h0:js.getD 0 []=bF L.length)
  (h:LX P β N l.toArray (fun m=>gY L (js.getD m [])) l ms env env') (hF:FOk P N l env' FT) (k:HY P β N ds (fun m=>gY L (js.getD m [])) Q FT 0 0 l ms env' L):
  VC P ro β N ds env L (.region id l.toArray true) Q:=by
 intro a w ha hw
 obtain⟨V,hV1,hV2⟩:=h.ll
 have hC:=E7.of hc
 subst hV1
 refine wpIn_region_any hm ?_
 have key:∀fuel listed p eh L' E a w,Hz P β N ds (fun m=>gY L (js.getD m [])) Q FT l ms V env listed p eh L' E a w→(∀k,k<l.length→listed[k]? ≠some true→0<fuel)→((bF l.length).filter fun k=> !(listed[k]? ==some true)).length≤fuel→wpAnyIn (Wf ro) 0 P .any l.toArray Q fuel listed a w:=by
  intro fuel
  induction fuel with
  |zero=>
   intro listed p eh L' E a w hI0 hz _
   obtain⟨p',eh',L'',E',hI,hn⟩:=hI0.norm hC _ rfl
   have hall:∀k,k<l.length→listed[k]? =some true:=fun k hk=>dx fun hn=>by have:=hz k hk hn;omega
   refine⟨?_,hI.end_ hC hn hall⟩
   simp only[eu,fZ,a8,bD,cF,not_and]
   intro i hi hf
   have:=hall i (by simpa using hi)
   simp [this]at hf
  |succ fuel ih=>
   intro listed p eh L' E a w hI0 hz hcnt
   obtain⟨p',eh',L'',E',hI,hn⟩:=hI0.norm hC _ rfl
   refine⟨fun hr=>hI.end_ hC hn (qQ hI.vS (fun k o ho=>(hC.ops k o ho).1) hr),fun i hi=>?_⟩
   refine hI.step hC rfl hV2 hF.mem hn hi fun p' eh' L'' E' a' w' hI'=>ih _ _ _ _ _ _ _ hI' ?_ ?_
   ·intro k hk hn
    rcases fC fuel with e|e
    ·exfalso
     subst e
     simp only[eu,bR,a8,bD,cF]at hi
     have hil:i<l.length:=by simpa using hi.1
     have hiz:i<listed.size:=by rw[hI.vS];exact hil
     rw[Ne,cC hiz,not_or]at hn
     have hni:listed[i]? ≠some true:=fun e=>by have h2:=hi.2.1;simp [e]at h2
     have m1:i∈(bF l.length).filter fun k=> !(listed[k]? ==some true):=by simp [hil,hni]
     have m2:k∈(bF l.length).filter fun k=> !(listed[k]? ==some true):=by simp [hk,hn.2]
     match hf:(bF l.length).filter fun k=> !(listed[k]? ==some true),hcnt with
     |[],_=>rw[hf]at m1;simp at m1
     |[x],_=>rw[hf]at m1 m2;simp at m1 m2;exact hn.1 (by omega)
     |_::_::_,hcnt=>simp at hcnt
    ·exact e
   ·simp only[eu,bR,a8,bD,cF]at hi
    have hil:i<l.length:=by simpa using hi.1
    have hiz:i<listed.size:=by rw[hI.vS];exact hil
    have hni:listed[i]? ≠some true:=fun e=>by have h2:=hi.2.1;simp [e]at h2
    have hlt2:((bF l.length).filter fun k=> !((listed.setIfInBounds i true)[k]? ==some true)).length<((bF l.length).filter fun k=> !(listed[k]? ==some true)).length:=by
     refine filter_lt (i:=i) ?_ (by simp [hil]) ?_ ?_
     ·intro k hk
      simp only[cF,beq_eq_false_iff_ne,ne_eq]at hk ⊢
      exact fun e=>hk ((cC hiz).2 (.inr e))
     ·simpa using hni
     ·simp [hiz]
    omega
 have hnone:∀j:Nat,(jK l.toArray.size false)[j]? ≠some true:=by
  intro j hj
  simp [eM]at hj
 refine key _ _ 0 [] L [] _ _ ⟨by simp,ha.size,ha.yr,(by rw[xv,ew];exact hw.drew _),?_,aY _,?_,by simp,by simp,?_,?_,by simp,?_,?_,?_,?_,?_⟩ ?_ ?_
 ·intro w hw
  have:jC ms 0=0:=by simp [jC]
  rw[this]
  simp only[h0]
  refine hw.gY _ ?_
  have:=hC.jn 0
  rwa [h0]at this
 ·simpa [jC]using k
 ·intro i _ _
  exact⟨fun e=>absurd e (hnone i),fun q=>by rcases q with q|⟨x,hx,_⟩;omega;cases hx⟩
 ·intro j hj;exact absurd hj (hnone j)
 ·intro t v hv;simp [j9]at hv
 ·intro t _ i hi;omega
 ·intro t ht;simp [j9]at ht
 ·intro t k _ _ _ _ _ hl;exact absurd hl (hnone k)
 ·intro t _ _ _ v hv;exact ha.get t v hv
 ·intro k hk _
  simpa using lr (aY _) hk
 ·refine dE (cE _ _) ?_
  simp
theorem FO.alloc {env:Env} {T d i:Nat} {z:Value} {C:Array Value} {ty:TypeId} {pos:String} {aft:Array Edge} (hz:dr P T z) (hC:z.cells=C):FO P env ⟨some d,.alloc T,ty,pos,aft,none⟩ ⟨i,d,fun b=>.pointer (some ⟨b,0,none⟩),T,C⟩:=
 ⟨rfl,rfl,fun a w _=>by simp [execOp,Instr.alloc,ot hz,newVar,newRow,hC]⟩
end
end Go.SL
namespace Go.SL
set_option linter.unusedVariables false
set_option linter.unusedSimpArgs false
open Go.RowKit
section
variable {P:Program} {ro:Option Nat} {β:Bs} {ds:List Deferred} {N:Nat} {Q:Exit→Act→World→Prop} {env:Env} {L L0:List dg}
section
variable {l:List Oper} {ms:List (Option Nat)} {n:Nat} {S:List Nat}
end
theorem dq {L1:List dg} (is:List Nat) (hn:kN is=true) (h:gY L is=L1):∀w,St β L w→St β L1 w:=fun w hw=>by rw[←h];exact hw.gY is hn
end
def rn (T:Nat) (o:Oper):Oper:={ o with after:=((o.after.toList.filter fun e=>Nat.ble T e.on).map fun e=>{ e with on:=e.on-T }).toArray,guard:=o.guard.map fun g=>(g.1-T,g.2) }
def Fw (l:List Oper) (T:Nat):Bool:=
 let cl:=jM l
 Nat.ble T l.length&&(idxs l.length).all fun k=>
  match l[k]? with
  |none=>false
  |some o=>
   o.after.toList.all (fun e=> !eH .any e||dO e.on k)&&
   (cl.getD k []).all (fun i=>o.after.toList.any fun e=>eH .any e&&(fl e.on i||(cl.getD e.on []).contains i))&&
   (match o.guard with|none=>true|some g=>if dO k T then dO g.1 T else Nat.ble T g.1)&&
   (dO k T||(idxs T).all fun i=>(cl.getD k []).contains i)
theorem te {l:List Oper} {T:Nat} (h:Fw l T=true):T≤l.length∧∀k o,l[k]? =some o→
  (∀e,e∈o.after.toList→eH .any e=true→e.on<k)∧
  (∀i,i∈(jM l).getD k []→∃e,e∈o.after.toList∧eH .any e=true∧(e.on=i∨i∈(jM l).getD e.on []))∧
  (∀g,o.guard=some g→(k<T→g.1<T)∧(T≤k→T≤g.1))∧(T≤k→∀i,i<T→i∈(jM l).getD k []):=by
 unfold Fw at h
 simp only[bD]at h
 obtain⟨h1,h2⟩:=h
 refine⟨bz h1,fun k o ho=>?_⟩
 have hk:k<l.length:=(an.1 ho).1
 have h3:=cz.1 h2 k (by simpa [idxs]using hk)
 rw[ho]at h3
 simp only[bD]at h3
 obtain⟨⟨⟨a,b⟩,c⟩,d⟩:=h3
 refine⟨fun e he hb=>?_,fun i hi=>?_,fun g hg=>?_,fun hT i hi=>?_⟩
 ·have:=cz.1 a e he
  rw[hb]at this
  simpa [pV]using this
 ·have:=cz.1 b i hi
  obtain⟨e,he,hh⟩:=dY.1 this
  simp only[bD,gP]at hh
  refine⟨e,he,hh.1,?_⟩
  rcases hh.2 with q|q
  ·exact .inl (cw q)
  ·exact .inr (by simpa using q)
 ·rw[hg]at c
  simp only at c
  refine⟨fun q=>?_,fun q=>?_⟩
  ·rw[if_pos (by simpa [pV]using q)]at c;simpa [pV]using c
  ·rw[if_neg (by simp [pV];omega)]at c;exact bz c
 ·simp only[gP]at d
  rcases d with q|q
  ·have:k<T:=by simpa [pV]using q
   omega
  ·simpa using cz.1 q i (by simpa [idxs]using hi)
theorem mem_ready {ops:Array Oper} {listed:Array Bool} {i:Nat}:i∈eu .any ops listed↔∃o,ops[i]? =some o∧listed.getD i true=false∧∀e,e∈o.after.toList→eH .any e=true→listed.getD e.on false=true:=by
 unfold Region.ready
 simp only[bR,a8,bD,cF]
 constructor
 ·rintro ⟨h1,h2,h3⟩
  refine⟨ops[i],by simp [h1],h2,fun e he hb=>?_⟩
  have hok:ops[i]? =some ops[i]:=by simp [h1]
  rw[hok]at h3
  simp only[ft,gR]at h3
  have:=e8.1 h3 e (by simpa using he)
  rw[hb]at this
  simpa using this
 ·rintro ⟨o,h1,h2,h3⟩
  have hi:i<ops.size:=(fV.1 h1).1
  refine⟨hi,h2,?_⟩
  rw[h1]
  simp only[ft,gR]
  refine e8.2 fun e he=>?_
  cases hb:eH .any e with
  |false=>rfl
  |true=>simp [h3 e (by simpa using he) hb]
section
variable {P:Program} {F:Fence} {n:Nat} {Q X:Exit→Act→World→Prop}
theorem KZ {o:Oper} {a:Act} {X:Act→World→Prop} {K:Act→World→Prop}:∀{r:Result Next},o.uponIn F n P a K (Exit.then X Q) r→o.uponIn F n P a K Q r:=by
 intro r h
 cases r with
 |ok x w'=>
  cases x<;>first
   |exact h
   |exact⟨h.1,CallsIn.mono h.2 (fun e w'' he=>by cases e<;>first |exact he|exact⟨_,_,he.choose_spec.choose_spec⟩)⟩
   |exact⟨h.1,RoundIn.mono h.2 (fun e w'' he=>by cases e<;>first |exact he|exact⟨_,_,he.choose_spec.choose_spec⟩)⟩
 |halt x w'=>cases x<;>exact h
theorem Kg {o:Oper} {a:Act} {w:World} {X:Act→World→Prop} {K:Act→World→Prop} (h:o.wpIn F n P a w K (Exit.then X Q)):o.wpIn F n P a w K Q:=⟨h.1,KZ h.2⟩
theorem Dl {ops:Array Oper}:∀{fuel:Nat} {listed:Array Bool} {a:Act} {w:World},wpAnyIn F n P .any ops Q fuel listed a w→wpAnyIn F n P .any ops Q (fuel+1) listed a w
 |0,listed,a,w,h=>⟨fun _=>h.2,fun i hi=>by rw[h.1]at hi;cases hi⟩
 |fuel+1,listed,a,w,h=>⟨h.1,fun i hi=>wpOpIn_mono (fun a w=>Dl) (h.2 i hi)⟩
theorem Jl {ops:Array Oper} {fuel:Nat} {listed:Array Bool} {a:Act} {w:World} (h:wpAnyIn F n P .any ops Q fuel listed a w):∀k,wpAnyIn F n P .any ops Q (fuel+k) listed a w
 |0=>h
 |k+1=>Dl (Jl h k)
theorem I1 {l:List Oper} {T k:Nat}:((l.drop T).map (rn T)).toArray[k]? =(l[T+k]?).map (rn T):=by simp
theorem getD_some {b:Array Bool} {i:Nat} {d v:Bool} (h:b[i]? =some v):b.getD i d=v:=by simp [j8,h]
theorem getD_eq {b c:Array Bool} {i j:Nat} {d:Bool} (h:b[i]? =c[j]?):b.getD i d=c.getD j d:=by simp [j8,h]
theorem BN {l:List Oper} {T:Nat} (hc:Fw l T=true) {listedB listed:Array Bool} (h1:∀i,i<T→listed[i]? =some true) (h2:∀i,i<l.length-T→listed[T+i]? =listedB[i]?) {i:Nat}:i∈eu .any l.toArray listed↔∃k,i=T+k∧k∈eu .any ((l.drop T).map (rn T)).toArray listedB:=by
 obtain⟨hT,hops⟩:=te hc
 constructor
 ·intro hi
  obtain⟨o,ho,hn,he⟩:=mem_ready.1 hi
  have ho':l[i]? =some o:=by simpa using ho
  have hil:i<l.length:=(an.1 ho').1
  have hTi:T≤i:=by
   rcases bf i T with q|q
   ·rw[getD_some (h1 i q)]at hn;cases hn
   ·exact q
  refine⟨i-T,by omega,mem_ready.2 ⟨rn T o,?_,?_,?_⟩⟩
  ·rw[I1,show T+(i-T)=i by omega,ho'];rfl
  ·rw[←getD_eq (h2 (i-T) (by omega)),show T+(i-T)=i by omega];exact hn
  ·intro e hee hb
   simp only[rn,bN,bR]at hee
   obtain⟨e0,⟨m0,m1⟩,rfl⟩:=hee
   have hlt:=(hops i o ho').1 e0 m0 hb
   have hTe:=bz m1
   have:=he e0 m0 hb
   rw[←getD_eq (h2 (e0.on-T) (by omega)),show T+(e0.on-T)=e0.on by omega];exact this
 ·rintro ⟨k,rfl,hk⟩
  obtain⟨o',ho,hn,he⟩:=mem_ready.1 hk
  rw[I1]at ho
  obtain⟨o,ho',rfl⟩:=Option.map_eq_some_iff.1 ho
  have hil:T+k<l.length:=(an.1 ho').1
  refine mem_ready.2 ⟨o,by simpa using ho',by rw[getD_eq (h2 k (by omega))];exact hn,fun e m hb=>?_⟩
  rcases bf e.on T with q|q
  ·exact getD_some (h1 _ q)
  ·have hlt:=(hops _ o ho').1 e m hb
   have:=he { e with on:=e.on-T } (by
    simp only[rn,bN,bR]
    exact⟨e,⟨m,eD q⟩,rfl⟩) hb
   have h3:=h2 (e.on-T) (by omega)
   rw[show T+(e.on-T)=e.on by omega]at h3
   rw[getD_eq h3];exact this
theorem Vh {l:List Oper} {T k:Nat} (hc:Fw l T=true) {K K':Act→World→Prop} {a:Act} {w:World} (hK:∀a w,K a w→K' a w) (h:wpOpIn F n P ((l.drop T).map (rn T)).toArray Q k K a w):wpOpIn F n P l.toArray Q (T+k) K' a w:=by
 obtain⟨hT,hops⟩:=te hc
 refine wpOpIn_mono hK ?_
 unfold wpOpIn at*
 rw[I1]at h
 have e0:l.toArray[T+k]? =l[T+k]? :=by simp
 rw[e0]
 cases ho:l[T+k]? with
 |none=>rw[ho]at h;exact h
 |some o=>
  rw[ho]at h
  simp only[ft]at h ⊢
  have hw:gZ (rn T o) (yielded ((l.drop T).map (rn T)).toArray a.tmps)=gZ o (yielded l.toArray a.tmps):=by
   unfold Region.wanted
   cases hg:o.guard with
   |none=>simp [rn,hg]
   |some g=>
    have hTg:=((hops _ o ho).2.2.1 g hg).2 (by omega)
    simp only[rn,hg,ft]
    have:yielded ((l.drop T).map (rn T)).toArray a.tmps (g.1-T)=yielded l.toArray a.tmps g.1:=by
     unfold yielded
     rw[I1,show T+(g.1-T)=g.1 by omega]
     have e1:l.toArray[g.1]? =l[g.1]? :=by simp
     rw[e1]
     cases l[g.1]? <;>rfl
    rw[this]
  rw[hw]at h
  exact h
theorem Yv {l:List Oper} {T:Nat} (hc:Fw l T=true):∀{fuel:Nat} {listedB listed:Array Bool} {a:Act} {w:World},listed.size=l.length→listedB.size=l.length-T→(∀i,i<T→listed[i]? =some true)→(∀i,i<l.length-T→listed[T+i]? =listedB[i]?)→wpAnyIn F n P .any ((l.drop T).map (rn T)).toArray Q fuel listedB a w→wpAnyIn F n P .any l.toArray Q fuel listed a w:=by
 intro fuel
 have Zr:∀{listedB listed:Array Bool},(∀i,i<T→listed[i]? =some true)→(∀i,i<l.length-T→listed[T+i]? =listedB[i]?)→(eu .any l.toArray listed=[]↔eu .any ((l.drop T).map (rn T)).toArray listedB=[]):=fun h1 h2=>by
  simp only[oH]
  exact⟨fun h k hk=>h (T+k) ((BN hc h1 h2).2 ⟨k,rfl,hk⟩),fun h i hi=>by obtain⟨k,_,hk⟩:=(BN hc h1 h2).1 hi;exact h k hk⟩
 induction fuel with
 |zero=>intro listedB listed a w _ _ h1 h2 h;exact⟨(Zr h1 h2).2 h.1,h.2⟩
 |succ fuel ih=>
  intro listedB listed a w s1 s2 h1 h2 h
  refine⟨fun hr=>h.1 ((Zr h1 h2).1 hr),fun i hi=>?_⟩
  obtain⟨k,rfl,hk⟩:=(BN hc h1 h2).1 hi
  have hkl:k<l.length-T:=by
   obtain⟨o,ho,_⟩:=mem_ready.1 hk
   have:=(fV.1 ho).1
   simpa using this
  refine Vh hc (fun a w hh=>ih (by simpa using s1) (by simpa using s2) ?_ ?_ hh) (h.2 k hk)
  ·intro j hj
   rw[bq (by omega)];exact h1 j hj
  ·intro j hj
   by_cases q:j=k
   ·subst q
    rw[gX (by omega),gX (by omega)]
   ·rw[bq (by omega),bq (by omega)];exact h2 j hj
theorem Zf {l:List Oper} {T:Nat} (hc:Fw l T=true) {Y:Act→World→Prop} (hY:∀a w,Y a w→wpAnyIn F n P .any ((l.drop T).map (rn T)).toArray Q (l.length-T) (jK (l.length-T) false) a w):∀{fuel:Nat} {listedA listed:Array Bool} {a:Act} {w:World},listed.size=l.length→listedA.size=T→(∀i,i<T→listed[i]? =listedA[i]?)→(∀i,T≤i→i<l.length→listed[i]? =some false)→(∀j,listedA[j]? =some true→∀i,i∈(jM l).getD j []→listedA[i]? =some true)→
  wpAnyIn F n P .any (l.take T).toArray (Exit.then Y Q) fuel listedA a w→wpAnyIn F n P .any l.toArray Q (fuel+(l.length-T)) listed a w:=by
 obtain⟨hT,hops⟩:=te hc
 have getA:∀{i:Nat},i<T→(l.take T).toArray[i]? =l[i]? :=fun {i} hi=>by simp [vk,hi]
 
 have fin:∀{fuel:Nat} {listedA listed:Array Bool} {a:Act} {w:World},listed.size=l.length→(∀i,i<T→listed[i]? =listedA[i]?)→(∀i,T≤i→i<l.length→listed[i]? =some false)→(∀i,i<T→listedA[i]? =some true)→Y a w→wpAnyIn F n P .any l.toArray Q (fuel+(l.length-T)) listed a w:=fun s1 h1 h2 hall hy=>by
  rw[Nat.add_comm]
  refine Jl (Yv hc s1 (by simp) (fun i hi=>by rw[h1 i hi];exact hall i hi) (fun i hi=>?_) (hY _ _ hy)) _
  rw[h2 (T+i) (by omega) (by omega),eM,if_pos hi]
 have rdyA:∀{listedA:Array Bool},listedA.size=T→eu .any (l.take T).toArray listedA=[]→∀i,i<T→listedA[i]? =some true:=fun hs hr=>by
  have:=qQ (l:=l.take T) (by simp [hs];omega) (fun k o ho e he hb=>by
   have hk:k<T:=by
    have:=(an.1 ho).1
    simp at this;omega
   rw[vk,if_pos hk]at ho
   exact(hops k o ho).1 e he hb) hr
  intro i hi;exact this i (by simp;omega)
 intro fuel
 induction fuel with
 |zero=>
  intro listedA listed a w s1 s2 h1 h2 hcl h
  exact fin s1 h1 h2 (rdyA s2 h.1) h.2
 |succ fuel ih=>
  intro listedA listed a w s1 s2 h1 h2 hcl h
  by_cases hall:∀i,i<T→listedA[i]? =some true
  ·refine fin s1 h1 h2 hall (h.1 ?_)
   rw[oH]
   intro i hi
   obtain⟨o,ho,hn,_⟩:=mem_ready.1 hi
   have hil:=(fV.1 ho).1
   rw[getD_some (hall i (by simp at hil;omega))]at hn;cases hn
  ·have small:∀i,i∈eu .any l.toArray listed→i<T:=fun i hi=>by
    rcases bf i T with q|q
    ·exact q
    ·exfalso
     apply hall
     obtain⟨o,ho,hn,he⟩:=mem_ready.1 hi
     have ho':l[i]? =some o:=by simpa using ho
     have hil:=(an.1 ho').1
     intro j hj
     obtain⟨e,m,hb,hh⟩:=(hops i o ho').2.1 j ((hops i o ho').2.2.2 q j hj)
     have hd:=he e m hb
     have hlt:=(hops i o ho').1 e m hb
     have hle:e.on<T:=by
      rcases bf e.on T with r|r
      ·exact r
      ·rw[getD_some (h2 e.on r (by omega))]at hd;cases hd
     have hda:listedA[e.on]? =some true:=by
      rw[←h1 e.on hle]
      cases q2:listed[e.on]? with
      |none=>rw[j8,q2]at hd;cases hd
      |some b=>rw[getD_some q2]at hd;rw[hd]
     rcases hh with r|r
     ·rw[←r];exact hda
     ·exact hcl _ hda j r
   show wpAnyIn F n P .any l.toArray Q (fuel+1+(l.length-T)) listed a w
   rw[show fuel+1+(l.length-T)=(fuel+(l.length-T))+1 by omega]
   refine⟨fun hr=>?_,fun i hi=>?_⟩
   ·exfalso
    apply hall
    have:=qQ (l:=l) s1 (fun k o ho e he hb=>(hops k o ho).1 e he hb) hr
    intro i hi
    rw[←h1 i hi];exact this i (by omega)
   ·have hiT:=small i hi
    obtain⟨o,ho,hn,he⟩:=mem_ready.1 hi
    have ho':l[i]? =some o:=by simpa using ho
    have hiA:i∈eu .any (l.take T).toArray listedA:=by
     refine mem_ready.2 ⟨o,by rw[getA hiT];exact ho',by rw[←getD_eq (h1 i hiT)];exact hn,fun e m hb=>?_⟩
     have hlt:=(hops i o ho').1 e m hb
     rw[←getD_eq (h1 e.on (by omega))];exact he e m hb
    have hA:=h.2 i hiA
    have hstep:wpOpIn F n P l.toArray Q i (wpAnyIn F n P .any (l.take T).toArray (Exit.then Y Q) fuel (listedA.setIfInBounds i true)) a w:=by
     unfold wpOpIn at*
     rw[getA hiT,ho']at hA
     rw[ho]
     simp only at hA ⊢
     have hw:gZ o (yielded (l.take T).toArray a.tmps)=gZ o (yielded l.toArray a.tmps):=by
      unfold Region.wanted
      cases hg:o.guard with
      |none=>rfl
      |some g=>
       have:=((hops _ o ho').2.2.1 g hg).1 hiT
       have hy:yielded (l.take T).toArray a.tmps g.1=yielded l.toArray a.tmps g.1:=by
        unfold yielded
        rw[getA this]
        have e1:l.toArray[g.1]? =l[g.1]? :=by simp
        rw[e1]
       simp only[hy]
     rw[hw]at hA
     by_cases hx:gZ o (yielded l.toArray a.tmps)=true
     ·rw[if_pos hx]at hA ⊢;exact Kg hA
     ·rw[if_neg hx]at hA ⊢;exact hA
    refine wpOpIn_mono (fun a w hh=>ih (by simpa using s1) (by simpa using s2) ?_ ?_ ?_ hh) hstep
    ·intro j hj
     by_cases q:j=i
     ·subst q
      rw[gX (by omega),gX (by omega)]
     ·rw[bq (by omega),bq (by omega)];exact h1 j hj
    ·intro j hj hjl
     rw[bq (by omega)];exact h2 j hj hjl
    ·intro j hj k hk
     have hiz:i<listedA.size:=by omega
     rw[cC hiz]at hj ⊢
     rcases hj with r|r
     ·subst r
      obtain⟨e,m,hb,hh⟩:=(hops j o ho').2.1 k hk
      have hlt:=(hops j o ho').1 e m hb
      have hda:listedA[e.on]? =some true:=by
       have hd:=he e m hb
       rw[←h1 e.on (by omega)]
       cases q2:listed[e.on]? with
       |none=>rw[j8,q2]at hd;cases hd
       |some b=>rw[getD_some q2]at hd;rw[hd]
      rcases hh with r|r
      ·rw[←r];exact .inr hda
      ·exact .inr (hcl _ hda k r)
     ·exact .inr (hcl _ r k hk)
end
section
variable {P:Program} {ro:Option Nat} {β:Bs} {ds:List Deferred} {N:Nat} {J:Nat→List dg} {Q:Exit→Act→World→Prop} {env:Env} {L:List dg}
theorem VA.draw {env env':Env} {l:List Oper} {Q:Exit→Act→World→Prop} (h:LL P β N l.toArray L l env env') (hc:FI l=true) (k:VE β N ds env' L .normal Q):
  ∀a w,Ag N ds env a→St β L w→wpAnyIn (Wf ro) 0 P .any l.toArray Q l.toArray.size (jK l.toArray.size false) a w:=by
 intro a w ha hw
 obtain⟨vs,h1,rfl,h3⟩:=h.PD
 have key:∀fuel listed a w,wZ N ds β L (jM l) vs env listed a w→(∀k,k<vs.length→listed[k]? ≠some true→0<fuel)→((bF vs.length).filter fun k=> !(listed[k]? ==some true)).length≤fuel→wpAnyIn (Wf ro) 0 P .any l.toArray Q fuel listed a w:=by
  intro fuel
  induction fuel with
  |zero=>
   intro listed a w hI h0 _
   have hall:∀k,k<vs.length→listed[k]? =some true:=fun k hk=>dx fun hn=>by have:=h0 k hk hn;omega
   refine⟨?_,k _ _ (hI.end_ hall) hI.st⟩
   simp only[eu,fZ,a8,bD,cF,not_and]
   intro i hi hf
   have:=hall i (by rw[h1];simpa using hi)
   simp [this]at hf
  |succ fuel ih=>
   intro listed a w hI h0 hcnt
   refine⟨fun hr=>?_,fun i hi=>?_⟩
   ·refine k _ _ (hI.end_ ?_) hI.st
    have:∀n k,k=n→k<vs.length→listed[k]? =some true:=by
     intro n
     induction n using jv with
     |_ n ihn=>
      rintro k rfl hk
      refine dx fun hn=>?_
      have hkl:k<l.length:=by omega
      have hnm:k∉eu .any l.toArray listed:=by rw[hr];simp
      apply hnm
      simp only[eu,bR,a8,bD,cF]
      refine⟨by simpa using hkl,?_,?_⟩
      ·cases q:listed[k]? with
       |none=>
        have:k<listed.size:=by rw[hI.vS];exact hk
        simp [this]at q
       |some b=>cases b with
        |true=>exact absurd q hn
        |false=>simp [q]
      ·have hok:l.toArray[k]? =some l[k]:=by simp [hkl]
       simp only[hok,ft,gR]
       refine e8.2 fun e he=>?_
       cases hb:eH .any e with
       |false=>rfl
       |true=>
        have hlt:=(u9 hc (k:=k) (o:=l[k]) (by simp [hkl])).1 e (by simpa using he) hb
        have:=ihn e.on hlt e.on rfl (by omega)
        simp [this]
    exact fun k hk=>this k k rfl hk
   ·refine hI.step hc h1 h3 hi fun a' w' hI'=>ih _ _ _ hI' ?_ ?_
    ·intro k hk hn
     rcases fC fuel with e|e
     ·exfalso
      subst e
      simp only[eu,bR,a8,bD,cF]at hi
      have hiz:i<listed.size:=by rw[hI.vS,h1];simpa using hi.1
      rw[Ne,cC hiz,not_or]at hn
      have hni:listed[i]? ≠some true:=fun e=>by have h2:=hi.2.1;simp [e]at h2
      have hil:i<vs.length:=by rw[h1];simpa using hi.1
      have m1:i∈(bF vs.length).filter fun k=> !(listed[k]? ==some true):=by simp [hil,hni]
      have m2:k∈(bF vs.length).filter fun k=> !(listed[k]? ==some true):=by simp [hk,hn.2]
      match hf:(bF vs.length).filter fun k=> !(listed[k]? ==some true),hcnt with
      |[],_=>rw[hf]at m1;simp at m1
      |[x],_=>rw[hf]at m1 m2;simp at m1 m2;exact hn.1 (by omega)
      |_::_::_,hcnt=>simp at hcnt
     ·exact e
    ·simp only[eu,bR,a8,bD,cF]at hi
     have hiz:i<listed.size:=by rw[hI.vS,h1];simpa using hi.1
     have hni:listed[i]? ≠some true:=fun e=>by have h2:=hi.2.1;simp [e]at h2
     have hil:i<vs.length:=by rw[h1];simpa using hi.1
     have hlt:((bF vs.length).filter fun k=> !((listed.setIfInBounds i true)[k]? ==some true)).length<((bF vs.length).filter fun k=> !(listed[k]? ==some true)).length:=by
      refine filter_lt (i:=i) ?_ (by simp [hil]) ?_ ?_
      ·intro k hk
       simp only[cF,beq_eq_false_iff_ne,ne_eq]at hk ⊢
       exact fun e=>hk ((cC hiz).2 (.inr e))
      ·simpa using hni
      ·simp [hiz]
     omega
 refine key _ _ _ _ ⟨by simp [h1],ha.size,ha.yr,hw,?_,?_,?_⟩ ?_ ?_
 ·intro j hj
  simp [eM]at hj
 ·intro t k v hk hl
  simp [eM]at hl
 ·intro t _ v hv
  exact ha.get t v hv
 ·intro k hk _
  rw[h1]at hk
  simpa using lr (aY _) hk
 ·refine dE (cE _ _) ?_
  simp [h1]
theorem VA.iI (js:List (List Nat)) (ms:List (Option Nat)) {env env':Env} {L:List dg} {l:List Oper} (hc:Nu l ms js=true) (h0:js.getD 0 []=bF L.length)
  (h:LX P β N l.toArray (fun m=>gY L (js.getD m [])) l ms env env') (k:HX P β N ds (fun m=>gY L (js.getD m [])) Q 0 l ms env' L):
  ∀a w,Ag N ds env a→St β L w→wpAnyIn (Wf ro) 0 P .any l.toArray Q l.toArray.size (jK l.toArray.size false) a w:=by
 intro a w ha hw
 obtain⟨V,hV1,hV2⟩:=h.ll
 obtain⟨hlen,hjn,hjs,hops⟩:=wk hc
 subst hV1
 have key:∀fuel listed p eh L' a w,Hv P β N ds (fun m=>gY L (js.getD m [])) Q l ms V env listed p eh L' a w→(∀k,k<l.length→listed[k]? ≠some true→0<fuel)→((bF l.length).filter fun k=> !(listed[k]? ==some true)).length≤fuel→wpAnyIn (Wf ro) 0 P .any l.toArray Q fuel listed a w:=by
  intro fuel
  induction fuel with
  |zero=>
   intro listed p eh L' a w hI h0 _
   have hall:∀k,k<l.length→listed[k]? =some true:=fun k hk=>dx fun hn=>by have:=h0 k hk hn;omega
   refine⟨?_,hI.end_ hlen hall⟩
   simp only[eu,fZ,a8,bD,cF,not_and]
   intro i hi hf
   have:=hall i (by simpa using hi)
   simp [this]at hf
  |succ fuel ih=>
   intro listed p eh L' a w hI h0 hcnt
   refine⟨fun hr=>hI.end_ hlen (qQ hI.vS (fun k o ho=>(hops k o ho).1) hr),fun i hi=>?_⟩
   refine hI.step (Lc.of hc) (aY _) rfl hV2 hi fun p' eh' L'' a' w' _ hI'=>ih _ _ _ _ _ _ hI' ?_ ?_
   ·intro k hk hn
    rcases fC fuel with e|e
    ·exfalso
     subst e
     simp only[eu,bR,a8,bD,cF]at hi
     have hil:i<l.length:=by simpa using hi.1
     have hiz:i<listed.size:=by rw[hI.vS];exact hil
     rw[Ne,cC hiz,not_or]at hn
     have hni:listed[i]? ≠some true:=fun e=>by have h2:=hi.2.1;simp [e]at h2
     have m1:i∈(bF l.length).filter fun k=> !(listed[k]? ==some true):=by simp [hil,hni]
     have m2:k∈(bF l.length).filter fun k=> !(listed[k]? ==some true):=by simp [hk,hn.2]
     match hf:(bF l.length).filter fun k=> !(listed[k]? ==some true),hcnt with
     |[],_=>rw[hf]at m1;simp at m1
     |[x],_=>rw[hf]at m1 m2;simp at m1 m2;exact hn.1 (by omega)
     |_::_::_,hcnt=>simp at hcnt
    ·exact e
   ·simp only[eu,bR,a8,bD,cF]at hi
    have hil:i<l.length:=by simpa using hi.1
    have hiz:i<listed.size:=by rw[hI.vS];exact hil
    have hni:listed[i]? ≠some true:=fun e=>by have h2:=hi.2.1;simp [e]at h2
    have hlt:((bF l.length).filter fun k=> !((listed.setIfInBounds i true)[k]? ==some true)).length<((bF l.length).filter fun k=> !(listed[k]? ==some true)).length:=by
     refine filter_lt (i:=i) ?_ (by simp [hil]) ?_ ?_
     ·intro k hk
      simp only[cF,beq_eq_false_iff_ne,ne_eq]at hk ⊢
      exact fun e=>hk ((cC hiz).2 (.inr e))
     ·simpa using hni
     ·simp [hiz]
    omega
 have hnone:∀j:Nat,(jK l.toArray.size false)[j]? ≠some true:=by
  intro j hj
  simp [eM]at hj
 refine key _ _ 0 [] L _ _ ⟨by simp,ha.size,ha.yr,hw,?_,by omega,?_,?_,?_,?_,?_,?_,?_,?_⟩ ?_ ?_
 ·intro w hw
  have:jC ms 0=0:=by simp [jC]
  rw[this]
  simp only[h0]
  refine hw.gY _ ?_
  have:=hjn 0
  rwa [h0]at this
 ·simpa [jC]using k
 ·intro i _ _
  exact⟨fun e=>absurd e (hnone i),fun e=>by omega⟩
 ·intro j hj;exact absurd hj (hnone j)
 ·intro t v hv;simp [j9]at hv
 ·intro t _ i hi;omega
 ·intro t ht;simp [j9]at ht
 ·intro t k _ _ _ _ hl;exact absurd hl (hnone k)
 ·intro t _ _ v hv;exact ha.get t v hv
 ·intro k hk _
  simpa using lr (aY _) hk
 ·refine dE (cE _ _) ?_
  simp
theorem VC.B4 (T:Nat) {id:Nat} {l:List Oper} (hm:P.follows .mixedOrders=true) (hc:Fw l T=true)
  (h:∀a w,Ag N ds env a→St β L w→wpAnyIn (Wf ro) 0 P .any (l.take T).toArray (Exit.then (wpAnyIn (Wf ro) 0 P .any ((l.drop T).map (rn T)).toArray Q ((l.drop T).map (rn T)).toArray.size (jK ((l.drop T).map (rn T)).toArray.size false)) Q) (l.take T).toArray.size (jK (l.take T).toArray.size false) a w):
  VC P ro β N ds env L (.region id l.toArray true) Q:=by
 intro a w ha hw
 obtain⟨hT,_⟩:=te hc
 refine wpIn_region_any hm ?_
 have h1:=h a { w with drawn:=w.drawn+1 } ha (hw.drew _)
 have s1:(l.take T).toArray.size=T:=by simp;omega
 have s2:((l.drop T).map (rn T)).toArray.size=l.length-T:=by simp
 rw[s1,s2]at h1
 have:=Zf hc (fun a w h=>h) (listed:=jK l.length false) (by simp) (by simp) (fun i hi=>by rw[eM,eM,if_pos (by omega),if_pos hi]) (fun i _ hi=>by rw[eM,if_pos hi]) (fun j hj=>by simp [eM]at hj) h1
 rw[show T+(l.length-T)=l.length by omega]at this
 simpa using this
theorem VE.any {l:List Oper} {m:Nat} {ls:Array Bool} (h:∀a w,Ag N ds env a→St β L w→wpAnyIn (Wf ro) 0 P .any l.toArray Q m ls a w):VE β N ds env L .normal (Exit.then (wpAnyIn (Wf ro) 0 P .any l.toArray Q m ls) Q):=fun a w ha hw=>h a w ha hw
end
section
variable {P:Program} {ro:Option Nat} {β:Bs} {N:Nat} {ds:List Deferred} {env:Env} {L:List dg} {Q:Exit→Act→World→Prop}
variable {ty:TypeId} {pos:String} {aft:Array Edge}
variable {dd:Option Nat}
theorem HO.acr {α:Type} {f:α→List Value} {l m:List α} (i:Nat) (LF:dg→List dg) {K:Value→List dg→Prop} {x y:Operand} {T T' E z by_:Nat} {aT:Array TypeId} {zero:Value} {p q:Option Addr} {n n2 cap c2:Nat} (hT:ee P T E) (hT':ee P T' E) (hE:j6 P E z by_ zero) (hx:OV env x (.slice p n cap)) (hy:OV env y (.slice q n2 c2))
  (hi:L[i]? =some (own E z p cap (l.map f))) (hq:∀w,St β L w→pT w z q (m.map f)) (hz:∀a,(f a).length=z) (h1:∀a,mU (f a)=true) (ha0:aT[0]? =some T) (ha1:aT[1]? =some T') (hL:∀R:dg,L.set i R=LF R) (hn:n=l.length) (hn2:n2=m.length) (hs:(2*(n+n2)+768)*by_≤281474976710656)
  (k:∀p' cap',(m≠[]∨p≠none→p'≠none)→K (.slice p' (n+n2) cap') (LF (own E z p' cap' ((l++m).map f)))):HO P β env L ⟨dd,.call ⟨.builtin .append,#[x,y],aT⟩,ty,pos,aft,none⟩ K:=by
 intro a w h hw
 subst hn;subst hn2
 obtain⟨p',cap',w',h2,h3,h4,h5⟩:=xr (ty:=ty) (c2:=c2) hw i hT hT' hE hi (hq w hw) (by intro r hr;obtain⟨b,_,rfl⟩:=bN.1 hr;exact hz b) (by intro r hr;obtain⟨b,_,rfl⟩:=bN.1 hr;exact h1 b) (by simpa using hs) ha0 ha1
 refine .inl ⟨_,w',_,_,?_,.inl rfl,k p' cap' (fun q=>q.elim (fun e=>h4 (by simpa using e)) h5),?_⟩
 ·have ex:a.eval x= .slice p l.length cap:=by obtain⟨u,hu,e⟩:=hx;subst e;exact h x (by simp [aL,eL]) _ hu
  have ey:a.eval y= .slice q m.length c2:=by obtain⟨u,hu,e⟩:=hy;subst e;exact h y (by simp [aL,eL]) _ hu
  simp only[ak]at h2
  simp [execOp,resolve,invoke,builtin,ex,ey,h2]
 ·rw[bG, ←hL];exact h3
end
end Go.SL
namespace Go.SL
set_option linter.unusedVariables false
open Go.RowKit Go.ChangeShapes Go.WideShapes Go.WideElems
section
variable {H:Type} {enc:TypeId×Value→H} {P:Program} {W:World} {base:Nat}
def RD (enc:TypeId×Value→H) (P:Program) (W:World) (t:TypeId) (R:List Value→Prop):Prop:=
 ∀(n:Nat) (cs:List Value) (x:DataW H×List MemPlace),vl enc P W 0 (fun _=>true) true n t cs=some x→R cs
def kb (k:IntKind) (n:Int):Prop:=k.min≤n∧n≤k.max
theorem RD.int {t:TypeId} {k:IntKind} (ht:P.underlying t=some (.int k)):RD enc P W t fun cs=>∃n,cs=[.int k n]∧kb k n:=fun n cs x hx=>by
 obtain⟨m,h,_,hw⟩:=DataW.trod_int ht hx
 simp only[Lit.wf,bD,decide_eq_true_eq]at hw
 exact⟨m,h,hw⟩
def splitBy {α:Type}:List Nat→List α→List (List α)
 |[],_=>[]
 |z::zs,l=>l.take z::splitBy zs (l.drop z)
theorem uX {α:Type}:∀(zs:List Nat) (l:List α),l.length=zs.sum→(splitBy zs l).flatten=l
 |[],l,h=>by simp at h;simp [splitBy,h]
 |z::zs,l,h=>by
  simp only[jG]at h
  rw[splitBy,gB,uX zs (l.drop z) (by simp;omega),jh]
theorem su {α:Type}:∀(zs:List Nat) (l:List α),l.length=zs.sum→(splitBy zs l).map dv=zs
 |[],l,h=>rfl
 |z::zs,l,h=>by
  simp only[jG]at h
  rw[splitBy,gI,su zs (l.drop z) (by simp;omega),List.length_take,Nat.min_eq_left (by omega)]
theorem w8 {α:Type}:∀(zs:List Nat) (l:List α) (i z:Nat) (c:List α),zs[i]? =some z→(splitBy zs l)[i]? =some c→c=(l.drop (zs.take i).sum).take z
 |[],l,i,z,c,h,k=>by simp at h
 |y::zs,l,i,z,c,h,k=>by
  cases i with
  |zero=>simp at h;simp [splitBy]at k;subst h;subst k;simp
  |succ i=>
   have:=w8 zs (l.drop y) i z c (by simpa using h) (by simpa [splitBy]using k)
   rw[this,ua]
   simp only[mC,jG]
def F9:Nat→List Nat→List Nat
 |_,[]=>[]
 |o,z::zs=>o::F9 (o+z) zs
theorem DG:∀(zs:List Nat) (o i:Nat) (a:Nat),(F9 o zs)[i]? =some a→a=o+(zs.take i).sum
 |[],o,i,a,h=>by simp [F9]at h
 |z::zs,o,i,a,h=>by
  cases i with
  |zero=>simp [F9]at h;simp [h]
  |succ i=>
   have:=DG zs (o+z) i a (by simpa [F9]using h)
   rw[this,mC,jG];omega
theorem ry {t:TypeId} {fs:List Field} {zs:List Nat} {n:Nat} {cs:List Value} {x:DataW H×List MemPlace} (ht:P.underlying t=some (.struct fs.toArray)) (hz:fs.map (fun f=>P.cellsOf f.type)=zs) (ho:fs.map (·.offset)=F9 0 zs) (hs:P.cellsOf t=zs.sum)
  (h:vl enc P W 0 (fun _=>true) true n t cs=some x):
  ∃css:List (List Value),cs=css.flatten∧css.length=zs.length∧css.map dv=zs∧∀(i:Nat) (f:Field) (c:List Value),fs[i]? =some f→css[i]? =some c→∃m y,vl enc P W 0 (fun _=>true) true m f.type c=some y:=by
 obtain⟨xs,m,_,_,hl,hlen,hf⟩:=DataW.trod_struct ht h
 refine⟨splitBy zs cs,(uX zs cs (by omega)).symm,by simpa using congrArg dv (su zs cs (by omega)),su zs cs (by omega),fun i f c h1 h2=>?_⟩
 have hi:i<fs.length:=(an.1 h1).1
 have e1:zs[i]? =some (P.cellsOf f.type):=by rw[←hz,aI,h1];rfl
 have e2:f.offset=(zs.take i).sum:=by
  have:(F9 0 zs)[i]? =some f.offset:=by rw[←ho,aI,h1];rfl
  have:=DG zs 0 i _ this
  omega
 have e3:=w8 zs cs i _ c e1 h2
 have e4:=hf i f (by simpa using h1)
 have hx:i<xs.length:=by simp at hlen;omega
 rw[aw hx,e2, ←e3]at e4
 exact⟨m,_,e4⟩
theorem sL {w:World} {a:Addr} {n:Nat} {cs:List Value} (h:w.cells? 0 a n=some cs):cs.length=n∧fG w a cs:=by
 unfold World.cells? at h
 rw[if_pos (aY _)]at h
 have hl:cs.length=n:=by simpa using mapM_some_length h
 refine⟨hl,fun j v hj=>?_⟩
 have hjn:j<n:=by rw[←hl];exact(an.1 hj).1
 have:=mapM_some_get h j j (by simp [hjn])
 rw[this,hj]
theorem RD.slice {t e z:Nat} {R:List Value→Prop} (ht:P.underlying t=some (.slice e)) (hz:P.cellsOf e=z) (hz0:0<z) (hR:RD enc P W e R):
  RD enc P W t fun cs=>∃(p:Option Addr) (cap:Nat) (rows:List (List Value)),cs=[.slice p rows.length cap]∧rows.length≤9223372036854775807∧Rows W z p rows∧∀r,r∈rows→r.length=z∧R r:=fun n cs x hx=>by
 rcases DataW.trod_slice ht hx with⟨rfl,_⟩|⟨a,len,cap,elems,rest,m,_,rfl,_,hb,hl,hc,hlen,hel,hspare⟩
 ·exact⟨none,0,[],rfl,by simp,⟨by simp,fun _=>rfl,fun q=>absurd rfl q⟩,by simp⟩
 ·have hrow:∀i,i<len→∃r,W.cells? 0 (a.add (i*z)) z=some r∧∃y,vl enc P W 0 (fun _=>true) true m e r=some y:=fun i hi=>by
   have h1:=hel i hi
   rw[hz,aw (by omega)]at h1
   obtain⟨r,h2,h3⟩:=Option.bind_eq_some_iff.1 h1
   exact⟨r,h2,_,h3⟩
  have hch:∃rows:List (List Value),rows.length=len∧∀i r,rows[i]? =some r→W.cells? 0 (a.add (i*z)) z=some r∧∃y,vl enc P W 0 (fun _=>true) true m e r=some y:=by
   clear hel hlen hl hx hspare
   induction len with
   |zero=>exact⟨[],rfl,by simp⟩
   |succ k ih=>
    obtain⟨rows,h1,h2⟩:=ih (fun i hi=>hrow i (by omega))
    obtain⟨r,h3,h4⟩:=hrow k (by omega)
    refine⟨rows++[r],by simp [h1],fun i s hs=>?_⟩
    rcases bf i rows.length with q|q
    ·rw[aV q]at hs;exact h2 i s hs
    ·have:i=rows.length:=by
      have:=(an.1 hs).1
      simp at this;omega
     subst this
     simp at hs;subst hs
     rw[h1];exact⟨h3,h4⟩
  obtain⟨rows,h1,h2⟩:=hch
  subst h1
  have spot:rows≠[]→a.spot=none:=fun hne=>by
   cases rows with
   |nil=>exact absurd rfl hne
   |cons r rs=>
    obtain⟨h3,_⟩:=h2 0 r rfl
    obtain⟨h4,h5⟩:=sL h3
    have h6:=h5 0 _ (aw (by omega))
    cases hs:a.spot with
    |none=>rfl
    |some s=>
     exfalso
     have:((a.add (0*z)).add 0).spot=some s:=by simp [Addr.add,hs]
     unfold World.cell? at h6
     rw[this]at h6
     split at h6<;>simp at h6
  refine⟨some a,cap,rows,rfl,by unfold maxLen at hc;omega,⟨fun j r hr=>?_,fun q=>(by cases q),fun q b hb=>?_⟩,fun r hr=>?_⟩
  ·obtain⟨h3,_⟩:=h2 j r hr
   have h5:=(sL h3).2
   have hsp:=spot (fun q=>by rw[q]at hr;simp at hr)
   have e:(⟨pb (some a),po (some a)+j*z,none⟩:Addr)=a.add (j*z):=by
    obtain⟨ab,ao,aspt⟩:=a
    have hsp:aspt=none:=hsp
    subst hsp
    show(⟨ab,ao+j*z,none⟩:Addr)=_
    unfold Addr.add
    split
    ·rename_i h0;simp [h0]
    ·rfl
   rw[e];exact h5
  ·cases hb
   exact spot q
  ·obtain⟨i,hi,e⟩:=fD hr
   obtain⟨h3,y,h4⟩:=h2 i r (by rw[aw hi,e])
   exact⟨(sL h3).1,hR _ _ _ h4⟩
theorem zo {α:Type} {f:α→List Value} {Q:α→Prop}:∀{rows:List (List Value)},(∀r,r∈rows→∃x,r=f x∧Q x)→∃l:List α,rows=l.map f∧∀x,x∈l→Q x
 |[],_=>⟨[],rfl,by simp⟩
 |r::rs,h=>by
  obtain⟨l,h1,h2⟩:=zo (fun s hs=>h s (by simp [hs])) (rows:=rs)
  obtain⟨x,h3,h4⟩:=h r (by simp)
  exact⟨x::l,by simp [h1,h3],fun y hy=>by rcases dU.1 hy with rfl|hy;exact h4;exact h2 y hy⟩
theorem uF {t:TypeId} {v:Value} {R:List Value→Prop} (hn:∀fs,P.underlying t≠some (.struct fs)) (hn2:∀n e,P.underlying t≠some (.array n e)) (hv:Value.okWide P W .any base t v) {d:DataW H} {p:List MemPlace} (hd:DataW.Trod enc P W 0 (fun _=>true) true t v d p) (hR:RD enc P W t R):R [v]:=by
 obtain⟨n,hn'⟩:=hd
 have:v.cells=#[v]:=by
  cases v<;>try rfl
  exfalso
  unfold Value.okWide at hv
  cases hu:P.underlying t with
  |none=>rw[hu]at hv;simp [Cell.okWide,Cell.ok,hu]at hv
  |some u=>
   rw[hu]at hv
   cases u<;>first |exact hn _ hu|exact hn2 _ _ hu|simp [Cell.okWide,Cell.ok,hu]at hv
 rw[this]at hn'
 exact hR _ _ _ hn'
theorem SP {t:TypeId} {fs:Array Field} {v:Value} {R:List Value→Prop} (ht:P.underlying t=some (.struct fs)) (hv:Value.okWide P W .any base t v) {d:DataW H} {p:List MemPlace} (hd:DataW.Trod enc P W 0 (fun _=>true) true t v d p) (hR:RD enc P W t R):∃cs,v= .agg cs.toArray∧R cs:=by
 obtain⟨n,hn'⟩:=hd
 unfold Value.okWide at hv
 rw[ht]at hv
 obtain⟨cs,rfl,_⟩:=hv
 exact⟨cs.toList,by simp,hR _ _ _ hn'⟩
theorem tS (hl:laidOutB P=true) {W':World} {sp':Nat→Bool}:∀{ts:List TypeId} {vs:List Value} {ds:List (DataW H)} {ps:List MemPlace},(∀t,t∈ts→P.readableRec t=true∧t<P.types.size)→
  sX enc P W 0 (fun _=>true) true ts vs ds ps→(∀p,p∈ps→W.sameAt W' p)→(∀p,p∈ps→sp' p.block=true)→sX enc P W' 0 sp' true ts vs ds ps
 |[],vs,ds,ps,_,h,_,_=>by
  obtain⟨rfl,rfl,rfl⟩:=trodAll_nil h
  exact trodAll_mk0
 |t::ts,vs,ds,ps,ht,h,h1,h2=>by
  obtain⟨v,vs1,d,ds1,a,b,rfl,rfl,rfl,h3,h4⟩:=trodAll_cons h
  have:=ht t (by simp)
  exact trodAll_cons_mk (Trod_stays hl this.1 this.2 h3 (fun p hp=>h1 p (by simp [hp])) (fun p hp=>h2 p (by simp [hp]))) (tS hl (fun u hu=>ht u (by simp [hu])) h4 (fun p hp=>h1 p (by simp [hp])) (fun p hp=>h2 p (by simp [hp])))
theorem Mq {fn:Func} {s:ChangeSpec} {apart fresh handsOn again:Bool} {W':World} {args:Array Value} {ds gs:List (DataW H)} {before:List MemPlace} {tb:TypeId} (hl:laidOutB P=true) (hts:∀t,t∈fn.params.toList→P.readableRec t=true∧t<P.types.size)
  (hv:s.vars=[]) (hr:fn.resultTypes=#[tb]) (hb:P.underlying tb=some .bool) (hs:∀ds:List (DataW H),ds.length=fn.params.toList.length→s.fn H ds={ results:=[.lit (.bool true)],args:=ds })
  (hW:DataW.Whole enc P fn.params.toList s.vars apart W args.toList ds gs before) (hst:St (bs W) [] W'):s.post enc P fn apart fresh handsOn again W args (.bool true) W':=by
 have hB:Below W.heap.size W W':=hst.below
 have hlt:=hW.lt
 have hW0:=hW
 obtain⟨p,q,hA,hV,rfl,hfz,hnd⟩:=hW
 rw[hv]at hV
 obtain⟨rfl,rfl⟩:=trodVars_none hV
 rw[hv]at hW0
 have hd:ds.length=fn.params.toList.length:=(trodAll_length hA).2
 have e:s.fn H (ds++[])={ results:=[.lit (.bool true)],args:=ds }:=by rw[ew];exact hs ds hd
 have hargs:∀sp:Nat→Bool,(∀x∈p,sp x.block=true)→sX enc P W' 0 sp true fn.params.toList args.toList (s.fn H (ds++[])).args p:=fun sp hsp=>by
  rw[e];exact tS hl hts hA (fun x hx=>hB.same (hlt x (by simpa using hx))) hsp
 have hres:∀(b:Nat) (sp:Nat→Bool) (hd:Bool),sX enc P W' b sp hd fn.resultTypes.toList ((Value.bool true).resultList fn.resultTypes.size) (s.fn H (ds++[])).results []:=fun b sp hd=>by
  rw[e,hr];exact trodAll_cons_mk (shut_bool hb _) trodAll_mk0
 have hvars:∀sp:Nat→Bool,DataW.TrodVars enc P W' sp s.vars (s.fn H (ds++[])).vars []:=fun sp=>by rw[e,hv];rfl
 have hW1:DataW.Whole enc P fn.params.toList s.vars apart W args.toList ds [] (p++[]):=by rw[hv];exact hW0
 refine⟨ds,[],p++[],[],p,[],hW1,hres _ _ _,hargs _ (fun x hx=>by simpa using hlt x (by simpa using hx)),hvars _,hB.frame _,fun _=>?_⟩
 refine⟨?_,_,_,([]++p)++[],⟨[]++p,[],trodAll_append (hargs _ (fun _ _=>rfl)) (hres _ _ _),hvars _,rfl,?_,?_⟩,?_⟩
 ·exact ok_one hr rfl (okWide_bool_mk hb _)
 ·intro b off hp
  have hp':MemPlace.cell b off∈p:=by simpa using hp
  rw[hB.frozen (p:=⟨b,off,none⟩) (hlt (.cell b off) (by simpa using hp'))]
  exact hfz b off (by simpa using hp')
 ·intro ha
  simpa using hnd ha
 ·intro x hx _
  simpa using hx
end
section
variable {P:Program} {β:Bs} {env:Env} {L:List dg}
variable {ty:TypeId} {pos:String} {aft:Array Edge} {g:Option (Nat×Bool)}
def qy (p:Option Addr) (c l z:Nat):Option Addr:=if c=l then p else p.map (·.add (l*z))
theorem LO.sl {d:Option Nat} {x i:Operand} {T E z:Nat} {p:Option Addr} {n c l:Nat} {e:Int} (hT:ee P T E) (hz:(P.info? E).map (·.size)=some z) (hx:OV env x (.slice p n c)) (hi:OV env i (.int .i64 e)) (he:e=(l:Int)) (hl:l≤n):
  LO P β env L ⟨d,.slice T x (some i) none none,ty,pos,aft,g⟩ (.slice (qy p c l z) (n-l) (c-l)):=
 .fy fun a w h hw=>⟨w,by
  subst he
  have h1:((l:Int)≤(n:Int)):=by omega
  simp [execOp,h x (by simp [aL]) _ hx,h i (by simp [aL]) _ hi,Instr.sliceAt,run_underlying hT,Instr.slice,Instr.sliceBounds,Instr.sliceBound,asIntOf,hl,iz hz,qy],hw⟩
end
theorem IP {f g:Nat→Option (Nat×Nat)}:∀{ps:List (Nat×Value)} {Z:Array Value},(∀q,q∈ps→f q.1=g q.1)→kQ f Z ps=kQ g Z ps
  |[],Z,_=>rfl
  |(i,v)::r,Z,h=>by
    have e:f i=g i:=h (i,v) (by simp)
    simp only[kQ,e]
    cases g i with
    |none=>rfl
    |some q=>
        dsimp only;split
        · rfl
        · exact IP fun q hq=>h q (by simp [hq])
def rk (P:Program) (T:Nat) (PL:List (Nat×Nat)) (Z:List Value):Prop:=∀ps:List (Nat×Value),(ps.all fun q=>dO q.1 PL.length)=true→P.built T ps=kQ (PL[·]?) Z.toArray ps
theorem rk.mk {P:Program} {T z n:Nat} {PL:List (Nat×Nat)} {Z:List Value} (h:∀ps,P.built T ps=kQ (fun i=>some (i*z,z)) Z.toArray ps) (hPL:PL=(bF n).map fun i=>(i*z,z)):rk P T PL Z:=fun ps hp=>by
 rw[h]
 refine IP fun q hq=>?_
 have h1:=cz.1 hp q hq
 subst hPL
 have h2:q.1<n:=by simpa [pV]using h1
 simp [h2]
section
variable {P:Program} {β:Bs} {env:Env} {L:List dg}
variable {ty:TypeId} {pos:String} {aft:Array Edge} {g:Option (Nat×Bool)}
theorem LO.sd {d:Option Nat} {T:Nat} {PL:List (Nat×Nat)} {Z:List Value} {ps:List (Nat×Operand)} {vs:List (Nat×Value)} {C:List Value} (hB:rk P T PL Z) (hv:(vs.all fun q=>dO q.1 PL.length)=true) (hps:AA env (ps.map (·.2)) (vs.map (·.2))) (hix:ps.map (·.1)=vs.map (·.1)) (hb:FL PL Z vs C):LO P β env L ⟨d,.build T ps.toArray,ty,pos,aft,g⟩ (.agg C.toArray):=
 .fy fun a w h hw=>⟨w,by
  have h2:=AA.map (a:=a) hps (fun x hm u hu=>h x (by
   obtain⟨p,hp,e⟩:=bN.1 hm
   simp only[aL]
   subst e
   simpa using⟨p.1,hp⟩) u hu)
  rw[dV]at h2
  have hm:(ps.map fun p=>(p.1,a.eval p.2))=vs:=u3 hix h2
  have hb':=run_build (P:=P) w T vs.toArray C.toArray (by rw[hB _ hv];exact hb.fill)
  rw[←hm]at hb'
  simp only[execOp,bY]
  rw[show(ps.toArray.map fun(i,x)=>(i,a.eval x))=(ps.map fun p=>(p.1,a.eval p.2)).toArray by simp]
  simp [hb'],hw⟩
end
def RO {α:Type} (z:Nat) (f:α→List Value) (w:World) (p:Option Addr) (l:List α):Prop:=pT w z p (l.map f)
section
variable {α:Type} {z:Nat} {f:α→List Value} {w0 w:World} {p:Option Addr} {l:List α} {L:List dg} {β:Bs}
theorem RO.sm (h:RO z f w p l):jR p l.length:=PJ h (by simp)
theorem RO.b0 (h:RO z f w0 p l):∀w,St (bs w0) L w→RO z f w p l:=PK h
theorem RO.gM (hw:St β L w) (i:Nat) {E cap:Nat} (hi:L[i]? =some (own E z p cap (l.map f))):RO z f w p l:=bL hw i hi
theorem RO.r6 {b:Nat} (hz:∀x,(f x).length=z) (h:fG w ⟨b,0,none⟩ (l.map f).flatten):RO z f w (some ⟨b,0,none⟩) l:=by
 refine⟨fun j r hr i v hv=>?_,fun q=>(by cases q),fun _ a q=>(by cases q;rfl)⟩
 have hz':∀r∈l.map f,r.length=z:=fun r hr=>by obtain⟨x,_,rfl⟩:=bN.1 hr;exact hz x
 have:=h (j*z+i) v (oo hz' hr hv)
 have e1:(⟨b,0,none⟩:Addr).add (j*z+i)=⟨b,j*z+i,none⟩:=by unfold Addr.add;split<;>simp_all
 have e2:(⟨pb (Option.some ⟨b,0,none⟩),po (Option.some ⟨b,0,none⟩)+j*z,none⟩:Addr).add i=⟨b,j*z+i,none⟩:=by unfold Addr.add;simp only[pb,po];split<;>simp_all
 rw[e1]at this;rw[e2];exact this
theorem aA {w:World} {b o off:Nat} {C vs:List Value} (h:fG w ⟨b,o,none⟩ C) (hv:∃r,C.drop off=vs++r):fG w ⟨b,o+off,none⟩ vs:=by
 obtain⟨r,hr⟩:=hv
 intro j v hj
 have h2:C[off+j]? =some v:=by
  rw[←mY,hr,aV (by
   rcases bf j vs.length with h|h
   ·exact h
   ·simp [aQ h]at hj)]
  exact hj
 have:=h (off+j) v h2
 have e1:(⟨b,o,none⟩:Addr).add (off+j)=⟨b,o+off+j,none⟩:=by unfold Addr.add;split<;>simp_all<;>omega
 have e2:(⟨b,o+off,none⟩:Addr).add j=⟨b,o+off+j,none⟩:=by unfold Addr.add;split<;>simp_all
 rw[e2, ←e1];exact this
end
end Go.SL
namespace Go.SL
set_option linter.unusedVariables false
open Go.RowKit
def RQ (Rs:List dg):dg where
 fp:=fun k=>∃r,r∈Rs∧r.fp k
 inv:=fun w=>∀r,r∈Rs→r.inv w
 loc:=fun h hi r hr=>r.loc (fun k hk=>h k ⟨r,hr,hk⟩) (hi r hr)
section
variable {β:Bs} {L:List dg} {w:World}
theorem St.Wq (hw:St β L w):St β (RQ []::L) w:=by
 have:St (bs w) [RQ []] w:=by
  refine⟨rfl,rfl,rfl,Nat.le_refl _,fun _ _ _=>rfl,?_,?_,?_⟩
  ·intro i r hr
   cases i with
   |zero=>simp at hr;subst hr;exact fun r hr=>by cases hr
   |succ i=>simp at hr
  ·intro i r hr k hk
   cases i with
   |zero=>simp at hr;subst hr;obtain⟨r,hr,_⟩:=hk;cases hr
   |succ i=>simp at hr
  ·intro i j r s hij hr hs
   cases i with
   |zero=>cases j with|zero=>exact absurd rfl hij|succ j=>simp at hs
   |succ i=>simp at hr
 exact hw.call this
theorem St.Zh {r:dg} {Rs:List dg} (h:St β (r::RQ Rs::L) w):St β (RQ (Rs++[r])::L) w:=by
 have mem:∀{x:dg},x∈Rs++[r]→x∈Rs∨x=r:=fun hx=>by
  rcases bQ.1 hx with q|q
  ·exact .inl q
  ·exact .inr (List.mem_singleton.1 q)
 refine⟨h.os,h.tape,h.output,h.size,h.fr,?_,?_,?_⟩
 ·intro i s hs
  cases i with
  |zero=>
   simp at hs;subst hs
   intro x hx
   rcases mem hx with q|rfl
   ·exact h.inv 1 (RQ Rs) rfl x q
   ·exact h.inv 0 x rfl
  |succ i=>exact h.inv (i+2) s (by simpa using hs)
 ·intro i s hs k hk
  cases i with
  |zero=>
   simp at hs;subst hs
   obtain⟨x,hx,hk⟩:=hk
   rcases mem hx with q|rfl
   ·exact h.qE 1 (RQ Rs) rfl k ⟨x,q,hk⟩
   ·exact h.qE 0 x rfl k hk
  |succ i=>exact h.qE (i+2) s (by simpa using hs) k hk
 ·have key:∀(j:Nat) (s:dg),(L[j]? =some s)→∀k,(RQ (Rs++[r])).fp k→¬s.fp k:=fun j s hs k hk hk2=>by
   obtain⟨x,hx,hk⟩:=hk
   rcases mem hx with q|rfl
   ·exact h.A2 1 (j+2) (RQ Rs) s (by omega) rfl (by simpa using hs) k ⟨x,q,hk⟩ hk2
   ·exact h.A2 0 (j+2) x s (by omega) rfl (by simpa using hs) k hk hk2
  intro i j a b hij ha hb k hk hk2
  cases i with
  |zero=>
   simp at ha;subst ha
   cases j with
   |zero=>exact hij rfl
   |succ j=>exact key j b (by simpa using hb) k hk hk2
  |succ i=>
   cases j with
   |zero=>simp at hb;subst hb;exact key i a (by simpa using ha) k hk2 hk
   |succ j=>exact h.A2 (i+2) (j+2) a b (by omega) (by simpa using ha) (by simpa using hb) k hk hk2
theorem gG {E z cap:Nat} {p:Option Addr} {rows:List (List Value)} (h:(own E z p cap rows).inv w):Rows w z p rows:=by
 obtain⟨h1,h2,h3,h4⟩:=h
 refine⟨?_,fun hp=>(h3 hp).1,fun _ a ha=>(h4 a ha).2.1⟩
 intro j r hr k v hv
 cases p with
 |none=>rw[(h3 rfl).1]at hr;simp at hr
 |some a=>
  obtain⟨g1,g2,C,s,g3,g4,g5⟩:=h4 a rfl
  have hadd:(⟨pb (some a),po (some a)+j*z,none⟩:Addr).add k=⟨a.block,j*z+k,none⟩:=by
   unfold Addr.add pb po;simp only[g1];split<;>simp_all
  rw[hadd]
  simp only[World.cell?,g3,Option.isSome_none,cA,if_false]
  have:C.toList[j*z+k]? =some v:=by
   rw[g4]
   have:=oo h2 hr hv
   rw[aV]
   ·exact this
   ·rcases bf (j*z+k) rows.flatten.length with q|q
    ·exact q
    ·rw[aQ q]at this;cases this
  simpa using this
structure cG (α:Type) where
 p:Option Addr
 c:Nat
 l:List α
def cG.z {α:Type}:cG α:=⟨none,0,[]⟩
def lI {α:Type} (x:cG α):List Value:=[.slice x.p x.l.length x.c]
def kZ {α:Type} (E z:Nat) (f:α→List Value) (rs:List (cG α)):dg:=RQ (rs.map fun x=>own E z x.p x.c (x.l.map f))
def RR {α:Type} (z:Nat) (f:α→List Value) (w:World) (p:Option Addr) (rs:List (cG α)):Prop:=RO 1 lI w p rs∧∀x,x∈rs→x.l.length≤x.c∧RO z f w x.p x.l
theorem RR.b0 {α:Type} {z:Nat} {f:α→List Value} {w0:World} {p:Option Addr} {rs:List (cG α)} (h:RR z f w0 p rs):∀w,St (bs w0) L w→RR z f w p rs:=
 fun w hw=>⟨h.1.b0 w hw,fun x hx=>⟨(h.2 x hx).1,(h.2 x hx).2.b0 w hw⟩⟩
theorem RR.gM {α:Type} {z:Nat} {f:α→List Value} {p:Option Addr} {rs:List (cG α)} (hw:St β L w) (i j:Nat) {E E' cap:Nat} (hi:L[i]? =some (own E 1 p cap (rs.map lI))) (hj:L[j]? =some (kZ E' z f rs)):RR z f w p rs:=
 ⟨RO.gM hw i hi,fun x hx=>by
  have h:=hw.inv j _ hj _ (List.mem_map_of_mem (f:=fun x:cG α=>own E' z x.p x.c (x.l.map f)) hx)
  refine⟨?_,gG h⟩
  have:=h.1
  rwa [ak]at this⟩
theorem St.qi {α:Type} (hw:St β L w) (E z:Nat) (f:α→List Value):St β (kZ E z f []::L) w:=hw.Wq
theorem St.wg {α:Type} {E z:Nat} {f:α→List Value} {rs:List (cG α)} {x:cG α} (h:St β (own E z x.p x.c (x.l.map f)::kZ E z f rs::L) w):St β (kZ E z f (rs++[x])::L) w:=by
 have:=h.Zh
 unfold kZ
 rw[bG]
 exact this
end
def xp (r s:dg):Prop:=∀k,r.fp k→¬s.fp k
theorem xp.symm {r s:dg} (h:xp r s):xp s r:=fun k hk hk2=>h k hk2 hk
section
variable {β:Bs} {L L' Rs:List dg} {w w':World}
theorem St.mem (h:St β L w) {r:dg} (hr:r∈L):r.inv w:=by
 obtain⟨i,hi⟩:=eA.1 hr
 exact h.inv i r hi
theorem St.FH (h:St β L w) {r:dg} (hr:r∈L):∀k,r.fp k→(β.O k∨β.w.heap.size≤k)∧k<w.heap.size:=by
 obtain⟨i,hi⟩:=eA.1 hr
 exact h.qE i r hi
theorem St.pw (h:St β L w):L.Pairwise xp:=by
 rw[cj]
 intro i j hi hj hij
 exact h.A2 i j _ _ (by omega) (aw hi) (aw hj)
theorem Dq (os:w.os=β.w.os) (tape:w.tape=β.w.tape) (output:w.output=β.w.output) (size:β.w.heap.size≤w.heap.size) (fr:∀k,k<β.w.heap.size→¬β.O k→w.heap[k]? =β.w.heap[k]?)
  (inv:∀r,r∈L→r.inv w) (qE:∀r,r∈L→∀k,r.fp k→(β.O k∨β.w.heap.size≤k)∧k<w.heap.size) (pw:L.Pairwise xp):St β L w:=by
 refine⟨os,tape,output,size,fr,fun i r hr=>inv r (al hr),fun i r hr=>qE r (al hr),?_⟩
 intro i j r s hij hr hs
 obtain⟨hi,rfl⟩:=an.1 hr
 obtain⟨hj,rfl⟩:=an.1 hs
 have:=cj.1 pw
 rcases Nat.lt_or_gt_of_ne hij with q|q
 ·exact this i j hi hj q
 ·exact(this j i hj hi q).symm
theorem St.perm (h:St β L w) (hp:L.Perm L'):St β L' w:=
 Dq h.os h.tape h.output h.size h.fr (fun r hr=>h.mem (hp.mem_iff.2 hr)) (fun r hr=>h.FH (hp.mem_iff.2 hr)) ((hp.pairwise_iff (fun h=>xp.symm h)).1 h.pw)
def bV (Rs:List dg):dg where
 fp:=fun k=>∃r,r∈Rs∧r.fp k
 inv:=fun w=>(∀r,r∈Rs→r.inv w)∧Rs.Pairwise xp
 loc:=fun h hi=>⟨fun r hr=>r.loc (fun k hk=>h k ⟨r,hr,hk⟩) (hi.1 r hr),hi.2⟩
theorem St.uk (h:St β (bV Rs::L) w):St β (Rs++L) w:=by
 have hb:=h.mem (jl)
 have hp:=jm.1 h.pw
 refine Dq h.os h.tape h.output h.size h.fr (fun r hr=>?_) (fun r hr k hk=>?_) ?_
 ·rcases bQ.1 hr with q|q
  ·exact hb.1 r q
  ·exact h.mem (iP _ q)
 ·rcases bQ.1 hr with q|q
  ·exact h.FH jl k ⟨r,q,hk⟩
  ·exact h.FH (iP _ q) k hk
 ·exact jD.2 ⟨hb.2,hp.2,fun r hr s hs k hk=>hp.1 s hs k ⟨r,hr,hk⟩⟩
theorem St.bV (h:St β (Rs++L) w):St β (Go.SL.bV Rs::L) w:=by
 obtain⟨p1,p2,p3⟩:=jD.1 h.pw
 refine Dq h.os h.tape h.output h.size h.fr (fun r hr=>?_) (fun r hr k hk=>?_) ?_
 ·rcases dU.1 hr with rfl|q
  ·exact⟨fun r hr=>h.mem (dt _ hr),p1⟩
  ·exact h.mem (fe _ q)
 ·rcases dU.1 hr with rfl|q
  ·obtain⟨s,hs,hk⟩:=hk
   exact h.FH (dt _ hs) k hk
  ·exact h.FH (fe _ q) k hk
 ·exact jm.2 ⟨fun s hs k ⟨r,hr,hk⟩=>p3 r hr s hs k hk,p2⟩
theorem St.focus {A B:List dg} {r:dg} (h:St β (Go.SL.bV (A++r::B)::L) w):St β (r::Go.SL.bV (A++B)::L) w:=by
 have h1:=h.uk.perm (L':=(A++B)++(r::L)) (by
  simp only[dk,oQ]
  exact xS A (iu.symm))
 exact(h1.bV).perm (sY _ _ _)
theorem St.Cf {A B:List dg} {r:dg} (h:St β (r::Go.SL.bV (A++B)::L) w):St β (Go.SL.bV (A++r::B)::L) w:=by
 have h1:=(h.perm (sY _ _ _)).uk.perm (L':=(A++r::B)++L) (by
  simp only[dk,oQ]
  exact xS A iu)
 exact h1.bV
def Has (w:World) (R:List dg):Prop:=St ⟨w,mG R⟩ R w
theorem uZ {R:List dg} {k:Nat}:mG R k↔∃r,r∈R∧r.fp k:=
 ⟨fun⟨i,r,hr,hk⟩=>⟨r,al hr,hk⟩,fun⟨r,hr,hk⟩=>by obtain⟨i,hi⟩:=eA.1 hr;exact⟨i,r,hi,hk⟩⟩
theorem Wr {R:List dg} (h1:∀r,r∈R→r.inv w) (h2:∀r,r∈R→∀k,r.fp k→k<w.heap.size) (h3:R.Pairwise xp):Has w R:=
 Dq rfl rfl rfl (Nat.le_refl _) (fun _ _ _=>rfl) h1 (fun r hr k hk=>⟨.inl (uZ.2 ⟨r,hr,hk⟩),h2 r hr k hk⟩) h3
theorem St.has {R:List dg} (h:St β L w) (hs:R.Sublist L):Has w R:=
 Wr (fun r hr=>h.mem (hs.subset hr)) (fun r hr k hk=>(h.FH (hs.subset hr) k hk).2) (h.pw.sublist hs)
theorem St.aba {R:List dg} (h:St β (R++L) w):Has w R:=h.has (List.sublist_append_left R L)
theorem Has.Tw {R:List dg} (h:Has w (Go.SL.bV Rs::R)):Has w (Rs++R):=St.has (St.uk h) (List.Sublist.refl _)
theorem Has.enter (h:Has w L):St ⟨w,mG L⟩ L w:=h
end
section
variable {P:Program} {ro:Option Nat} {β:Bs} {N:Nat} {ds:List Deferred} {env:Env} {L:List dg} {Q:Exit→Act→World→Prop}
 {ty:TypeId} {pos:String} {aft:Array Edge} {g:Option (Nat×Bool)}
theorem VC.res {L':List dg} {c:Code} (hL:∀w,St β L w→St β L' w) (h:VC P ro β N ds env L' c Q):VC P ro β N ds env L c Q:=fun a w ha hw=>h a w ha (hL w hw)
end
theorem xj {z:Nat}:∀{rows:List (List Value)} {j o:Nat} {r vs:List Value},(∀r∈rows,r.length=z)→rows[j]? =some r→o+vs.length≤z→
  rows.flatten.take (j*z+o)++vs++rows.flatten.drop (j*z+o+vs.length)=(rows.set j (r.take o++vs++r.drop (o+vs.length))).flatten
 |[],j,o,r,vs,_,h,_=>by simp at h
 |x::xs,0,o,r,vs,hz,h,hl=>by
  simp at h;subst h
  have hx:x.length=z:=hz x (by simp)
  simp only[Nat.zero_mul,Nat.zero_add,gB,List.set_cons_zero]
  rw[jw (by omega),oR (by omega)]
  simp only[dk]
 |x::xs,j+1,o,r,vs,hz,h,hl=>by
  have hx:x.length=z:=hz x (by simp)
  have ih:=xj (rows:=xs) (j:=j) (o:=o) (r:=r) (vs:=vs) (fun r hr=>hz r (by simp [hr])) (by simpa using h) hl
  simp only[gB,List.set_cons_succ, ←ih]
  have e:(j+1)*z+o=x.length+(j*z+o):=by rw[fQ];omega
  rw[e,List.take_length_add_append,show x.length+(j*z+o)+vs.length=x.length+(j*z+o+vs.length) by omega,List.drop_length_add_append]
  simp only[dk]
section
variable {P:Program} {ro:Option Nat} {β:Bs} {N:Nat} {ds:List Deferred} {env:Env} {L:List dg} {Q:Exit→Act→World→Prop}
 {ty:TypeId} {pos:String} {aft:Array Edge} {g:Option (Nat×Bool)}
theorem HO.Qv (i:Nat) (LF:dg→List dg) {K:Value→List dg→Prop} {dd:Option Nat} {x y:Operand} {T E z cap j o q:Nat} {p:Option Addr} {rows:List (List Value)} {r:List Value} {v:Value} {vs:List Value} (hT:(P.info? T).map (·.size)=some vs.length) (hx:OV env x (.pointer (some ⟨pb p,q,none⟩))) (hy:OV env y v)
  (hi:L[i]? =some (own E z p cap rows)) (hj:rows[j]? =some r) (hq:q=po p+j*z+o) (hv:v.cells=vs.toArray) (hfit:o+vs.length≤z) (h1:mU vs=true) (hL:∀R:dg,L.set i R=LF R)
  (k:K undef (LF (own E z p cap (rows.set j (r.take o++vs++r.drop (o+vs.length)))))):HO P β env L ⟨dd,.store T x y,ty,pos,aft,none⟩ K:=by
 intro a w h hw
 have ex:a.eval x= .pointer (some ⟨pb p,q,none⟩):=by obtain⟨u,hu,e⟩:=hx;subst e;exact h x (by simp [aL]) _ hu
 have ey:a.eval y=v:=by obtain⟨u,hu,e⟩:=hy;subst e;exact h y (by simp [aL]) _ hu
 obtain⟨g1,g2,g3,g4⟩:=hw.inv i _ hi
 have hlt:i<L.length:=by
  rcases bf i L.length with q|q
  ·exact q
  ·simp [aQ q]at hi
 cases p with
 |none=>rw[(g3 rfl).1]at hj;simp at hj
 |some ad=>
  obtain⟨k1,k2,C,sp,k3,k4,k5⟩:=g4 ad rfl
  have hq':q=j*z+o:=by rw[hq];simp only[po,k1];omega
  have hjl:j<rows.length:=(an.1 hj).1
  have hfl:rows.flatten.length=rows.length*z:=kt g2
  have hle:j*z+o+vs.length≤rows.flatten.length:=by
   rw[hfl]
   have:(j+1)*z≤rows.length*z:=Nat.mul_le_mul_right z hjl
   rw[fQ]at this;omega
  have hCl:C.size=C.toList.length:=by simp
  have hrun:=tN (P:=P) (o:=q) hT hv k3 (by rw[hCl,k4,aJ];omega) (ou h1)
  have hr:r.length=z:=g2 r (al hj)
  have hC:C.toList.take q++vs++C.toList.drop (q+vs.length)=(rows.set j (r.take o++vs++r.drop (o+vs.length))).flatten++sp:=by
   rw[←xj g2 hj hfit,hq',k4,jw (by omega),oR (by omega)]
   simp only[dk]
  refine .inl ⟨.skip,w.setRow ad.block (C.toList.take q++vs++C.toList.drop (q+vs.length)).toArray,undef,_,?_,.inr ⟨rfl,rfl⟩,k,?_⟩
  ·simp only[execOp,ex,ey,pb,Instr.storeAt,Instr.sureAddr,bY,dL,bP,hrun]
  ·rw[←hL]
   have s1:St β (L.set i (gq ad.block (.cells C E))) w:=hw.conv i hi (fun k hk=>⟨by simp,hk⟩) k3
   have hg:(L.set i (gq ad.block (.cells C E)))[i]? =some (gq ad.block (.cells C E)):=by simp [hlt]
   have s2:=s1.setRow (C':=(C.toList.take q++vs++C.toList.drop (q+vs.length)).toArray) hg
   rw[List.set_set]at s2
   have hg2:(L.set i (gq ad.block (.cells (C.toList.take q++vs++C.toList.drop (q+vs.length)).toArray E)))[i]? =some (gq ad.block (.cells (C.toList.take q++vs++C.toList.drop (q+vs.length)).toArray E)):=by simp [hlt]
   have s3:=s2.conv i (r':=own E z (some ad) cap (rows.set j (r.take o++vs++r.drop (o+vs.length)))) hg2 (fun k hk=>hk.2) (by
    refine⟨by simpa using g1,?_,fun e=>(by cases e),?_⟩
    ·intro s hs
     rcases List.mem_or_eq_of_mem_set hs with q1|q1
     ·exact g2 s q1
     ·subst q1;simp;omega
    ·intro a' ha'
     cases ha'
     refine⟨k1,k2,_,sp,s2.inv i _ hg2,by simpa using hC,?_⟩
     simp only[gA]
     have e1:(C.toList.take q++vs++C.toList.drop (q+vs.length)).length=C.toList.length:=by
      have:=hle
      have:q+vs.length≤C.toList.length:=by rw[k4,aJ];omega
      simp;omega
     rw[e1, ←hCl,k5])
   rwa [List.set_set]at s3
end
section
variable {P:Program} {ro:Option Nat} {β:Bs} {N:Nat} {ds:List Deferred} {env:Env} {L:List dg} {Q:Exit→Act→World→Prop}
 {ty:TypeId} {pos:String} {aft:Array Edge} {g:Option (Nat×Bool)}
theorem LO.mf2 {d:Option Nat} {fn:Fn} {ys xs:List Operand} {first cap:List Value} (hy:AA env ys first) (hx:AA env xs cap):LO P β env L ⟨d,.makeFunc fn ys.toArray xs.toArray,ty,pos,aft,g⟩ (.func fn first.toArray cap.toArray):=
 .fy fun a w h hw=>⟨w,by
  have hm:xs.map a.eval=cap:=hx.map fun x hm u hu=>h x (by simp [aL,hm]) u hu
  have hm2:ys.map a.eval=first:=hy.map fun x hm u hu=>h x (by simp [aL,hm]) u hu
  simp [execOp,Instr.makeFunc,hm,hm2],hw⟩
theorem HO.oU {α:Type} (L1 L2:List dg) {K:Value→List dg→Prop} {dd:Option Nat} {f:FuncId} {fx:Operand} {xs:List Operand} {vs first cap:List Value} {aT:Array TypeId} {v:α→Value} {R:α→List dg} {I:α→Prop} (hL:∀w,St β L w→St β (L1++L2) w) (hfx:OV env fx (.func (.func f) first.toArray cap.toArray)) (hf:fh P f) (hx:AA env xs vs)
  (hc:∀w,St β L w→Has w L1→Calls P f (first++vs++cap).toArray w fun e w'=>∃x,I x∧e= .returned (v x)∧St ⟨w,mG L1⟩ (R x) w') (k:∀x,I x→K (v x) (R x++L2)):HO P β env L ⟨dd,.call ⟨.value fx,xs.toArray,aT⟩,ty,pos,aft,none⟩ K:=by
 intro a w h hw
 refine .inr (.inl ⟨f,(first++vs++cap).toArray,?_,?_⟩)
 ·have hm:xs.map a.eval=vs:=hx.map fun x hm u hu=>by obtain⟨u',hu',e⟩:=hu;subst e;exact h x (by simp [aL,eL,hm]) u' hu'
  have hfe:a.eval fx= .func (.func f) first.toArray cap.toArray:=by obtain⟨u',hu',e⟩:=hfx;subst e;exact h fx (by simp [aL,eL]) _ hu'
  simp [execOp,resolve,hfe,mJ,invoke,qG hf,hm]
 ·have hw2:St β (L1++L2) w:=hL w hw
  exact(hc w hw hw2.aba).mono fun e w' ⟨x,hI,he,hs⟩=>⟨v x,_,he,k x hI,hw2.AV (fun k hk=>hk) hs⟩
end
section
variable {P:Program} {ro:Option Nat} {β:Bs} {N:Nat} {ds:List Deferred} {env:Env} {L:List dg} {Q:Exit→Act→World→Prop}
 {ty:TypeId} {pos:String} {aft:Array Edge} {g:Option (Nat×Bool)}
theorem uS {zs:Array Value} (hz:0<zs.size):∀n,(bF (n*zs.size)).map (fun i=>zs[i%zs.size]!)=(bH n zs.toList).flatten
 |0=>by simp
 |n+1=>by
  rw[List.replicate_succ',List.flatten_append, ←uS hz n,fQ,Nat.one_mul,List.range_add,bG]
  congr 1
  rw[dV]
  simp only[gB,List.flatten_nil,ew]
  refine List.ext_getElem? fun i=>?_
  rw[aI]
  rcases bf i zs.size with h|h
  ·rw[List.getElem?_range h]
   simp only[ft,Function.comp]
   have e:(n*zs.size+i)%zs.size=i:=by rw[Nat.mul_comm,Nat.mul_add_mod,Nat.mod_eq_of_lt h]
   rw[e,getElem!_pos zs i h]
   simp [h]
  ·rw[aQ (by simpa using h),aQ (by simpa using h)];rfl
theorem MZ {zero:Value} {z:Nat} (h4:zero.cells.size=z) (hz1:0<z) (n:Nat):((Array.range (n*z)).map fun i=>zero.cells[i%zero.cells.size]!)=(bH n zero.cells.toList).flatten.toArray:=by
 rw[←uS (by omega),h4];apply qS;simp
set_option maxRecDepth 8000 in
theorem IH {T E z by_ n:Nat} {zero:Value} (hT:ee P T E) (hE:j6 P E z by_ zero) (hz1:0<z) (hn:by_*n≤281474976710656) (hn2:n≤281474976710656) (w:World):(Instr.makeSlice T (.int .i64 (n:Int)) (.int .i64 (n:Int))).run P w= .ok (.slice (some ⟨w.heap.size,0,none⟩) n n) (w.alloc (.cells (bH n zero.cells.toList).flatten.toArray E)):=by
 obtain⟨h1,h2,h3,h4,h5⟩:=hE
 have hw64:IntKind.wrap .i64 (n:Int)=n:=wi (by omega) (by omega)
 obtain⟨i,hi,hib⟩:=v8 h2 w
 have hcells:=MZ h4 hz1 n
 have t1:decide ((by_:Int)*n>2 ^ 48)=false:=by
  have h1:(by_:Int)*n≤281474976710656:=by omega
  have h2:¬((n:Int)<0):=by omega
  have h3:¬((by_:Int)*n>281474976710656):=by omega
  rw[show((2:Int) ^ 48)=281474976710656 from rfl,decide_eq_false h3]
 have c1:decide ((n:Int)<0)=false:=by rw[decide_eq_false_iff_not];omega
 have c2:decide ((n:Int)>n)=false:=by rw[decide_eq_false_iff_not];omega
 unfold Instr.makeSlice
 rw[bY,run_underlying hT,bP]
 have ha:(asInt (.int .i64 (n:Int))).run P w= .ok (n:Int) w:=rfl
 dsimp only
 rw[bY,ha,bP,bY,ha,bP,bY,hi,bP]
 simp only[hib,hw64,t1,c1,c2,Bool.or_self,cA,if_false,bY,run_askRoom,bP,iz h1,Int.toNat_natCast]
 by_cases q:n*z=0
 ·have hn0:n=0:=by
   rcases Nat.mul_eq_zero.1 q with q|q
   ·exact q
   ·omega
  subst hn0
  simp [newRow,run_newObj]
  congr 2
  exact qS (by simp [Array.toList_range])
 ·simp only[q,if_false,bY,ot h3,bP,dL,hcells,newRow,run_newObj]
  rfl
theorem HO.mks {K:Value→List dg→Prop} {dd:Option Nat} {x y:Operand} {T E z by_ n:Nat} {zero:Value} {e:Int} (hT:ee P T E) (hE:j6 P E z by_ zero) (hx:OV env x (.int .i64 e)) (hy:OV env y (.int .i64 e)) (he:e=(n:Int)) (hz1:0<z) (hn:by_*n≤281474976710656) (hn2:n≤281474976710656)
  (k:∀b,K (.slice (some ⟨b,0,none⟩) n n) (own E z (some ⟨b,0,none⟩) n (bH n zero.cells.toList)::L)):HO P β env L ⟨dd,.makeSlice T x y,ty,pos,aft,none⟩ K:=by
 intro a w h hw
 have ex:a.eval x= .int .i64 e:=by obtain⟨u,hu,q⟩:=hx;subst q;exact h x (by simp [aL]) _ hu
 have ey:a.eval y= .int .i64 e:=by obtain⟨u,hu,q⟩:=hy;subst q;exact h y (by simp [aL]) _ hu
 subst he
 have hrun:=IH hT hE hz1 hn hn2 w
 obtain⟨h1,h2,h3,h4,h5⟩:=hE
 have hfl:∀n,(bH n zero.cells.toList).flatten.length=n*z:=fun n=>by
  rw[kt (z:=z) (fun r hr=>by rw[(ng.1 hr).2,ky,h4])];simp
 refine .inl ⟨_,w.alloc (.cells (bH n zero.cells.toList).flatten.toArray E),_,_,?_,.inl rfl,k w.heap.size,?_⟩
 ·simp only[execOp,ex,ey,bY,hrun,bP,dL]
 ·have s1:=hw.alloc (.cells (bH n zero.cells.toList).flatten.toArray E)
  exact s1.conv 0 (r':=own E z (some ⟨w.heap.size,0,none⟩) n (bH n zero.cells.toList)) rfl (fun k hk=>hk.2) ⟨by simp,fun r hr=>by rw[(ng.1 hr).2,ky,h4],fun q=>(by cases q),fun a' ha'=>by
   cases ha'
   exact⟨rfl,rfl,_,[],heap_alloc_new w _,by simp,by rw[gA,hfl]⟩⟩
end
section
variable {P:Program} {β:Bs} {N:Nat} {env:Env} {L:List dg} {ty:TypeId} {pos:String} {aft:Array Edge} {dd:Option Nat}
theorem HO.abl {K:Value→List dg→Prop} {x y:Operand} {T E z by_ n:Nat} {zero:Value} {e:Int} (hT:ee P T E) (hE:j6 P E z by_ zero) (hx:OV env x (.int .i64 e)) (hy:OV env y (.int .i64 e)) (he:e=(n:Int)) (hz1:0<z) (hn:by_*n≤281474976710656) (hn2:n≤281474976710656)
  (k:∀b,K (.slice (some ⟨b,0,none⟩) n n) (gq b (.cells (bH n zero.cells.toList).flatten.toArray E)::L)):HO P β env L ⟨dd,.makeSlice T x y,ty,pos,aft,none⟩ K:=by
 intro a w h hw
 have ex:a.eval x= .int .i64 e:=by obtain⟨u,hu,q⟩:=hx;subst q;exact h x (by simp [aL]) _ hu
 have ey:a.eval y= .int .i64 e:=by obtain⟨u,hu,q⟩:=hy;subst q;exact h y (by simp [aL]) _ hu
 subst he
 have hrun:=IH hT hE hz1 hn hn2 w
 refine .inl ⟨_,w.alloc (.cells (bH n zero.cells.toList).flatten.toArray E),_,_,?_,.inl rfl,k w.heap.size,hw.alloc _⟩
 simp only[execOp,ex,ey,bY,hrun,bP,dL]
theorem HO.cpy (i:Nat) (LF:dg→List dg) {K:Value→List dg→Prop} {x y:Operand} {T T2 E b o dl dc sl sc:Nat} {a0:Addr} {C C':Array Value} {cs:List Value} (hT:ee P T E) (hz:(P.info? E).map (·.size)=some 1)
  (hx:OV env x (.slice (some ⟨b,o,none⟩) dl dc)) (hy:OV env y (.slice (some a0) sl sc)) (hi:L[i]? =some (gq b (.cells C E))) (hn:cs.length=Nat.min sl dl) (hsrc:∀w,St β L w→∀(j:Nat) (v:Value),cs[j]? =some v→w.cell? (a0.add j)=some v)
  (hfit:o+cs.length≤C.size) (h1:∀v∈cs,v.oneCell'=true) (hC:(C.toList.take o++cs++C.toList.drop (o+cs.length)).toArray=C') (hL:∀R:dg,L.set i R=LF R)
  (k:K (.int .i64 cs.length) (LF (gq b (.cells C' E)))):HO P β env L ⟨dd,.call ⟨.builtin .copy,#[x,y],#[T,T2]⟩,ty,pos,aft,none⟩ K:=by
 intro a w h hw
 have ex:a.eval x= .slice (some ⟨b,o,none⟩) dl dc:=by obtain⟨u,hu,e⟩:=hx;subst e;exact h x (by simp [aL,eL]) _ hu
 have ey:a.eval y= .slice (some a0) sl sc:=by obtain⟨u,hu,e⟩:=hy;subst e;exact h y (by simp [aL,eL]) _ hu
 have hg:w.heap[b]? =some (.cells C E (0,0)):=hw.inv i _ hi
 have hrun:=run_copy_row (P:=P) w T T2 ty E b o dl dc a0 sl sc C E cs hT hz hg hn (hsrc w hw) hfit h1
 refine .inl ⟨.value (.int .i64 cs.length),w.setRow b C',_,LF (gq b (.cells C' E)),?_,.inl rfl,k,?_⟩
 ·rw[hC]at hrun
  simp [execOp,resolve,invoke,builtin,ex,ey,hrun,goInt]
 ·rw[←hL];exact hw.setRow hi
theorem KX {b n k:Nat} (h:k<n):qy (some ⟨b,0,none⟩) n k 1=some ⟨b,k,none⟩:=by
 unfold qy
 rw[if_neg (by omega)]
 simp [Addr.add]
 omega
end
end Go.SL
