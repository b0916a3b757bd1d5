/-
  The document's state of a pixel.
  (and more)
-/
import Derived.Test.YtffbohecdocajaaGreatKV10
import Derived.Laws.Strings3
import Derived.Laws.Runes
import Derived.Laws.RangeAny
import Derived.Lib.OthersKept
import Derived.Scope
open Bool renaming and_eq_true→aQ
open List renaming mem_range→bf,all_eq_true→bF,getD→jw,getElem?_eq_getElem→af,getD_eq_getElem?_getD→av,getElem?_eq_none→aH,range→br,getElem?_map→aw,length_eq_zero_iff→gY,take_add_one→cQ,length_map→aq,mem_of_getElem?→al,map_append→bj,findIdx_eq_length→uG,getElem_of_mem→da,findIdx_eq→vM,length_take→dt,filter_append→dI,getElem?_drop→kV,map_set→gR
open Int renaming mul_le_mul_of_nonneg_right→dX,toNat_of_nonneg→iv
open Go.Exit renaming noGoto→Ea
open Go.ArrivesIn renaming of_steps→zu
open Go.Op renaming operands→az,equalIn→gP
open Array renaming length_toList→fw
open Option renaming getD_some→dk
open Go.Utf8 renaming encode→jC,decode→l5
open Go.Result renaming andThen_ok→bw
open Nat renaming le_refl→bA,zero_le→bG
open Go.Proofs.Tryz renaming prog→ae,underlying21→AO,strings_IndexByte→uF,underlying9→eS,underlying193→sn,underlying93→pB,underlying89→AQ,underlying91→s9,underlying245→oM,underlying373→so,underlying232→mD,underlying226→mE,underlying222→zw,underlying239→je,underlying99→AR,underlying223→zx,underlying241→k9,underlying103→zy
open Go.Lib renaming indexByte→sA,validRune→nG
open Go.SL.VC renaming seq→ak,block→aG,cond→ay,ret→aP,skip→aC,eP→bY,dU→aF,exit→ca,draw→eH,gu→cP
open Go.SL.VO renaming l→ah,nil→aI,h→aD,h0→bU
open Go.SL.LO renaming le→iI,mv→bJ,pE→dJ,call→bD,eq→fN,ex→bN,sub→dv,len→bW,lA→cw,ld→aB,fa→aE,fg→aM,nc→bH
open Go.SL.VE renaming aN→ag,mB→cI,cJ→a8,gL→bB,cX→bn,cb→aL,l8→cD,res→dh
open Go.SL.HO renaming lo→aO,box→cf,alloc→bI,st→bl
open Go.SL.LL renaming l→aV
open Go.ByteArray renaming toList_eq→E0
open Classical renaming not_not→cL
open ByteArray renaming empty→ra
open Go.Ending renaming returned→cW
open Go.Proofs.YtffbohecdocajaaGreat.CP renaming c→iJ
open Go.Value renaming int→bX
open Go.SL.LX renaming l→aA,s→cn,nil→dw
open Go.SL.HX renaming s→au,h0→eW,nil→dS
open Go.SL renaming de→HM

set_option linter.unusedSimpArgs false
set_option maxRecDepth 20000
set_option maxHeartbeats 8000000
namespace Go.Proofs.YtffbohecdocajaaGreat
open Go.SL Go.Proofs Go.qO
set_option linter.unusedVariables false
def FE (b lo hi grow t:Int):Bool:=decide ((lo-grow)*t-1000000<b*1000000)&&decide (b*1000000<(hi+grow)*t+1000000)
def TA (t:Int):Int:=110000*t / 1000000+2
theorem jY {b lo hi grow t:Int}:FE b lo hi grow t=true↔kf lo grow t≤b∧b≤ke hi grow t:=by
 unfold FE kf ke
 simp only[aQ,decide_eq_true_eq]
 generalize (lo-grow)*t=x
 generalize (hi+grow)*t=y
 omega
def inG (g:cU) (x y:Int):Bool:=(decide (0≤x)&&decide (x≤g.wide-1))&&(decide (0≤y)&&decide (y≤g.high-1))
def okA (g:cU) (c:cZ) (p v u:Int):Bool:=inG g (p.tmod g.wide-u) (p.tdiv g.wide-v)&&fW c.sure ((p.tdiv g.wide-v)*g.wide+(p.tmod g.wide-u))
def okM (g:cU) (c:cZ) (p v u:Int):Bool:=inG g (p.tmod g.wide-u) (p.tdiv g.wide-v)&&fW c.may ((p.tdiv g.wide-v)*g.wide+(p.tmod g.wide-u))
def adb (g:cU) (c:cZ) (p t v u1:Int):Prop:=∀u, -TA t≤u→u<u1→FE u c.fh.a c.fh.b c.grow t=true→okA g c p v u=true
def adt (g:cU) (c:cZ) (p t v u1:Int):Prop:=∃u, -TA t≤u∧u<u1∧FE u c.fh.a c.fh.b c.grow t=true∧okM g c p v u=true
def agB (g:cU) (c:cZ) (p t v1:Int):Prop:=∀v, -TA t≤v→v<v1→FE v c.fh.c c.fh.d c.grow t=true→adb g c p t v (TA t+1)
def ail (g:cU) (c:cZ) (p t v1:Int):Prop:=∃v, -TA t≤v∧v<v1∧FE v c.fh.c c.fh.d c.grow t=true∧adt g c p t v (TA t+1)
section
variable {g:cU} {c:cZ} {p t v u:Int} {a b a':Bool} {m n m':Int}
theorem uV {q:Int}:q∈mU g c p t↔(qp g c p t=true∧q= -1)∨∃x y,(FJ g c p t≤x∧x≤sx1 g c p t)∧(Eh g c p t≤y∧y≤sy1 g c p t)∧q=y*g.wide+x:=by
 unfold mU
 rw[List.mem_append,List.mem_map]
 refine or_congr (by cases qp g c p t<;>simp) ⟨?_,?_⟩
 ·rintro ⟨k,hk,rfl⟩
  rw[bf]at hk
  have hx:0<rJ g c p t:=by
   rcases Nat.eq_zero_or_pos (rJ g c p t) with e|e
   ·rw[e]at hk;omega
   ·exact e
  have h1:=Nat.mod_lt k hx
  have h2:k / rJ g c p t<FA g c p t:=Nat.div_lt_of_lt_mul (by rw[Nat.mul_comm];exact hk)
  generalize k / rJ g c p t=z at h2 ⊢
  generalize k%rJ g c p t=y at h1 ⊢
  unfold rJ at h1
  unfold FA at h2
  exact⟨_,_,⟨by omega,by omega⟩,⟨by omega,by omega⟩,rfl⟩
 ·rintro ⟨x,y,hx,hy,rfl⟩
  have h1:(x-FJ g c p t).toNat<rJ g c p t:=by unfold rJ;omega
  have h2:(y-Eh g c p t).toNat<FA g c p t:=by unfold FA;omega
  refine⟨(y-Eh g c p t).toNat*rJ g c p t+(x-FJ g c p t).toNat,?_,?_⟩
  ·rw[bf]
   have:((y-Eh g c p t).toNat+1)*rJ g c p t≤FA g c p t*rJ g c p t:=Nat.mul_le_mul_right _ h2
   rw[Nat.add_mul]at this;omega
  ·rw[Nat.mul_comm,Nat.mul_add_div (by omega),Nat.div_eq_of_lt h1,Nat.mul_add_mod,Nat.mod_eq_of_lt h1]
   have e1:Eh g c p t+(((y-Eh g c p t).toNat+0:Nat):Int)=y:=by omega
   have e2:FJ g c p t+((x-FJ g c p t).toNat:Int)=x:=by omega
   rw[e1,e2]
theorem j5 {f:Int} (h1: -100000≤f) (h2:f≤100000) (hr1:0≤c.grow) (hr2:c.grow≤10000) (ht:0≤t): -TA t≤kf f c.grow t∧ke f c.grow t≤TA t:=by
 have a1: -110000*t≤(f-c.grow)*t:=dX (by omega) ht
 have a2:(f+c.grow)*t≤110000*t:=dX (by omega) ht
 unfold TA kf ke;omega
theorem PQ {lo hi:Int} (h:lo≤hi) (hr1:0≤c.grow) (ht:0≤t):kf lo c.grow t≤ke hi c.grow t:=by
 have a1:(lo-c.grow)*t≤(hi+c.grow)*t:=dX (by omega) ht
 unfold kf ke;omega
theorem Yz (hf:im c.fh) (hr1:0≤c.grow) (hr2:c.grow≤10000) (ht:0≤t) (hs1:fW c.sure (-1)=false):agB g c p t (TA t+1)↔(mU g c p t).all (fW c.sure)=true:=by
 obtain⟨⟨hfa,hfb,hfc⟩,hfd,hfe,hff⟩:=hf
 have b1:=j5 (f:=c.fh.a) (c:=c) (by omega) (by omega) hr1 hr2 ht
 have b2:=j5 (f:=c.fh.b) (c:=c) (by omega) (by omega) hr1 hr2 ht
 have b3:=j5 (f:=c.fh.c) (c:=c) (by omega) (by omega) hr1 hr2 ht
 have b4:=j5 (f:=c.fh.d) (c:=c) (by omega) (by omega) hr1 hr2 ht
 have l1:=PQ (c:=c) hfb hr1 ht
 have l2:=PQ (c:=c) hfe hr1 ht
 rw[bF]
 constructor
 ·intro k q hq
  have k':∀v u,kf c.fh.c c.grow t≤v→v≤ke c.fh.d c.grow t→kf c.fh.a c.grow t≤u→u≤ke c.fh.b c.grow t→okA g c p v u=true:=fun v u h1 h2 h3 h4=>k v (by omega) (by omega) (jY.2 ⟨h1,h2⟩) u (by omega) (by omega) (jY.2 ⟨h3,h4⟩)
  rcases uV.1 hq with⟨ho,rfl⟩|⟨x,y,hx,hy,rfl⟩
  ·exfalso
   have q1:=k' (kf c.fh.c c.grow t) (kf c.fh.a c.grow t) (by omega) (by omega) (by omega) (by omega)
   have q2:=k' (ke c.fh.d c.grow t) (ke c.fh.b c.grow t) (by omega) (by omega) (by omega) (by omega)
   unfold okA inG at q1 q2
   unfold qp at ho
   simp only[aQ,Bool.or_eq_true,decide_eq_true_eq]at q1 q2 ho
   omega
  ·have:=k' (p.tdiv g.wide-y) (p.tmod g.wide-x) (by unfold sy1 at hy;omega) (by unfold Eh at hy;omega) (by unfold sx1 at hx;omega) (by unfold FJ at hx;omega)
   unfold okA at this
   rw[aQ,show p.tdiv g.wide-(p.tdiv g.wide-y)=y by omega,show p.tmod g.wide-(p.tmod g.wide-x)=x by omega]at this
   exact this.2
 ·intro k v h1 h2 h3 u h4 h5 h6
  have h3:=jY.1 h3
  have h6:=jY.1 h6
  have ho:qp g c p t=false:=by
   cases hq:qp g c p t with
   |false=>rfl
   |true=>have:=k (-1) (uV.2 (.inl ⟨hq,rfl⟩));rw[hs1]at this;cases this
  unfold qp at ho
  simp only[Bool.or_eq_false_iff,decide_eq_false_iff_not]at ho
  have:=k _ (uV.2 (.inr ⟨p.tmod g.wide-u,p.tdiv g.wide-v,by unfold FJ sx1;omega,by unfold Eh sy1;omega,rfl⟩))
  unfold okA inG
  rw[this]
  simp only[aQ,decide_eq_true_eq,and_true]
  omega
theorem ZS (hf:im c.fh) (hr1:0≤c.grow) (hr2:c.grow≤10000) (ht:0≤t) (hm1:fW c.may (-1)=false):ail g c p t (TA t+1)↔(mU g c p t).any (fW c.may)=true:=by
 obtain⟨⟨hfa,hfb,hfc⟩,hfd,hfe,hff⟩:=hf
 have b1:=j5 (f:=c.fh.a) (c:=c) (by omega) (by omega) hr1 hr2 ht
 have b2:=j5 (f:=c.fh.b) (c:=c) (by omega) (by omega) hr1 hr2 ht
 have b3:=j5 (f:=c.fh.c) (c:=c) (by omega) (by omega) hr1 hr2 ht
 have b4:=j5 (f:=c.fh.d) (c:=c) (by omega) (by omega) hr1 hr2 ht
 rw[List.any_eq_true]
 constructor
 ·rintro ⟨v,h1,h2,h3,u,h4,h5,h6,h7⟩
  have h3:=jY.1 h3
  have h6:=jY.1 h6
  unfold okM inG at h7
  simp only[aQ,decide_eq_true_eq]at h7
  exact⟨_,uV.2 (.inr ⟨p.tmod g.wide-u,p.tdiv g.wide-v,by unfold FJ sx1;omega,by unfold Eh sy1;omega,rfl⟩),h7.2⟩
 ·rintro ⟨q,hq,hb⟩
  rcases uV.1 hq with⟨ho,rfl⟩|⟨x,y,hx,hy,rfl⟩
  ·rw[hm1]at hb;cases hb
  ·unfold FJ sx1 at hx
   unfold Eh sy1 at hy
   refine⟨p.tdiv g.wide-y,by omega,by omega,jY.2 ⟨by omega,by omega⟩,p.tmod g.wide-x,by omega,by omega,jY.2 ⟨by omega,by omega⟩,?_⟩
   unfold okM inG
   rw[show p.tdiv g.wide-(p.tdiv g.wide-y)=y by omega,show p.tmod g.wide-(p.tmod g.wide-x)=x by omega,hb]
   simp only[aQ,decide_eq_true_eq,and_true]
   omega
end
theorem l0.keep {w0:World} {p:Option Addr} {l:List CP} (h:l0 w0 p l) {L:List cq}:∀w,St (bs w0) L w→l0 w p l:=
 fun w hw=>⟨h.rows.keep w hw,fun x hx=>⟨(h.ok x hx).1.keep w hw,(h.ok x hx).2.1.keep w hw,(h.ok x hx).2.2⟩⟩
end Go.Proofs.YtffbohecdocajaaGreat
namespace Go.SL
set_option linter.unusedVariables false
open Go.RowKit
section
variable {P:Program} {ro:Option Nat} {β:Bs} {ds:List Deferred} {N:Nat} {env:Env} {L:List cq} {Q:Exit→Act→World→Prop}
theorem ou {b:Frame} {a:Act} {k:List Item} {cs:List Frame} {w:World} {c:Code}:step P (lone (b.atR a (.code (.scope c)::k)) cs w)= .next (lone (b.atR a (.code c:: .inScope c::k)) cs w):=
 step_lone_go (by simp [stepG,stepG.exec,Frame.atR])
theorem Dv {b:Frame} {a:Act} {k:List Item} {cs:List Frame} {w:World} {c:Code}:step P (lone (b.atR a (.inScope c::k)) cs w)= .next (lone (b.atR a k) cs w):=
 step_lone_go (by simp [stepG,stepG.exec,Frame.atR])
theorem Ip {c:Code} {a:Act} {w:World} (h:c.wpIn (Wf ro) 0 P (Ea Q) a w):(Code.scope c).wpIn (Wf ro) 0 P Q a w:=by
 intro b k cs hro hb hrm
 obtain⟨e,a₁,w₁,hq,harr⟩:=h b (.inScope c::k) cs hro hb hrm
 cases e with
 |normal=>exact⟨.normal,a₁,w₁,hq,.of_steps (.one (fenced_calm hb hrm rfl) ou) (StepsIn.trans harr (.one (fenced_calm hb hrm rfl) Dv))⟩
 |exit id=>exact⟨.exit id,a₁,w₁,hq,.of_steps (.one (fenced_calm hb hrm rfl) ou) ⟨fun k' hk=>harr.1 k' (by simp [exitTo,hk]),fun hr hk=>harr.2 hr (by simp [exitTo,hk])⟩⟩
 |goto l=>exact hq.elim
 |ret=>exact⟨.ret,a₁,w₁,hq,zu (e:=.ret) (.one (fenced_calm hb hrm rfl) ou) harr⟩
 |panic ch=>exact⟨.panic ch,a₁,w₁,hq,zu (e:=.panic ch) (.one (fenced_calm hb hrm rfl) ou) harr⟩
 |outgrown=>exact⟨.outgrown,a₁,w₁,hq,zu (e:=.outgrown) (.one (fenced_calm hb hrm rfl) ou) harr⟩
theorem VC.scope {c:Code} (h:VC P ro β N ds env L c (Ea Q)):VC P ro β N ds env L (.scope c) Q:=fun a w ha hw=>Ip (h a w ha hw)
theorem VE.scR (h:VE β N ds env L .ret Q):VE β N ds env L .ret (Ea Q):=fun a w ha hw=>h a w ha hw
variable {d:Option Nat} {ty:TypeId} {pos:String} {aft:Array Edge} {g:Option (Nat×Bool)}
theorem LO.acS {T:Nat} {x:Operand} {s:ByteArray} {aT:Array TypeId} (hT:P.underlying T=some .string) (hx:OV env x (.string s)) (ha:aT[0]? =some T):LO P β env L ⟨d,.call ⟨.builtin .len,#[x],aT⟩,ty,pos,aft,g⟩ (.int .i64 s.size):=
 .ee fun a w h hw=>⟨w,by simp [execOp,resolve,invoke,builtin,h x (by simp [az,Call.operands]) _ hx,Builtin.len_,ha,run_underlying hT,goInt],hw⟩
theorem LO.ixS {T:Nat} {x i:Operand} {s:ByteArray} {k:IntKind} {e:Int} {j:Nat} (hT:P.underlying T=some .string) (hx:OV env x (.string s)) (hi:OV env i (.int k e)) (he:e=(j:Int)) (hj:j<s.size):LO P β env L ⟨d,.index T x i,ty,pos,aft,g⟩ (.int .u8 ((s.data.toList.getD j 0).toNat:Int)):=
 .ee fun a w h hw=>⟨w,by
  subst he
  have hr:=run_index_string (P:=P) (w:=w) T s k (j:Int) hT
  rw[dif_pos ⟨by omega,by omega⟩]at hr
  have e2:(s[(j:Int).toNat]'(by omega))=s.data.toList.getD j 0:=by
   have hl:j<s.data.toList.length:=by rw[fw];exact hj
   simp only[Int.toNat_natCast,jw,af hl,dk]
   rfl
  rw[e2]at hr
  simp [execOp,h x (by simp [az]) _ hx,h i (by simp [az]) _ hi,hr],hw⟩
theorem LO.slS {T:Nat} {x i:Operand} {s:ByteArray} {k:IntKind} {e:Int} (hT:P.underlying T=some .string) (hx:OV env x (.string s)) (hi:OV env i (.int k e)) (h0:0≤e) (h1:e≤(s.size:Int)):LO P β env L ⟨d,.slice T x (some i) none none,ty,pos,aft,g⟩ (.string (s.extract e.toNat s.size)):=
 .ee fun a w h hw=>⟨w,by
  have hr:=run_slice_string_from_if (P:=P) (w:=w) T s k e hT
  rw[if_pos ⟨h0,h1⟩]at hr
  simp [execOp,h x (by simp [az]) _ hx,h i (by simp [az]) _ hi,Instr.sliceAt,run_underlying hT,hr],hw⟩
theorem LO.cvS {sT dT:Nat} {x:Operand} {k:IntKind} {m:Int} (hs:∃d,P.underlying sT=some d) (hT:P.underlying dT=some .string) (hx:OV env x (.int k m)):LO P β env L ⟨d,.convert sT dT x,ty,pos,aft,g⟩ (.string (jC m)):=
 .ee fun a w h hw=>⟨w,by
  have hr:=run_convert_int_string (P:=P) w sT dT k m (Option.isSome_iff_exists.2 hs) hT
  simp [execOp,h x (by simp [az]) _ hx,hr],hw⟩
theorem LO.neS {xT yT:Nat} {x y:Operand} {s t:ByteArray} (hx:OV env x (.string s)) (hy:OV env y (.string t)):LO P β env L ⟨d,.binOp .neq xT x y yT,ty,pos,aft,g⟩ (.bool (!(s.toList==t.toList))):=
 .ee fun a w h hw=>⟨w,by simp [execOp,h x (by simp [az]) _ hx,h y (by simp [az]) _ hy,eqGuard,binOp_string_neq],hw⟩
theorem LO.eqB {x y:Operand} {xT yT:TypeId} {a b:Bool} (hT:P.underlying xT=some .bool) (hx:OV env x (.bool a)) (hy:OV env y (.bool b)):
  LO P β env L ⟨d,.binOp .eql xT x y yT,ty,pos,aft,g⟩ (.bool (decide (a=b))):=
 .ee fun ac w h hw=>⟨w,by
  have key:∀dd,(gP (dd+1) xT (.bool a) (.bool b)).run P w= .ok (a==b) w:=fun dd=>by simp [gP,run_underlying hT]
  have e:(Op.equal xT (.bool a) (.bool b)).run P w= .ok (a==b) w:=key 9999
  simp [execOp,h x (by simp [az]) _ hx,h y (by simp [az]) _ hy,eqGuard,binOp,e,bw]
  cases a<;>cases b<;>rfl,hw⟩
section
variable {K:Value→List cq→Prop} {dd:Option Nat}
theorem HO.range {T:Nat} {x:Operand} {s:ByteArray} (hT:P.underlying T=some .string) (hx:ev env x=some (.string s)) (k:∀b,K (.pointer (some ⟨b,0,none⟩)) (de b (.stringIter s 0)::L)):HO P β env L ⟨dd,.range T x,ty,pos,aft,g⟩ K:=by
 intro a w h hw
 refine .inl ⟨_,w.iter s 0,_,_,?_,.inl rfl,k w.heap.size,hw.alloc _⟩
 simp [execOp,h x (by simp [az]) _ hx,run_range_string w T s hT]
theorem HO.aa3 (i:Nat) (LF:cq→List cq) {x:Operand} {s:ByteArray} {b p:Nat} (hx:ev env x=some (.pointer (some ⟨b,0,none⟩))) (hi:L[i]? =some (de b (.stringIter s p))) (hL:∀R:cq,L.set i R=LF R) (hp:p<s.size)
  (k:K (.tuple #[.bool true,.int .i64 p,.int .i32 (l5 s p).1]) (LF (de b (.stringIter s (p+(l5 s p).2))))):HO P β env L ⟨dd,.next x true,ty,pos,aft,g⟩ K:=by
 intro a w h hw
 have hb:w.heap[b]? =some (.stringIter s p):=hw.inv i _ hi
 refine .inl ⟨_,w.iterAt b s (p+(l5 s p).2),_,_,?_,.inl rfl,k,?_⟩
 ·have:=Go.Lib.run_next_any_at (P:=P) w b s p ty hb hp
  simp [execOp,h x (by simp [az]) _ hx,this]
 ·exact hw.SR hi (hL _).symm (Go.Lib.iterAt_heap w b s p _ hb) (fun j hj=>Go.Lib.iterAt_other w b j s _ hj) (Go.Lib.iterAt_size w b s _) rfl rfl rfl
theorem HO.abS (i:Nat) {x:Operand} {s:ByteArray} {b p:Nat} (hx:ev env x=some (.pointer (some ⟨b,0,none⟩))) (hi:L[i]? =some (de b (.stringIter s p))) (hp:¬p<s.size)
  (k:K (.tuple #[.bool false]) L):HO P β env L ⟨dd,.next x true,ty,pos,aft,g⟩ K:=by
 intro a w h hw
 have hb:w.heap[b]? =some (.stringIter s p):=hw.inv i _ hi
 refine .inl ⟨_,w,_,_,?_,.inl rfl,k,hw⟩
 have:=Go.Lib.run_next_end_at (P:=P) w b s p ty hb hp
 simp [execOp,h x (by simp [az]) _ hx,this]
end
end
def xe (p:Nat→Bool) (s:ByteArray):Nat→Nat→Int
 |0,_=> -1
 |f+1,q=>if q<s.size then(if p (l5 s q).1=true then(q:Int) else xe p s f (q+(l5 s q).2)) else-1
theorem Wn {p:Nat→Bool} {s:ByteArray}:∀{f q:Nat},¬q<s.size→xe p s f q= -1
 |0,_,_=>rfl
 |f+1,q,h=>by rw[xe,if_neg h]
theorem CB (s:ByteArray) (q:Nat):1≤(l5 s q).2:=by
 simp only[l5]
 repeat' split
 all_goals simp_all
theorem CW {p:Nat→Bool} {s:ByteArray} (h:∀r,128≤r→p r=true):∀{f q:Nat},s.size≤q+f→(xe p s f q<0↔∀j,q≤j→j<s.size→p (s.data.toList.getD j 0).toNat=false)
 |0,q,hf=>by simp only[xe];exact⟨fun _ j h1 h2=>by omega,fun _=>by decide⟩
 |f+1,q,hf=>by
  rw[xe]
  by_cases hq:q<s.size
  ·rw[if_pos hq]
   have eg:s.data.toList.getD q 0=s[q]'hq:=by
    have hl:q<s.data.toList.length:=by rw[fw];exact hq
    simp only[jw,af hl,dk]
    rfl
   by_cases ha:(s[q]'hq).toNat<128
   ·rw[decode_ascii s q hq ha]
    dsimp only
    by_cases hp:p (s[q]'hq).toNat=true
    ·rw[if_pos hp]
     refine⟨fun k=>by omega,fun k=>?_⟩
     have:=k q (bA _) hq
     rw[eg,hp]at this;cases this
    ·rw[if_neg hp]
     rw[CW h (f:=f) (q:=q+1) (by omega)]
     refine⟨fun k j h1 h2=>?_,fun k j h1 h2=>k j (by omega) h2⟩
     by_cases e:j=q
     ·subst e;rw[eg];simpa using hp
     ·exact k j (by omega) h2
   ·have hd:=decode_high s q hq (by omega)
    rw[if_pos (h _ hd.1)]
    refine⟨fun k=>by omega,fun k=>?_⟩
    have:=k q (bA _) hq
    rw[eg,h _ (by omega)]at this;cases this
  ·rw[if_neg hq]
   exact⟨fun _ j h1 h2=>by omega,fun _=>by decide⟩
end Go.SL
namespace Go.Proofs.YtffbohecdocajaaGreat
open Go.SL Go.Proofs Go.qO
set_option linter.unusedVariables false
theorem ahG:ef ae 272:=⟨_,Tryz.func272,by decide,rfl⟩
theorem amS:ef ae 273:=⟨_,Tryz.func273,by decide,rfl⟩
theorem am2:ef ae 239:=⟨_,Tryz.func239,by decide,rfl⟩
theorem ak4:ef ae 193:=⟨_,Tryz.func193,by decide,rfl⟩
theorem alf:ef ae 192:=⟨_,Tryz.func192,by decide,rfl⟩
theorem alO:ef ae 271:=⟨_,Tryz.func271,by decide,rfl⟩
theorem alq:ef ae 238:=⟨_,Tryz.func238,by decide,rfl⟩
theorem kQ {α:Type} {l:List α} {d:α} {j:Nat} (hj:j<l.length):l.getD j d∈l:=by
 rw[av,af hj];exact List.getElem_mem hj
def Zn:ByteArray:=⟨#[97,98,99,100,101,102,103,104,105,106,107,108,109,110,111,112,113,114,115,116,117,118,119,120,121,122,48,49,50,51,52,53,54,55,56,57,95]⟩
def CI (r:Nat):Bool:=(decide (97≤r)&&decide (r≤122))||(decide (48≤r)&&decide (r≤57))||decide (r=95)
def pN (r:Nat):Bool:= !CI r
theorem PX (r:Nat) (h:128≤r):pN r=true:=by unfold pN CI;simp;omega
theorem R7:∀b∈Zn.data.toList,b.toNat<128:=by decide
theorem Z1:∀n:Fin 128,decide (0≤sA Zn.data.toList n.val.toUInt8)=CI n.val:=by decide+kernel
def qi (s:ByteArray) (r:Int):Int:=if r<128 then sA s.data.toList r.toNat.toUInt8 else-1
theorem Wh (r:Nat):decide (0≤qi Zn (r:Int))=CI r:=by
 unfold qi
 by_cases h:r<128
 ·rw[if_pos (by omega)]
  exact Z1 ⟨r,h⟩
 ·rw[if_neg (by omega)]
  have:=PX r (by omega)
  unfold pN at this
  simp at this
  rw[this];rfl
theorem aiF {r:Int} (h0:0≤r) (h1:r<128):IntKind.u8.wrap r=r:=by
 have e:r%256=r:=by omega
 unfold IntKind.wrap
 simp [IntKind.bits,IntKind.signed,e]
theorem St.of_eq {w w':World} (h:w'=w):St (bs w) [] w':=by subst h;exact St.refl _
theorem ajg (c:UInt8):((c.toNat:Nat):Int).toNat.toUInt8=c:=by simp
theorem aiT {r:Int} (hv:nG r=true) (h:128≤r):2≤(jC r).size∧(jC r).size≤4∧128≤((jC r).data.toList.getD ((jC r).size-1) 0).toNat:=by
 have hv2:Utf8.valid r=true:=by rw[validRune_eq];exact hv
 obtain⟨h1,h2,h3⟩:=encode_facts r hv2 h
 refine⟨h1,h2,?_⟩
 have hl:(jC r).size-1<(jC r).data.toList.length:=by
  rw[fw];exact(show(jC r).size-1<(jC r).size by omega)
 have:=h3 (by omega)
 simp only[jw,af hl,dk]
 exact this
theorem Zo {s:ByteArray} (hs:∀b∈s.data.toList,b.toNat<128) (j:Nat):(s.data.toList.getD j 0).toNat<128:=by
 rcases Nat.lt_or_ge j s.data.toList.length with h|h
 ·exact hs _ (kQ h)
 ·rw[av,aH h];decide
theorem Yv {s:ByteArray} {a e:Nat} {c:UInt8} (hs:∀b∈s.data.toList,b.toNat<128) (hc:128≤c.toNat):sA (s.extract a e).data.toList ((c.toNat:Nat):Int).toNat.toUInt8= -1:=by
 rw[ajg, ←Lib.firstIdx_eq];exact firstIdx_ascii s a e c hs hc
theorem dec_lt {s:ByteArray} (hs:∀b∈s.data.toList,b.toNat<128) {q:Nat} (hq:q<s.size):(l5 s q).1<128:=by
 have h:(s[q]'hq).toNat<128:=hs _ (Array.getElem_mem_toList (xs:=s.data) hq)
 rw[decode_ascii s q hq h];exact h
theorem Ie (r:Int) (w:World):
 Calls ae 273 #[.int .i32 r] w fun e w'=>e= .returned (.bool (nG r))∧St (bs w) [] w':=by
 refine enter (vs:=[_]) (env:=[(0,_)]) Tryz.func273 rfl rfl rfl rfl ?_
 refine VC.q (VO.a rfl<|VO.n<|ak<|aG<|VC.q (VO.m rfl<|ah (iI (.r rfl) (.r rfl)) rfl<|VO.m rfl<|VO.gt rfl (fun hg=>bJ (.r rfl))<|VO.gt rfl (fun hg=>LO.lt (.g hg rfl) (.r rfl))<|ah (dJ (.r rfl) rfl rfl (.r rfl)) rfl<|VO.a rfl<|aI ?_))
 refine ag<|ay rfl (fun h1=>?_) (fun h1=>?_)
 ·
  refine VC.q (VO.a rfl<|VO.n<|aP (cI (a8 (VE.s rfl rfl (fun w hw=>?_)))))
  exact⟨by simp only[gF,nG];first |rw[decide_eq_true (show(0≤r∧r<0xD800)∨(0xDFFF<r∧r≤0x10FFFF) by omega)]|rw[decide_eq_false (show ¬((0≤r∧r<0xD800)∨(0xDFFF<r∧r≤0x10FFFF)) by omega)],hw.nil⟩
 ·
  refine VC.q (VO.m rfl<|VO.t rfl<|VO.m rfl<|VO.gt rfl (fun hg=>bJ (.r rfl))<|VO.gt rfl (fun hg=>iI (.g hg rfl) (.r rfl))<|ah (dJ (.r rfl) rfl rfl (.r rfl)) rfl<|VO.a rfl<|VO.n<|ay rfl (fun h2=>?_) (fun h2=>?_))
  ·
   refine VC.q (VO.a rfl<|VO.n<|aP (cI (a8 (VE.s rfl rfl (fun w hw=>?_)))))
   exact⟨by simp only[gF,nG];first |rw[decide_eq_true (show(0≤r∧r<0xD800)∨(0xDFFF<r∧r≤0x10FFFF) by omega)]|rw[decide_eq_false (show ¬((0≤r∧r<0xD800)∨(0xDFFF<r∧r≤0x10FFFF)) by omega)],hw.nil⟩
  ·
   refine aC (bB (ag<|VC.q (VO.a rfl<|VO.n<|aP (VE.s rfl rfl (fun w hw=>?_)))))
   exact⟨by simp only[gF,nG];first |rw[decide_eq_true (show(0≤r∧r<0xD800)∨(0xDFFF<r∧r≤0x10FFFF) by omega)]|rw[decide_eq_false (show ¬((0≤r∧r<0xD800)∨(0xDFFF<r∧r≤0x10FFFF)) by omega)],hw.nil⟩
theorem Im (s:ByteArray) (r:Int) (w:World) (h0:0≤r) (hs:∀b∈s.data.toList,b.toNat<128) (h4:4≤s.size) (h5:s.size<100000):
 Calls ae 239 #[.string s,.int .i32 r] w fun e w'=>e= .returned (.int .i64 (qi s r))∧St (bs w) [] w':=by
 refine enter (vs:=[_,_]) (env:=[(0,_),(1,_)]) Tryz.func239 rfl rfl rfl rfl ?_
 refine VC.q (VO.a rfl<|VO.n<|aG<|VC.q (VO.m rfl<|ah (iI (.r rfl) (.r rfl)) rfl<|VO.m rfl<|VO.gt rfl (fun hg=>bJ (.r rfl))<|VO.gt rfl (fun hg=>LO.lt (.g hg rfl) (.r rfl))<|ah (dJ (.r rfl) rfl rfl (.r rfl)) rfl<|VO.a rfl<|VO.n ?_))
 refine ay rfl (fun h160=>?_) (fun h160=>?_)
 ·
  refine VC.q (VO.m rfl<|VO.m rfl<|ah (LO.cv ⟨_,AO⟩ Tryz.underlying5 (.r rfl) (aiF (by omega) (by omega))) rfl<|ah (bD (xs:=[_,_]) (vs:=[_,_]) ahG ⟨(.r rfl),(.r rfl),trivial⟩ (fun w _=>(uF s r w).mono fun e w' q=>⟨q.1,St.of_eq q.2⟩)) rfl<|VO.a rfl<|VO.n<|aP (cI (VE.s rfl rfl (fun w hw=>?_))))
  first |exact⟨by simp only[gF,qi];rw[if_pos (by omega)],hw.nil⟩|exact⟨by simp only[gF,qi];rw[if_neg (by omega)],hw.nil⟩
 ·
  refine VC.q (VO.m rfl<|ah (fN (.r rfl) (.r rfl)) rfl<|VO.a rfl<|VO.n<|ay rfl (fun h171=>?_) (fun h171=>?_))
  ·
   refine ak<|VC.q (VO.m rfl<|aD rfl<|HO.range eS rfl fun b1=>VO.n<|aG<|bY (α:=Nat) 1 (fun gx=>[]) [(175,_)] (fun gx=>[de b1 (.stringIter s gx)]) (fun gx=>True) (fun gx=>s.size-gx) 0 (by exact trivial) (.cons rfl .nil) (fun _ h=>h) ?_)
   rintro q _
   refine ak ?_
   by_cases hps:q<s.size
   ·
    refine aF (aD rfl<|HO.aa3 0 (fun R=>[R]) rfl rfl (fun _=>rfl) hps<|aD rfl<|aO (bN (.r rfl) rfl)<|VO.n<|ak<|ay rfl (fun h177=>?_) (fun h177=>?_))
    ·
     refine aC (ag<|aG<|VC.q (ah (bN (.r rfl) rfl) rfl<|ah (bN (.r rfl) rfl) rfl<|VO.a rfl<|VO.a rfl<|VO.n<|ak ?_))
     have hdc:=dec_lt hs hps
     refine aF (VO.m rfl<|ah (fN (.r rfl) (.r rfl)) rfl<|VO.n<|ay rfl (fun h181=>?_) (fun h181=>?_))
     · (exfalso;omega)
     ·
      refine aC (bB<|bn fun a w ha hw=>⟨q+(l5 s q).2,trivial,(by have:=CB s q;omega),ha.sub (.cons rfl .nil),hw⟩)
    · (exfalso;exact h177 rfl)
   ·
    refine aF (aD rfl<|HO.abS 0 rfl rfl hps<|aD rfl<|aO (bN (.r rfl) rfl)<|VO.n<|ak<|ay rfl (fun h177=>?_) (fun h177=>?_))
    · (exfalso;cases h177)
    ·
     refine ca (aL (aL (cD (ag<|VC.q (VO.a rfl<|VO.n<|aP (cI (VE.s rfl rfl (fun w hw=>?_))))))))
     first |exact⟨by simp only[gF,qi];rw[if_pos (by omega)],hw.nil⟩|exact⟨by simp only[gF,qi];rw[if_neg (by omega)],hw.nil⟩
  ·
   refine VC.q (VO.m rfl<|ah (bD (xs:=[_]) (vs:=[_]) amS ⟨(.r rfl),trivial⟩ (fun w _=>Ie _ w)) rfl<|ah (LO.not (.r rfl)) rfl<|VO.a rfl<|VO.n<|ay rfl (fun h183=>?_) (fun h183=>?_))
   ·
    refine VC.q (VO.a rfl<|VO.n<|aP (cI (VE.s rfl rfl (fun w hw=>?_))))
    first |exact⟨by simp only[gF,qi];rw[if_pos (by omega)],hw.nil⟩|exact⟨by simp only[gF,qi];rw[if_neg (by omega)],hw.nil⟩
   ·
    have hv:nG r=true:=by simpa using h183
    obtain⟨e1,e2,e3⟩:=aiT hv (by omega)
    have b1:=Zo hs ((jC r).size-1)
    refine VC.scope<|VC.q (VO.m rfl<|ah (LO.cvS ⟨_,AO⟩ eS (.r rfl)) rfl<|VO.a rfl<|VO.n<|VC.q (VO.m rfl<|ah (LO.acS eS (.r rfl) rfl) rfl<|ah (dv (.r rfl) (.r rfl) (wi (by omega) (by omega))) rfl<|VO.a rfl<|VO.n ?_))
    refine VC.q (VO.m rfl<|VO.a rfl<|VO.n<|VC.q (VO.a rfl<|VO.n<|ak ?_))
    refine aG<|bY (α:=Nat) 0 (fun gx=>[(4,.int .i64 0),(9,.int .i64 (((jC r).size:Int)-1))]) [(0,_),(7,_),(8,_)] (fun gx=>[]) (fun gx=>True) (fun gx=>gx) 0 (by exact trivial) (.c4 rfl rfl rfl rfl (.cons rfl .nil)) (fun _ h=>h) ?_
    rintro u _
    refine ak<|VC.q (VO.m rfl<|VO.m rfl<|ah (LO.acS eS (.r rfl) rfl) rfl<|VO.t rfl<|VO.n<|ay rfl (fun h26=>?_) (fun h26=>?_))
    ·
     refine aC (ag<|aG<|VC.scope<|ak<|ak<|eH mixed (LL.m rfl<|LL.m rfl<|aV (LO.ixS (j:=((jC r).size-1)) eS (.r rfl) (.r rfl) (by omega) (by omega)) rfl<|LL.m rfl<|LL.m rfl<|aV (LO.ixS (j:=((jC r).size-1)) eS (.r rfl) (.r rfl) (by omega) (by omega)) rfl<|aV (LO.ne (.r rfl) (.r rfl)) rfl<|LL.nil) (by kernel_rfl)<|ag ?_)
     refine ay rfl (fun h33=>?_) (fun h33=>?_)
     ·
      refine ak<|eH mixed (LL.m rfl<|LL.m rfl<|aV (LO.add (.r rfl) (.r rfl) (wi (by omega) (by omega))) rfl<|aV (LO.slS eS (.r rfl) (.r rfl) (by omega) (by omega)) rfl<|LL.m rfl<|LL.m rfl<|aV (LO.ixS (j:=((jC r).size-1)) eS (.r rfl) (.r rfl) (by omega) (by omega)) rfl<|aV (bD (xs:=[_,_]) (vs:=[_,_]) ahG ⟨(.r rfl),(.r rfl),trivial⟩ (fun w _=>(uF _ _ w).mono fun e w' q=>⟨q.1,St.of_eq q.2⟩)) rfl<|aV (LO.as (.r rfl)) rfl<|LL.nil) (by kernel_rfl)<|ag<|ak<|VC.q (VO.m rfl<|VO.t rfl<|VO.n ?_)
      refine ay rfl (fun h43=>?_) (fun h43=>?_)
      ·
       refine VC.q (VO.a rfl<|VO.n<|aP (a8 (a8 (VE.scR (cI (a8 (cI (a8 (VE.scR (cI (VE.s rfl rfl (fun w hw=>?_))))))))))))
       first |exact⟨by simp only[gF,qi];rw[if_pos (by omega)],hw.nil⟩|exact⟨by simp only[gF,qi];rw[if_neg (by omega)],hw.nil⟩
      · (exfalso;(rw[Yv hs e3]at h43;omega))
     · (exfalso;omega)
    · (exfalso;omega)
theorem Cp (s:ByteArray) (r:Int) (w:World) (h0:0≤r) (hs:∀b∈s.data.toList,b.toNat<128) (h4:4≤s.size) (h5:s.size<100000):
 Calls ae 193 #[.string s,.int .i32 r] w fun e w'=>e= .returned (.bool (decide (0≤qi s r)))∧St (bs w) [] w':=by
 refine enter (vs:=[_,_]) (env:=[(0,_),(1,_)]) Tryz.func193 rfl rfl rfl rfl ?_
 refine VC.q (VO.a rfl<|VO.n<|VC.q (VO.m rfl<|VO.m rfl<|ah (bD (xs:=[_,_]) (vs:=[_,_]) am2 ⟨(.r rfl),(.r rfl),trivial⟩ (fun w _=>Im s r w h0 hs h4 h5)) rfl<|ah (LO.ge (.r rfl) (.r rfl)) rfl<|VO.a rfl<|VO.n<|aP (VE.s rfl rfl (fun w hw=>?_))))
 exact⟨rfl,hw.nil⟩
theorem MY (r:Nat) (w:World):
 Calls ae 192 #[.int .i32 (r:Int)] w fun e w'=>e= .returned (.bool (pN r))∧St (bs w) [] w':=by
 refine enter (vs:=[_]) (env:=[(0,_)]) Tryz.func192 rfl rfl rfl rfl ?_
 refine VC.q (VO.a rfl<|VO.n<|VC.q (VO.m rfl<|ah (bD (xs:=[_,_]) (vs:=[_,_]) ak4 ⟨(.r rfl),(.r rfl),trivial⟩ (fun w _=>Cp Zn (r:Int) w (by omega) R7 (by decide) (by decide))) rfl<|ah (LO.not (.r rfl)) rfl<|VO.a rfl<|VO.n<|aP (VE.s rfl rfl (fun w hw=>?_))))
 exact⟨by simp only[gF];rw[Wh];rfl,hw.nil⟩
theorem Ih (s:ByteArray) (w:World):
 Calls ae 271 #[.string s,.func (.func 192) #[] #[],.bool true] w fun e w'=>e= .returned (.int .i64 (xe pN s s.size 0))∧St (bs w) [] w':=by
 refine enter (vs:=[_,_,_]) (env:=[(0,_),(1,_),(2,_)]) Tryz.func271 rfl rfl rfl rfl ?_
 refine VC.q (VO.a rfl<|VO.n<|ak<|VC.q (VO.m rfl<|aD rfl<|HO.range eS rfl fun b1=>VO.n ?_))
 refine aG<|bY (α:=Nat×Nat) 1 (fun gx=>[]) [(1,_),(2,_),(10,_)] (fun gx=>[de b1 (.stringIter s gx.1)]) (fun gx=>xe pN s gx.2 gx.1=xe pN s s.size 0∧s.size≤gx.1+gx.2) (fun gx=>gx.2) (0,s.size) (by exact⟨rfl,by omega⟩) (.cons rfl (.cons rfl (.cons rfl .nil))) (fun _ h=>h) ?_
 rintro ⟨q,f⟩ ⟨hI,hf⟩
 show VC _ _ _ _ _ ([]++_) ([de b1 (.stringIter s q)]++_) _ _
 dsimp only at hI hf
 refine ak ?_
 by_cases hps:q<s.size
 ·
  obtain⟨f,rfl⟩:∃k,f=k+1:=⟨f-1,by omega⟩
  rw[xe,if_pos hps]at hI
  refine aF (aD rfl<|HO.aa3 0 (fun R=>[R]) rfl rfl (fun _=>rfl) hps<|aD rfl<|aO (bN (.r rfl) rfl)<|VO.n<|ak<|ay rfl (fun h12=>?_) (fun h12=>?_))
  ·
   refine aC (ag<|aG<|VC.q (ah (bN (.r rfl) rfl) rfl<|ah (bN (.r rfl) rfl) rfl<|VO.a rfl<|VO.a rfl<|VO.n<|VC.q (VO.m rfl<|VO.m rfl<|ah (LO.wN (first:=[]) (cap:=[]) (xs:=[_]) (vs:=[_]) (.r rfl) alf ⟨(.r rfl),trivial⟩ (fun w _=>MY _ w)) rfl<|VO.m rfl<|ah (LO.eqB Tryz.underlying4 (.r rfl) (.r rfl)) rfl<|aI ?_)))
   refine ag<|ay rfl (fun h19=>?_) (fun h19=>?_)
   ·
    rw[if_pos h19]at hI
    refine VC.q (VO.m rfl<|VO.a rfl<|VO.n<|aP (cI (a8 (cI (a8 (VE.s rfl rfl (fun w hw=>?_)))))))
    exact⟨by simp only[gF];rw[←hI]<;>rfl,hw.nil⟩
   ·
    rw[if_neg h19]at hI
    refine aC (bB<|bn fun a w ha hw=>⟨(q+(l5 s q).2,f),⟨hI,by have:=CB s q;dsimp only;omega⟩,(by dsimp only;omega),ha.sub (.cons rfl (.cons rfl (.cons rfl .nil))),hw⟩)
  · (exfalso;exact h12 rfl)
 ·
  rw[Wn hps]at hI
  refine aF (aD rfl<|HO.abS 0 rfl rfl hps<|aD rfl<|aO (bN (.r rfl) rfl)<|VO.n<|ak<|ay rfl (fun h12=>?_) (fun h12=>?_))
  · (exfalso;cases h12)
  ·
   refine ca (aL (aL (cD (ag<|VC.q (VO.a rfl<|VO.n<|aP (VE.s rfl rfl (fun w hw=>?_)))))))
   exact⟨by simp only[gF];rw[←hI]<;>rfl,hw.nil⟩
theorem Is (s:ByteArray) (w:World):
 Calls ae 238 #[.string s,.func (.func 192) #[] #[]] w fun e w'=>e= .returned (.int .i64 (xe pN s s.size 0))∧St (bs w) [] w':=by
 refine enter (vs:=[_,_]) (env:=[(0,_),(1,_)]) Tryz.func238 rfl rfl rfl rfl ?_
 refine VC.q (VO.a rfl<|VO.n<|VC.q (VO.m rfl<|VO.m rfl<|ah (bD (xs:=[_,_,_]) (vs:=[_,_,_]) alO ⟨(.r rfl),(.r rfl),(.r rfl),trivial⟩ (fun w _=>Ih _ w)) rfl<|VO.a rfl<|VO.n<|aP (VE.s rfl rfl (fun w hw=>?_))))
 exact⟨rfl,hw.nil⟩
theorem DG (s:ByteArray) (w:World):
 Calls ae 191 #[.string s,.func (.func 192) #[] #[]] w fun e w'=>e= .returned (.bool (decide (0≤xe pN s s.size 0)))∧St (bs w) [] w':=by
 refine enter (vs:=[_,_]) (env:=[(0,_),(1,_)]) Tryz.func191 rfl rfl rfl rfl ?_
 refine VC.q (VO.a rfl<|VO.n<|VC.q (VO.m rfl<|VO.m rfl<|ah (bD (xs:=[_,_]) (vs:=[_,_]) alq ⟨(.r rfl),(.r rfl),trivial⟩ (fun w _=>Is _ w)) rfl<|ah (LO.ge (.r rfl) (.r rfl)) rfl<|VO.a rfl<|VO.n<|aP (VE.s rfl rfl (fun w hw=>?_))))
 exact⟨rfl,hw.nil⟩
theorem ang:ef ae 191:=⟨_,Tryz.func191,by decide,rfl⟩
def xw (s:ByteArray) (j:Nat):Nat:=(s.data.toList.getD j 0).toNat
def A8 (s:ByteArray):Bool:=((((decide (1≤(s.size:Int))&&decide ((s.size:Int)≤12))&&decide (97≤(xw s 0:Int)))&&decide ((xw s 0:Int)≤122))&&(br s.size).all fun j=>CI (xw s j))
theorem RN {s:ByteArray}:(!decide (0≤xe pN s s.size 0))=(br s.size).all fun j=>CI (xw s j):=by
 have h:=CW (p:=pN) (s:=s) (fun r hr=>PX r hr) (f:=s.size) (q:=0) (by omega)
 rw[Bool.eq_iff_iff,bF]
 constructor
 ·intro q j hj
  have h1:xe pN s s.size 0<0:=by simpa using q
  have:=h.1 h1 j (bG _) (bf.1 hj)
  unfold pN at this
  cases k:CI (xw s j) with
  |true=>rfl
  |false=>unfold xw at k;rw[k]at this;cases this
 ·intro q
  have:xe pN s s.size 0<0:=h.2 fun j _ hj=>by
   have:=q j (bf.2 hj)
   unfold xw at this
   unfold pN;rw[this];rfl
  simpa using this
theorem LO.neE {P:Program} {β:Bs} {env:Env} {L:List cq} {d:Option Nat} {ty:TypeId} {pos:String} {aft:Array Edge} {g:Option (Nat×Bool)} {xT yT:Nat} {x y:Operand} {s:ByteArray} (hx:OV env x (.string s)) (hy:OV env y (.string ⟨#[]⟩)):LO P β env L ⟨d,.binOp .neq xT x y yT,ty,pos,aft,g⟩ (.bool (decide (1≤(s.size:Int)))):=by
 have h:=LO.neS (P:=P) (β:=β) (L:=L) (d:=d) (ty:=ty) (pos:=pos) (aft:=aft) (g:=g) (xT:=xT) (yT:=yT) hx hy
 have e:(!(s.toList==(⟨#[]⟩:ByteArray).toList))=decide (1≤(s.size:Int)):=by
  rw[E0,E0]
  have hs:s.data.toList.length=s.size:=fw
  cases q:s.data.toList with
  |nil=>rw[q]at hs;simp at hs;simp [←hs]
  |cons b l=>rw[q]at hs;simp at hs;simp;omega
 rw[e]at h
 exact h
theorem nn {b:Bool} (h:¬¬b=true):b=true:=cL.1 h
theorem ae3 (s:ByteArray) (w:World):
 Calls ae 118 #[.string s] w fun e w'=>e= .returned (.bool (A8 s))∧St (bs w) [] w':=by
 refine enter (vs:=[_]) (env:=[(0,_)]) Tryz.func118 rfl rfl rfl rfl ?_
 refine VC.q (VO.a rfl<|VO.n<|VC.q (VO.m rfl<|ah (LO.neE (.r rfl) (.r rfl)) rfl<|VO.m rfl<|VO.gt rfl (fun hg=>bJ (.r rfl))<|VO.gt rfl (fun hg=>LO.acS eS (.g hg rfl) rfl)<|VO.gt rfl (fun hg=>iI (.g hg rfl) (.r rfl))<|ah (dJ (.r rfl) rfl rfl (.r rfl)) rfl<|VO.m rfl<|VO.gt rfl (fun hg=>bJ (.r rfl))<|VO.gt rfl (fun hg=>LO.ixS (j:=0) eS (.g hg rfl) (.r rfl) rfl (by have q:=Ei.yes inferInstance hg;omega))<|VO.gt rfl (fun hg=>LO.ge (.g hg rfl) (.r rfl))<|ah (dJ (.r rfl) rfl rfl (.r rfl)) rfl<|VO.m rfl<|VO.gt rfl (fun hg=>bJ (.r rfl))<|VO.gt rfl (fun hg=>LO.ixS (j:=0) eS (.g hg rfl) (.r rfl) rfl (by have q:=Ei.yes inferInstance hg;omega))<|VO.gt rfl (fun hg=>iI (.g hg rfl) (.r rfl))<|ah (dJ (.r rfl) rfl rfl (.r rfl)) rfl<|VO.m rfl<|VO.gt rfl (fun hg=>bJ (.r rfl))<|VO.gt rfl (fun hg=>bD (xs:=[_,_]) (vs:=[_,_]) ang ⟨(.g hg rfl),(.r rfl),trivial⟩ (fun w _=>DG _ w))<|VO.gt rfl (fun hg=>LO.not (.g hg rfl))<|ah (dJ (.r rfl) rfl rfl (.r rfl)) rfl<|VO.a rfl<|VO.n<|aP (VE.s rfl rfl (fun w hw=>?_))))
 exact⟨by simp only[gF];rw[RN];rfl,hw.nil⟩
theorem su:bV ae 193 1 1:=⟨_,_,sn,rfl,rfl,0,by kernel_rfl⟩
theorem C73:ef ae 73:=⟨_,Tryz.func73,by decide,rfl⟩
structure RE where
 name:ByteArray
 pix:List Int
instance:Inhabited RE:=⟨⟨ra,[]⟩⟩
structure RG where
 r:RE
 px:Option Addr
 cx:Nat
def RG.cells (x:RG):List Value:=[.string x.r.name,.slice x.px x.r.pix.length x.cx]
structure Aq (w:World) (p:Option Addr) (l:List RG):Prop where
 rows:Go.SL.Rows w 2 p (l.map RG.cells)
 ok:∀x,x∈l→Ints w x.px x.r.pix∧x.r.pix.length<1000000000000
theorem Aq.sm {w:World} {p:Option Addr} {l:List RG} (h:Aq w p l):nu p l.length:=Go.SL.Rows.some h.rows (by simp)
theorem Aq.keep {w0 w:World} {L:List cq} {p:Option Addr} {l:List RG} (h:Aq w0 p l) (hw:St (bs w0) L w):Aq w p l:=⟨h.rows.keep w hw,fun x hx=>⟨(h.ok x hx).1.keep w hw,(h.ok x hx).2⟩⟩
theorem Aq.at {w0:World} {p:Option Addr} {l:List RG} (h:Aq w0 p l) {L:List cq} {j:Nat} {x:RG} (hx:l[j]? =some x):∀w,St (bs w0) L w→fk w ⟨pb p,po p+j*2,none⟩ x.cells:=
 fun w hw=>(h.rows.keep w hw).cells j _ (by rw[aw,hx];rfl)
structure Sp where
 g:cU
 fI:List RE
 lead:Int
 step:Int
 hold:Int
abbrev Dw (g:cU) (p:Option Addr) (n c:Nat) (a b d:Int):Value:=.agg #[.int .i64 g.x,.int .i64 g.y,.int .i64 g.size,.int .i64 g.wide,.int .i64 g.high,.slice p n c,.int .i64 a,.int .i64 b,.int .i64 d]
def ot (g:cU) (l:List Int):Int:=if l=[]then 18 else gy (lO g l) l.length
def EM (l:List RE) (i:Nat):ByteArray→Bool:=fun s=>(l.take i).any fun r=>decide (s=r.name)
def u9 (g:cU) (l:List RE) (i:Nat):Int:=
 if ¬A8 (l.getD i default).name=true then 10 else if EM l i (l.getD i default).name=true then 5 else ot g (l.getD i default).pix
def iZ (s:Sp):Prop:=(0≤s.lead∧s.lead≤7200)∧(30≤s.step∧s.step≤3600)∧(0≤s.hold∧s.hold≤86400)
instance (s:Sp):Decidable (iZ s):=by unfold iZ;exact inferInstance
def j0 (s:Sp):Int:=
 if ¬cF s.g then 3 else if s.fI=[]then 18 else if 32<s.fI.length then 9
 else if gy (u9 s.g s.fI) s.fI.length≠0 then gy (u9 s.g s.fI) s.fI.length else if ¬iZ s then 3 else 0
theorem PE {g:cU} {l:List Int} (h:(l.length:Int)=0):18=ot g l:=(if_pos (gY.1 (by omega))).symm
theorem abb {g:cU} {l:List Int} (h:¬(l.length:Int)=0):ot g l=gy (lO g l) l.length:=if_neg (fun q=>h (by rw[q];rfl))
theorem AZ {g:cU} {l:List Int} {j:Nat} {e:Int} (h:¬(l.length:Int)=0) (hz:∀k,k<j→lO g l k=0) (hj:(j:Int)<l.length) (he:lO g l j=e) (h0:e≠0):e=ot g l:=by
 rw[abb h,mT hz (by omega) (n:=l.length) (by omega),he]
theorem pE3 {g:cU} {l:List Int} {j:Nat} (h:¬(l.length:Int)=0) (hz:∀k,k<j→lO g l k=0) (hj:¬(j:Int)<l.length):0=ot g l:=by
 rw[abb h,iw (fun k hk=>hz k (by omega))]
theorem Tl {l:List RE} {j:Nat} (h:j<l.length):EM l (j+1)=BE (EM l j) (l.getD j default).name:=by
 funext s
 unfold EM BE
 rw[cQ,af h,av,af h,List.any_append]
 simp only[Option.toList_some,List.any_cons,List.any_nil,Bool.or_false,dk]
 rw[Bool.or_comm]
theorem TR (l:List RE):EM l 0=fun _=>false:=by funext s;simp [EM]
section
variable {s:Sp}
theorem sE1 (h:¬lQ s.g=0):lQ s.g=j0 s:=by
 unfold j0
 by_cases q:cF s.g
 ·exact absurd (if_pos q) h
 ·rw[if_pos q];exact if_neg q
theorem sE2 (hg:cF s.g) (h:(s.fI.length:Int)=0):18=j0 s:=by
 unfold j0
 rw[if_neg (fun q=>q hg),if_pos (gY.1 (by omega))]
theorem sE3 (hg:cF s.g) (h:¬(s.fI.length:Int)=0) (k:(32:Int)<s.fI.length):9=j0 s:=by
 unfold j0
 rw[if_neg (fun q=>q hg),if_neg (fun q=>h (by rw[q];rfl)),if_pos (by omega)]
theorem sE0 (hg:cF s.g) (h:¬(s.fI.length:Int)=0) (k:¬(32:Int)<s.fI.length):j0 s=if gy (u9 s.g s.fI) s.fI.length≠0 then gy (u9 s.g s.fI) s.fI.length else if ¬iZ s then 3 else 0:=by
 unfold j0
 rw[if_neg (fun q=>q hg),if_neg (fun q=>h (by rw[q];rfl)),if_neg (by omega)]
theorem Cd (hg:cF s.g) (h:¬(s.fI.length:Int)=0) (k:¬(32:Int)<s.fI.length) {j:Nat} {e:Int} (hz:∀k,k<j→u9 s.g s.fI k=0) (hj:(j:Int)<s.fI.length) (he:u9 s.g s.fI j=e) (h0:e≠0):e=j0 s:=by
 rw[sE0 hg h k,mT hz (by omega) (n:=s.fI.length) (by omega),he,if_pos h0]
theorem sE5 (hg:cF s.g) (h:¬(s.fI.length:Int)=0) (k:¬(32:Int)<s.fI.length) {j:Nat} (hz:∀k,k<j→u9 s.g s.fI k=0) (hj:¬(j:Int)<s.fI.length) (hr:¬iZ s):3=j0 s:=by
 rw[sE0 hg h k,iw (fun k hk=>hz k (by omega)),if_neg (by omega),if_pos hr]
theorem sE6 (hg:cF s.g) (h:¬(s.fI.length:Int)=0) (k:¬(32:Int)<s.fI.length) {j:Nat} (hz:∀k,k<j→u9 s.g s.fI k=0) (hj:¬(j:Int)<s.fI.length) (hr:iZ s):0=j0 s:=by
 rw[sE0 hg h k,iw (fun k hk=>hz k (by omega)),if_neg (by omega),if_neg (fun q=>q hr)]
theorem A4 {g:cU} {l:List RE} {j:Nat} (h:¬A8 (l.getD j default).name=true):u9 g l j=10:=if_pos h
theorem A7 {g:cU} {l:List RE} {j:Nat} (h:A8 (l.getD j default).name=true) (k:EM l j (l.getD j default).name=true):u9 g l j=5:=by unfold u9;rw[if_neg (fun q=>q h),if_pos k]
theorem x5 {g:cU} {l:List RE} {j:Nat} (h:A8 (l.getD j default).name=true) (k:¬EM l j (l.getD j default).name=true):u9 g l j=ot g (l.getD j default).pix:=by unfold u9;rw[if_neg (fun q=>q h),if_neg k]
end
theorem M1 {l:List RG} {j:Nat} {x:RG} (hx:l[j]? =some x):(l.map RG.r).getD j default=x.r:=by
 rw[av,aw,hx];rfl
theorem og (n lo hi:Int) (w:World):
 Calls ae 73 #[.int .i64 n,.int .i64 lo,.int .i64 hi] w fun e w'=>e= .returned (.bool (decide (lo≤n)&&decide (n≤hi)))∧St (bs w) [] w':=by
 refine enter (vs:=[_,_,_]) (env:=[(0,_),(1,_),(2,_)]) Tryz.func73 rfl rfl rfl rfl ?_
 refine VC.q (VO.a rfl<|VO.n<|VC.q (VO.m rfl<|VO.m rfl<|ah (iI (.r rfl) (.r rfl)) rfl<|VO.m rfl<|VO.gt rfl (fun hg=>bJ (.r rfl))<|VO.gt rfl (fun hg=>bJ (.r rfl))<|VO.gt rfl (fun hg=>iI (.g hg rfl) (.g hg rfl))<|ah (dJ (.r rfl) rfl rfl (.r rfl)) rfl<|VO.a rfl<|VO.n<|aP (VE.s rfl rfl (fun w hw=>?_))))
 exact⟨rfl,hw.nil⟩
theorem VY (r:RG) (g:cU) (w:World) (hg:cF g) (hl:Ints w r.px r.r.pix) (hn:r.r.pix.length<1000000000000):
 Calls ae 154 #[.agg #[.string r.r.name,.slice r.px r.r.pix.length r.cx],uk g] w fun e w'=>e= .returned (.int .i64 (ot g r.r.pix))∧St (bs w) [] w':=by
 have har:=rP hg
 refine enter (vs:=[_,_]) (env:=[(0,_),(1,_)]) Tryz.func154 rfl rfl rfl rfl ?_
 refine VC.q (aD rfl<|cf (C:=#[_,_]) rfl rfl fun b1=>aD rfl<|cf (C:=#[_,_,_,_,_]) rfl rfl fun b2=>VO.a rfl<|VO.n<|ak<|VC.q (VO.f (r:=1) su rfl<|VO.c 1 ij rfl rfl ⟨_,rfl⟩ rfl<|ah (bW ei (.r rfl) rfl) rfl<|ah (fN (.r rfl) (.r rfl)) rfl<|VO.n ?_))
 refine ay rfl (fun h1=>?_) (fun h1=>?_)
 ·
  refine VC.q (VO.a rfl<|VO.n<|aP (a8 (VE.s rfl rfl (fun w hw=>?_))))
  refine⟨?_,hw.nil⟩
  simp only[gF]
  congr 2
  first |exact PE h1|exact AZ h1 hz h2 (by unfold lO;rw[if_pos h3]) (by decide)|exact AZ h1 hz h2 (by unfold lO;rw[if_neg h3,if_pos (by omega)]) (by decide)|exact pE3 h1 hz h2
 ·
  refine aC (ag<|ak<|VC.q (VO.f (r:=1) su rfl<|VO.c 1 ij rfl rfl ⟨_,rfl⟩ rfl<|ah (bW ei (.r rfl) rfl) rfl<|VO.m rfl<|VO.n<|aG<|bY (α:=Nat) 0 (fun gx=>[(14,.int .i64 (gx:Nat))]) [(2,_),(3,_),(12,_),(13,_)] (fun gx=>[]) (fun gx=>gx≤r.r.pix.length∧∀k,k<gx→lO g r.r.pix k=0) (fun gx=>r.r.pix.length-gx) 0 (by exact⟨by omega,fun k hk=>by omega⟩) (.c4 rfl rfl rfl rfl (.cons rfl .nil)) (fun _ h=>h) ?_))
  rintro j ⟨hj,hz⟩
  refine VC.q (VO.t rfl<|VO.n<|ak<|ay rfl (fun h2=>?_) (fun h2=>?_))
  ·
   refine aC (ag<|ak<|aG<|VC.q (VO.m rfl<|ah (cw ei N3 hl.some (.r rfl) (.r rfl) rfl (by omega)) rfl<|ah (aB O3 (.r rfl) (hl.at (j:=j) (by omega))) rfl<|VO.a rfl<|VO.a rfl<|VO.n<|aG ?_))
   refine VC.q (VO.m rfl<|VO.f (r:=3) jD rfl<|VO.c 0 O3 rfl rfl ⟨_,rfl⟩ rfl<|VO.f (r:=4) qH rfl<|VO.c 0 O3 rfl rfl ⟨_,rfl⟩ rfl<|ah (LO.mul (.r rfl) (.r rfl) (wi (by omega) (by omega))) rfl<|ah (dv (.r rfl) (.r rfl) (wi (by omega) (by omega))) rfl<|ah (bD (xs:=[_,_,_]) (vs:=[_,_,_]) C73 ⟨(.r rfl),(.r rfl),(.r rfl),trivial⟩ (fun w _=>og _ _ _ w)) rfl<|ah (LO.not (.r rfl)) rfl<|VO.a rfl<|VO.n<|ay rfl (fun h3=>?_) (fun h3=>?_))
   ·
    refine VC.q (VO.a rfl<|VO.n<|aP (cI (cI (a8 (a8 (cI (a8 (VE.s rfl rfl (fun w hw=>?_)))))))))
    refine⟨?_,hw.nil⟩
    simp only[gF]
    congr 2
    first |exact PE h1|exact AZ h1 hz h2 (by unfold lO;rw[if_pos h3]) (by decide)|exact AZ h1 hz h2 (by unfold lO;rw[if_neg h3,if_pos (by omega)]) (by decide)|exact pE3 h1 hz h2
   ·
    refine VC.q (VO.m rfl<|ah (LO.gt (.r rfl) (.r rfl)) rfl<|VO.m rfl<|VO.gt rfl (fun hg=>bJ (.r rfl))<|VO.gt rfl (fun hg=>aE (r:=1) su (.r rfl) rfl)<|VO.gt rfl (fun hg=>aB ij (.g hg rfl) (ax 1 rfl ⟨_,rfl⟩))<|VO.gt rfl (fun hg=>bJ (.r rfl))<|VO.gt rfl (fun hg=>dv (.g hg rfl) (.r rfl) (wi (by omega) (by omega)))<|VO.gt rfl (fun hg=>cw ei N3 hl.some (.g hg rfl) (.g hg rfl) (by have:=of_decide_eq_true hg;omega) (by omega))<|VO.gt rfl (fun hg=>aB O3 (.g hg rfl) (hl.at (j:=(j-1)) (by omega)))<|VO.gt rfl (fun hg=>iI (.g hg rfl) (.g hg rfl))<|ah (dJ (.r rfl) rfl rfl (.r rfl)) rfl<|VO.a rfl<|VO.n<|ay rfl (fun h4=>?_) (fun h4=>?_))
    ·
     refine VC.q (VO.a rfl<|VO.n<|aP (cI (cI (a8 (a8 (cI (a8 (VE.s rfl rfl (fun w hw=>?_)))))))))
     refine⟨?_,hw.nil⟩
     simp only[gF]
     congr 2
     first |exact PE h1|exact AZ h1 hz h2 (by unfold lO;rw[if_pos h3]) (by decide)|exact AZ h1 hz h2 (by unfold lO;rw[if_neg h3,if_pos (by omega)]) (by decide)|exact pE3 h1 hz h2
    ·
     refine aC (bB (bB (ag<|aF (VO.p rfl rfl (by omega) (by omega) rfl<|VO.m rfl<|aI<|bn fun a w ha hw=>⟨j+1,⟨by omega,q8 hz (Fm h3 h4)⟩,(by omega),ha.sub (.c4 rfl rfl rfl rfl (.cons rfl .nil)),hw⟩))))
  ·
   refine ca (aL (aL (cD (ag<|VC.q (VO.a rfl<|VO.n<|aP (VE.s rfl rfl (fun w hw=>?_)))))))
   refine⟨?_,hw.nil⟩
   simp only[gF]
   congr 2
   first |exact PE h1|exact AZ h1 hz h2 (by unfold lO;rw[if_pos h3]) (by decide)|exact AZ h1 hz h2 (by unfold lO;rw[if_neg h3,if_pos (by omega)]) (by decide)|exact pE3 h1 hz h2
theorem Dd:bV ae 93 0 0:=⟨_,_,pB,rfl,rfl,4,by kernel_rfl⟩
theorem sL:bV ae 93 1 5:=⟨_,_,pB,rfl,rfl,0,by kernel_rfl⟩
theorem Xa:ig ae 89:=⟨⟨_,AQ,rfl⟩,by kernel_rfl⟩
theorem LI:dF ae 89 193:=AQ
theorem Jl:(ae.info? 193).map (·.size)=some 2:=by kernel_rfl
theorem GL:jX ae 193 2:=⟨⟨_,sn,rfl⟩,by kernel_rfl⟩
theorem UT:cj ae 193 (.agg #[.string ra,.slice none 0 0]):=by unfold cj;kernel_rfl
theorem Nv:bV ae 193 0 0:=⟨_,_,sn,rfl,rfl,0,by kernel_rfl⟩
theorem O9:ig ae 9:=⟨⟨_,eS,rfl⟩,by kernel_rfl⟩
theorem amr:ef ae 118:=⟨_,Tryz.func118,by decide,rfl⟩
theorem ahS:C0 ae 370:=⟨9,4,Tryz.underlying370,eS,by unfold cj;kernel_rfl⟩
theorem amU:ef ae 154:=⟨_,Tryz.func154,by decide,rfl⟩
theorem Bd:bV ae 93 2 6:=⟨_,_,pB,rfl,rfl,2,by kernel_rfl⟩
theorem aa6:bV ae 91 0 0:=⟨_,_,s9,rfl,rfl,0,by kernel_rfl⟩
theorem PY:bV ae 91 1 1:=⟨_,_,s9,rfl,rfl,0,by kernel_rfl⟩
theorem ab1:bV ae 91 2 2:=⟨_,_,s9,rfl,rfl,0,by kernel_rfl⟩
theorem Pz (g:cU) (l:List RG) (pl:Option Addr) (cl:Nat) (a b d:Int) (w:World) (hll:l.length<1000000000000) (hl:Aq w pl l):
 Calls ae 70 #[Dw g pl l.length cl a b d] w fun e w'=>e= .returned (.int .i64 (j0 ⟨g,l.map RG.r,a,b,d⟩))∧St (bs w) [] w':=by
 refine enter (vs:=[_]) (env:=[(0,_)]) Tryz.func70 rfl rfl rfl rfl ?_
 refine VC.q (aD rfl<|cf (C:=#[_,_,_,_,_,_,_,_,_]) rfl rfl fun b1=>VO.a rfl<|VO.n<|ak<|VC.q (VO.f (r:=0) Dd rfl<|ah (aM (vs:=[_,_,_,_,_]) vS (.r rfl) (ax 0 rfl ⟨_,rfl⟩) rfl) rfl<|ah (bD (xs:=[_]) (vs:=[_]) C83 ⟨(.r rfl),trivial⟩ (fun w _=>pT g w)) rfl<|VO.a rfl<|VO.n ?_))
 refine VC.q (VO.m rfl<|VO.u rfl<|VO.n<|ay rfl (fun h1=>?_) (fun h1=>?_))
 ·
  refine VC.q (VO.m rfl<|VO.a rfl<|VO.n<|aP (a8 (VE.s rfl rfl (fun w hw=>?_))))
  refine⟨?_,hw.nil⟩
  simp only[gF]
  congr 2
  have hlen:(l.map RG.r).length=l.length:=aq ..
  first |exact sE1 (s:=⟨g,_,a,b,d⟩) h1|exact sE2 (s:=⟨g,_,a,b,d⟩) hgo (by simpa using h2)|exact sE3 (s:=⟨g,_,a,b,d⟩) hgo (by simpa using h2) (by simpa using h3)|exact Cd (s:=⟨g,_,a,b,d⟩) hgo (by simpa using h2) (by simpa using h3) hz (by simpa using h4) (A4 (by rw[hxd];exact h5)) (by decide)|exact Cd (s:=⟨g,_,a,b,d⟩) hgo (by simpa using h2) (by simpa using h3) hz (by simpa using h4) (A7 (by rw[hxd];exact h5') (by rw[hxd];exact h6)) (by decide)|exact Cd (s:=⟨g,_,a,b,d⟩) hgo (by simpa using h2) (by simpa using h3) hz (by simpa using h4) ((x5 (by rw[hxd];exact h5') (by rw[hxd];exact h6)).trans (by rw[hxd])) h7|exact sE5 (s:=⟨g,_,a,b,d⟩) hgo (by simpa using h2) (by simpa using h3) hz (by simpa using h4) (by unfold iZ;dsimp only;omega)|exact sE6 (s:=⟨g,_,a,b,d⟩) hgo (by simpa using h2) (by simpa using h3) hz (by simpa using h4) (by unfold iZ;dsimp only;omega)
 ·
  have hgo:cF g:=we h1
  refine aC (ag<|ak<|aG<|VC.q (VO.f (r:=5) sL rfl<|VO.c 0 Xa rfl rfl ⟨_,rfl⟩ rfl<|ah (bW LI (.r rfl) rfl) rfl<|ah (fN (.r rfl) (.r rfl)) rfl<|VO.a rfl<|VO.n<|ay rfl (fun h2=>?_) (fun h2=>?_)))
  ·
   refine VC.q (VO.a rfl<|VO.n<|aP (cI (a8 (VE.s rfl rfl (fun w hw=>?_)))))
   refine⟨?_,hw.nil⟩
   simp only[gF]
   congr 2
   have hlen:(l.map RG.r).length=l.length:=aq ..
   first |exact sE1 (s:=⟨g,_,a,b,d⟩) h1|exact sE2 (s:=⟨g,_,a,b,d⟩) hgo (by simpa using h2)|exact sE3 (s:=⟨g,_,a,b,d⟩) hgo (by simpa using h2) (by simpa using h3)|exact Cd (s:=⟨g,_,a,b,d⟩) hgo (by simpa using h2) (by simpa using h3) hz (by simpa using h4) (A4 (by rw[hxd];exact h5)) (by decide)|exact Cd (s:=⟨g,_,a,b,d⟩) hgo (by simpa using h2) (by simpa using h3) hz (by simpa using h4) (A7 (by rw[hxd];exact h5') (by rw[hxd];exact h6)) (by decide)|exact Cd (s:=⟨g,_,a,b,d⟩) hgo (by simpa using h2) (by simpa using h3) hz (by simpa using h4) ((x5 (by rw[hxd];exact h5') (by rw[hxd];exact h6)).trans (by rw[hxd])) h7|exact sE5 (s:=⟨g,_,a,b,d⟩) hgo (by simpa using h2) (by simpa using h3) hz (by simpa using h4) (by unfold iZ;dsimp only;omega)|exact sE6 (s:=⟨g,_,a,b,d⟩) hgo (by simpa using h2) (by simpa using h3) hz (by simpa using h4) (by unfold iZ;dsimp only;omega)
  ·
   refine VC.q (VO.f (r:=5) sL rfl<|VO.c 0 Xa rfl rfl ⟨_,rfl⟩ rfl<|ah (bW LI (.r rfl) rfl) rfl<|ah (LO.gt (.r rfl) (.r rfl)) rfl<|VO.a rfl<|VO.n<|ay rfl (fun h3=>?_) (fun h3=>?_))
   ·
    refine VC.q (VO.a rfl<|VO.n<|aP (cI (a8 (VE.s rfl rfl (fun w hw=>?_)))))
    refine⟨?_,hw.nil⟩
    simp only[gF]
    congr 2
    have hlen:(l.map RG.r).length=l.length:=aq ..
    first |exact sE1 (s:=⟨g,_,a,b,d⟩) h1|exact sE2 (s:=⟨g,_,a,b,d⟩) hgo (by simpa using h2)|exact sE3 (s:=⟨g,_,a,b,d⟩) hgo (by simpa using h2) (by simpa using h3)|exact Cd (s:=⟨g,_,a,b,d⟩) hgo (by simpa using h2) (by simpa using h3) hz (by simpa using h4) (A4 (by rw[hxd];exact h5)) (by decide)|exact Cd (s:=⟨g,_,a,b,d⟩) hgo (by simpa using h2) (by simpa using h3) hz (by simpa using h4) (A7 (by rw[hxd];exact h5') (by rw[hxd];exact h6)) (by decide)|exact Cd (s:=⟨g,_,a,b,d⟩) hgo (by simpa using h2) (by simpa using h3) hz (by simpa using h4) ((x5 (by rw[hxd];exact h5') (by rw[hxd];exact h6)).trans (by rw[hxd])) h7|exact sE5 (s:=⟨g,_,a,b,d⟩) hgo (by simpa using h2) (by simpa using h3) hz (by simpa using h4) (by unfold iZ;dsimp only;omega)|exact sE6 (s:=⟨g,_,a,b,d⟩) hgo (by simpa using h2) (by simpa using h3) hz (by simpa using h4) (by unfold iZ;dsimp only;omega)
   ·
    refine aC (bB (ag<|VC.q (aD rfl<|HO.acX fun b2=>aD rfl<|aO (LO.as (.r rfl))<|VO.n<|ak<|VC.q (VO.f (r:=5) sL rfl<|VO.c 1 Xa rfl rfl ⟨_,rfl⟩ rfl<|ah (bW LI (.r rfl) rfl) rfl<|VO.m rfl<|aI ?_))))
    refine ag<|aG<|bY (α:=Nat) 1 (fun gx=>[(28,.int .i64 (gx:Nat))]) [(1,_),(4,_),(26,_),(27,_)] (fun gx=>[uY b2 (EM (l.map RG.r) gx)]) (fun gx=>gx≤l.length∧∀k,k<gx→u9 g (l.map RG.r) k=0) (fun gx=>l.length-gx) 0 (by exact⟨by omega,fun k hk=>by omega⟩) (.c4 rfl rfl rfl rfl (.cons rfl .nil)) (fun w h=>by rw[TR];exact h) ?_
    rintro j ⟨hj,hz⟩
    refine VC.q (VO.t rfl<|VO.n<|ak<|ay rfl (fun h4=>?_) (fun h4=>?_))
    ·
     obtain⟨x,hx⟩:∃x,l[j]? =some x:=⟨_,af (by omega)⟩
     have hxo:=hl.ok x (al hx)
     have hxd:=M1 hx
     refine aC (ag<|ak<|aG<|VC.q (ah (cw LI Jl hl.sm (.r rfl) (.r rfl) rfl (by omega)) rfl<|ah (aM (vs:=[_,_]) GL (.r rfl) (hl.at hx) rfl) rfl<|aD rfl<|bI (C:=#[_,_]) UT rfl fun b3=>bU<|bl 0 (vs:=[_,_]) (C':=[_,_]) (L':=[_,_,_]) Jl rfl rfl rfl rfl rfl rfl rfl rfl<|VO.n<|ak ?_))
     refine aG<|VC.q (VO.f (r:=0) Nv rfl<|VO.c 0 O9 rfl rfl ⟨_,rfl⟩ rfl<|ah (bD (xs:=[_]) (vs:=[_]) amr ⟨(.r rfl),trivial⟩ (fun w _=>ae3 _ w)) rfl<|ah (LO.not (.r rfl)) rfl<|VO.a rfl<|VO.n<|ay rfl (fun h5=>?_) (fun h5=>?_))
     ·
      refine VC.q (VO.a rfl<|VO.n<|aP (cI (a8 (cI (a8 (a8 (cI (a8 (VE.s rfl rfl (fun w hw=>?_))))))))))
      refine⟨?_,hw.nil⟩
      simp only[gF]
      congr 2
      have hlen:(l.map RG.r).length=l.length:=aq ..
      first |exact sE1 (s:=⟨g,_,a,b,d⟩) h1|exact sE2 (s:=⟨g,_,a,b,d⟩) hgo (by simpa using h2)|exact sE3 (s:=⟨g,_,a,b,d⟩) hgo (by simpa using h2) (by simpa using h3)|exact Cd (s:=⟨g,_,a,b,d⟩) hgo (by simpa using h2) (by simpa using h3) hz (by simpa using h4) (A4 (by rw[hxd];exact h5)) (by decide)|exact Cd (s:=⟨g,_,a,b,d⟩) hgo (by simpa using h2) (by simpa using h3) hz (by simpa using h4) (A7 (by rw[hxd];exact h5') (by rw[hxd];exact h6)) (by decide)|exact Cd (s:=⟨g,_,a,b,d⟩) hgo (by simpa using h2) (by simpa using h3) hz (by simpa using h4) ((x5 (by rw[hxd];exact h5') (by rw[hxd];exact h6)).trans (by rw[hxd])) h7|exact sE5 (s:=⟨g,_,a,b,d⟩) hgo (by simpa using h2) (by simpa using h3) hz (by simpa using h4) (by unfold iZ;dsimp only;omega)|exact sE6 (s:=⟨g,_,a,b,d⟩) hgo (by simpa using h2) (by simpa using h3) hz (by simpa using h4) (by unfold iZ;dsimp only;omega)
     ·
      have h5':A8 x.r.name=true:=nn h5
      refine VC.q (VO.m rfl<|VO.f (r:=0) Nv rfl<|VO.c 0 O9 rfl rfl ⟨_,rfl⟩ rfl<|ah (LO.lks ahS (.r rfl) (.r rfl) (fun _ hw=>St.inv hw 1 _ rfl)) rfl<|VO.a rfl<|VO.n<|ay rfl (fun h6=>?_) (fun h6=>?_))
      ·
       refine VC.q (VO.a rfl<|VO.n<|aP (cI (a8 (cI (a8 (a8 (cI (a8 (VE.s rfl rfl (fun w hw=>?_))))))))))
       refine⟨?_,hw.nil⟩
       simp only[gF]
       congr 2
       have hlen:(l.map RG.r).length=l.length:=aq ..
       first |exact sE1 (s:=⟨g,_,a,b,d⟩) h1|exact sE2 (s:=⟨g,_,a,b,d⟩) hgo (by simpa using h2)|exact sE3 (s:=⟨g,_,a,b,d⟩) hgo (by simpa using h2) (by simpa using h3)|exact Cd (s:=⟨g,_,a,b,d⟩) hgo (by simpa using h2) (by simpa using h3) hz (by simpa using h4) (A4 (by rw[hxd];exact h5)) (by decide)|exact Cd (s:=⟨g,_,a,b,d⟩) hgo (by simpa using h2) (by simpa using h3) hz (by simpa using h4) (A7 (by rw[hxd];exact h5') (by rw[hxd];exact h6)) (by decide)|exact Cd (s:=⟨g,_,a,b,d⟩) hgo (by simpa using h2) (by simpa using h3) hz (by simpa using h4) ((x5 (by rw[hxd];exact h5') (by rw[hxd];exact h6)).trans (by rw[hxd])) h7|exact sE5 (s:=⟨g,_,a,b,d⟩) hgo (by simpa using h2) (by simpa using h3) hz (by simpa using h4) (by unfold iZ;dsimp only;omega)|exact sE6 (s:=⟨g,_,a,b,d⟩) hgo (by simpa using h2) (by simpa using h3) hz (by simpa using h4) (by unfold iZ;dsimp only;omega)
      ·
       refine aC (bB (ag<|VC.q (VO.m rfl<|VO.f (r:=0) Nv rfl<|VO.c 0 O9 rfl rfl ⟨_,rfl⟩ rfl<|bU<|HO.mus 1 (fun R=>[_,R,_]) ahS (.r rfl) (.r rfl) (.r rfl) rfl (fun _=>rfl)<|VO.n<|VC.q (ah (aM (vs:=[_,_]) GL (.r rfl) (ax 0 rfl ⟨_,rfl⟩) rfl) rfl<|VO.f (r:=0) Dd rfl<|ah (aM (vs:=[_,_,_,_,_]) vS (.r rfl) (ax 2 rfl ⟨_,rfl⟩) rfl) rfl<|ah (bD (xs:=[_,_]) (vs:=[_,_]) amU ⟨(.r rfl),(.r rfl),trivial⟩ (fun w hw=>VY x g w hgo (hxo.1.keep w hw) hxo.2)) rfl<|VO.a rfl<|VO.n ?_))))
       refine VC.q (VO.m rfl<|VO.u rfl<|VO.n<|ay rfl (fun h7=>?_) (fun h7=>?_))
       ·
        refine VC.q (VO.m rfl<|VO.a rfl<|VO.n<|aP (cI (a8 (a8 (cI (a8 (VE.s rfl rfl (fun w hw=>?_))))))))
        refine⟨?_,hw.nil⟩
        simp only[gF]
        congr 2
        have hlen:(l.map RG.r).length=l.length:=aq ..
        first |exact sE1 (s:=⟨g,_,a,b,d⟩) h1|exact sE2 (s:=⟨g,_,a,b,d⟩) hgo (by simpa using h2)|exact sE3 (s:=⟨g,_,a,b,d⟩) hgo (by simpa using h2) (by simpa using h3)|exact Cd (s:=⟨g,_,a,b,d⟩) hgo (by simpa using h2) (by simpa using h3) hz (by simpa using h4) (A4 (by rw[hxd];exact h5)) (by decide)|exact Cd (s:=⟨g,_,a,b,d⟩) hgo (by simpa using h2) (by simpa using h3) hz (by simpa using h4) (A7 (by rw[hxd];exact h5') (by rw[hxd];exact h6)) (by decide)|exact Cd (s:=⟨g,_,a,b,d⟩) hgo (by simpa using h2) (by simpa using h3) hz (by simpa using h4) ((x5 (by rw[hxd];exact h5') (by rw[hxd];exact h6)).trans (by rw[hxd])) h7|exact sE5 (s:=⟨g,_,a,b,d⟩) hgo (by simpa using h2) (by simpa using h3) hz (by simpa using h4) (by unfold iZ;dsimp only;omega)|exact sE6 (s:=⟨g,_,a,b,d⟩) hgo (by simpa using h2) (by simpa using h3) hz (by simpa using h4) (by unfold iZ;dsimp only;omega)
       ·
        refine aC (bB (ag<|aF (VO.p rfl rfl (by omega) (by omega) rfl<|VO.m rfl<|aI<|bn fun a w ha hw=>⟨j+1,⟨by omega,q8 hz ((x5 (by rw[hxd];exact h5') (by rw[hxd];exact h6)).trans (by rw[hxd];exact cL.1 h7))⟩,(by omega),ha.sub (.c4 rfl rfl rfl rfl (.cons rfl .nil)),(by rw[Tl (by simp;omega),hxd];exact hw.fO [1,2] rfl)⟩)))
    ·
     refine ca (aL (aL (cD (ag<|ak<|VC.q (VO.f (r:=6) Bd rfl<|VO.f (r:=6) aa6 rfl<|VO.c 1 O3 rfl rfl ⟨_,rfl⟩ rfl<|ah (bD (xs:=[_,_,_]) (vs:=[_,_,_]) C73 ⟨(.r rfl),(.r rfl),(.r rfl),trivial⟩ (fun w _=>og _ _ _ w)) rfl<|ah (LO.not (.r rfl)) rfl<|VO.m rfl<|VO.gf rfl (fun hg=>aE (r:=6) Bd (.r rfl) rfl)<|VO.gf rfl (fun hg=>aE (r:=7) PY (.g hg rfl) rfl)<|VO.gf rfl (fun hg=>aB O3 (.g hg rfl) (ax 1 rfl ⟨_,rfl⟩))<|VO.gf rfl (fun hg=>bD (xs:=[_,_,_]) (vs:=[_,_,_]) C73 ⟨(.g hg rfl),(.r rfl),(.r rfl),trivial⟩ (fun w _=>og _ _ _ w))<|VO.gf rfl (fun hg=>LO.not (.g hg rfl))<|ah (LO.qh (.r rfl) (.r rfl) rfl rfl) rfl<|VO.m rfl<|VO.gf rfl (fun hg=>aE (r:=6) Bd (.r rfl) rfl)<|VO.gf rfl (fun hg=>aE (r:=8) ab1 (.g hg rfl) rfl)<|VO.gf rfl (fun hg=>aB O3 (.g hg rfl) (ax 1 rfl ⟨_,rfl⟩))<|VO.gf rfl (fun hg=>bD (xs:=[_,_,_]) (vs:=[_,_,_]) C73 ⟨(.g hg rfl),(.r rfl),(.r rfl),trivial⟩ (fun w _=>og _ _ _ w))<|VO.gf rfl (fun hg=>LO.not (.g hg rfl))<|ah (LO.qh (.r rfl) (.r rfl) rfl rfl) rfl<|VO.n<|ay rfl (fun h8=>?_) (fun h8=>?_))))))
     ·
      refine VC.q (VO.a rfl<|VO.n<|aP (a8 (VE.s rfl rfl (fun w hw=>?_))))
      refine⟨?_,hw.nil⟩
      simp only[gF]
      congr 2
      have hlen:(l.map RG.r).length=l.length:=aq ..
      first |exact sE1 (s:=⟨g,_,a,b,d⟩) h1|exact sE2 (s:=⟨g,_,a,b,d⟩) hgo (by simpa using h2)|exact sE3 (s:=⟨g,_,a,b,d⟩) hgo (by simpa using h2) (by simpa using h3)|exact Cd (s:=⟨g,_,a,b,d⟩) hgo (by simpa using h2) (by simpa using h3) hz (by simpa using h4) (A4 (by rw[hxd];exact h5)) (by decide)|exact Cd (s:=⟨g,_,a,b,d⟩) hgo (by simpa using h2) (by simpa using h3) hz (by simpa using h4) (A7 (by rw[hxd];exact h5') (by rw[hxd];exact h6)) (by decide)|exact Cd (s:=⟨g,_,a,b,d⟩) hgo (by simpa using h2) (by simpa using h3) hz (by simpa using h4) ((x5 (by rw[hxd];exact h5') (by rw[hxd];exact h6)).trans (by rw[hxd])) h7|exact sE5 (s:=⟨g,_,a,b,d⟩) hgo (by simpa using h2) (by simpa using h3) hz (by simpa using h4) (by unfold iZ;dsimp only;omega)|exact sE6 (s:=⟨g,_,a,b,d⟩) hgo (by simpa using h2) (by simpa using h3) hz (by simpa using h4) (by unfold iZ;dsimp only;omega)
     ·
      refine aC (ag<|VC.q (VO.a rfl<|VO.n<|aP (VE.s rfl rfl (fun w hw=>?_))))
      refine⟨?_,hw.nil⟩
      simp only[gF]
      congr 2
      have hlen:(l.map RG.r).length=l.length:=aq ..
      first |exact sE1 (s:=⟨g,_,a,b,d⟩) h1|exact sE2 (s:=⟨g,_,a,b,d⟩) hgo (by simpa using h2)|exact sE3 (s:=⟨g,_,a,b,d⟩) hgo (by simpa using h2) (by simpa using h3)|exact Cd (s:=⟨g,_,a,b,d⟩) hgo (by simpa using h2) (by simpa using h3) hz (by simpa using h4) (A4 (by rw[hxd];exact h5)) (by decide)|exact Cd (s:=⟨g,_,a,b,d⟩) hgo (by simpa using h2) (by simpa using h3) hz (by simpa using h4) (A7 (by rw[hxd];exact h5') (by rw[hxd];exact h6)) (by decide)|exact Cd (s:=⟨g,_,a,b,d⟩) hgo (by simpa using h2) (by simpa using h3) hz (by simpa using h4) ((x5 (by rw[hxd];exact h5') (by rw[hxd];exact h6)).trans (by rw[hxd])) h7|exact sE5 (s:=⟨g,_,a,b,d⟩) hgo (by simpa using h2) (by simpa using h3) hz (by simpa using h4) (by unfold iZ;dsimp only;omega)|exact sE6 (s:=⟨g,_,a,b,d⟩) hgo (by simpa using h2) (by simpa using h3) hz (by simpa using h4) (by unfold iZ;dsimp only;omega)
theorem C32:ef ae 32:=⟨_,Tryz.func32,by decide,rfl⟩
abbrev sF:=eB Int
def zI:sF:=eB.z
def Mw (rs:List sF):List (List Int):=rs.map (·.l)
theorem yY {rs:List sF}:(Mw rs).length=rs.length:=aq ..
theorem Pb {rs:List sF} (i:Nat):(Mw rs).getD i []=(rs.getD i zI).l:=by
 unfold Mw
 rw[av,av,aw]
 cases rs[i]? <;>rfl
theorem Zr {xs ys:List sF}:Mw (xs++ys)=Mw xs++Mw ys:=bj ..
theorem getD_some {α:Type} {l:List α} {d:α} {j:Nat} (hj:j<l.length):l[j]? =some (l.getD j d):=by
 rw[av,af hj];rfl
theorem Yn {w:World} {p:Option Addr} {rs:List sF} (h:RR 1 iC w p rs) {i:Nat} (hi:i<rs.length):(rs.getD i zI).l.length≤(rs.getD i zI).c∧RO 1 iC w (rs.getD i zI).p (rs.getD i zI).l:=h.2 _ (kQ (d:=zI) hi)
structure xZ where
 lv:Int
 ld:Int
 px:Int
abbrev aij (t:xZ):Value:=.agg #[.int .i64 t.lv,.int .i64 t.ld,.int .i64 t.px]
def wE (l:List Int) (x:Int) (pix:List Int) (a:xZ):Nat→xZ
 |0=>a
 |k+1=>if(wE l x pix a k).lv<l.getD (pix.getD k 0).toNat 0 then⟨l.getD (pix.getD k 0).toNat 0,x,pix.getD k 0⟩ else wE l x pix a k
def GF (ls:List (List Int)) (pix:List Int) (b:Int):Nat→xZ
 |0=>⟨0, -1, -1⟩
 |i+1=>wE (ls.getD i []) (i*b) pix (GF ls pix b i) pix.length
def C2 (ls:List (List Int)) (pix:List Int) (b:Int):xZ:=GF ls pix b ls.length
theorem aeF {l pix:List Int} {x v:Int} {a t:xZ} {k:Nat} (h:t=wE l x pix a k) (hv:v=l.getD (pix.getD k 0).toNat 0) (hk:t.lv<v):xZ.mk v x (pix.getD k 0)=wE l x pix a (k+1):=by
 subst h hv;unfold wE;rw[if_pos hk]
theorem aef {l pix:List Int} {x v:Int} {a t:xZ} {k:Nat} (h:t=wE l x pix a k) (hv:v=l.getD (pix.getD k 0).toNat 0) (hk:¬t.lv<v):t=wE l x pix a (k+1):=by
 subst h hv
 conv=>rhs;unfold wE
 rw[if_neg hk]
def pU (a b:Int):Nat:=(a / b).toNat+1
def qE (g:cU) (l:List cZ):Int:=Ej g l 0
def uM (g:cU) (l:List cZ) (b:Int) (n:Nat):List (List Int):=(br n).map fun k:Nat=>zL g l (k*b)
theorem vZ {g:cU} {l:List cZ} {b:Int} {n:Nat}:(uM g l b n).length=n:=by simp [uM]
theorem Ro {g:cU} {l:List cZ} {b:Int} {n:Nat}:uM g l b (n+1)=uM g l b n++[zL g l (n*b)]:=by unfold uM;rw[List.range_succ,bj];rfl
def nE (g:cU) (l:List cZ) (a b:Int):List (List Int):=if qE g l≠0 then[] else uM g l b (pU a b)
theorem Ho {a b:Int} {i:Nat} (ha:0≤a) (hb:30≤b):(i:Int)*b≤a↔i<pU a b:=by
 unfold pU
 have h:=Int.le_ediv_iff_mul_le (a:=(i:Int)) (b:=a) (c:=b) (by omega)
 have h0:0≤a / b:=Int.ediv_nonneg ha (by omega)
 constructor
 ·intro q;have:=h.2 q;omega
 ·intro q;exact h.1 (by omega)
theorem yX {a b:Int} {i:Nat} (ha:0≤a) (ha2:a≤7200) (hb:30≤b) (hb2:b≤3600) (hi:i≤pU a b):0≤(i:Int)*b∧(i:Int)*b≤10800∧i≤241:=by
 have h0:0≤a / b:=Int.ediv_nonneg ha (by omega)
 have h1:b*(a / b)≤a:=Int.mul_ediv_self_le (by omega)
 have h2:(i:Int)≤a / b+1:=by unfold pU at hi;omega
 have h3:(i:Int)*b≤(a / b+1)*b:=dX h2 (by omega)
 have h4:(a / b+1)*b=b*(a / b)+b:=by rw[Int.add_mul,Int.one_mul,Int.mul_comm]
 have h5:30*(a / b)≤b*(a / b):=dX hb h0
 refine⟨Int.mul_nonneg (by omega) (by omega),by omega,by omega⟩
theorem JS {g:cU} {l:List cZ} {t:Int} (h1:0≤t) (h2:t≤7200):Ej g l t=qE g l:=by
 unfold qE Ej
 simp [h1,h2]
theorem ZF {g:cU} {l:List cZ} {t:Int} (h:Ej g l t=0):(zL g l t).length=(g.wide*g.high).toNat:=by
 unfold zL;rw[if_neg (by omega)];simp
theorem Jj {g:cU} {l:List cZ} {a b e:Int} {w w':World} {L:List cq} (he:e=qE g l) (h0:¬e=0) (hw:St (bs w) L w'):
  ∃x:(Option Addr×Nat)×List sF,Mw x.2=nE g l a b∧cW (.tuple #[.slice none 0 0,.int .i64 e])= .returned (.tuple #[.slice x.1.1 x.2.length x.1.2,.int .i64 (qE g l)])∧St (bs w) [own 112 1 x.1.1 x.1.2 (x.2.map sw),ri 3 1 iC x.2] w':=
 ⟨((none,0),[]),by unfold nE;rw[if_pos (by rw[←he];exact h0)];rfl,by rw[he];rfl,(hw.nil.yF 3 1 iC).fX 112 1⟩
theorem TB (g:cU) (rp:Option Addr) (rn rc:Nat) (a b d:Int) (l:List CP) (pl:Option Addr) (cl:Nat) (w:World) (ha:0≤a) (ha2:a≤7200) (hb:30≤b) (hb2:b≤3600) (hll:l.length<1000000000000) (hl:l0 w pl l):
 Calls ae 74 #[Dw g rp rn rc a b d,.slice pl l.length cl] w fun e w'=>∃x:(Option Addr×Nat)×List sF,Mw x.2=nE g (l.map iJ) a b∧e= .returned (.tuple #[.slice x.1.1 x.2.length x.1.2,.int .i64 (qE g (l.map iJ))])∧St (bs w) [own 112 1 x.1.1 x.1.2 (x.2.map sw),ri 3 1 iC x.2] w':=by
 refine enter (vs:=[_,_]) (env:=[(0,_),(1,_)]) Tryz.func74 rfl rfl rfl rfl ?_
 refine VC.q (aD rfl<|cf (C:=#[_,_,_,_,_,_,_,_,_]) rfl rfl fun b1=>VO.a rfl<|VO.a rfl<|VO.n<|VC.q (VO.a rfl<|VO.n<|ak ?_))
 refine VC.q (VO.a rfl<|VO.n<|aG<|bY (α:=Nat×(List sF)×(Option Addr)×Nat) 0 (fun gx=>[(6,.slice gx.2.2.1 gx.2.1.length gx.2.2.2),(7,.int .i64 ((gx.1:Int)*b))]) [(1,_),(2,_)] (fun gx=>[own 112 1 gx.2.2.1 gx.2.2.2 (gx.2.1.map sw),ri 3 1 iC gx.2.1]) (fun gx=>gx.1≤pU a b∧Mw gx.2.1=uM g (l.map iJ) b gx.1∧(0<gx.1→qE g (l.map iJ)=0)) (fun gx=>pU a b-gx.1) (0,[],none,0) (by exact⟨bG _,rfl,fun h=>absurd h (by omega)⟩) (.cons rfl (.cons (congrArg (fun z=>some (bX .i64 z)) (Int.zero_mul b).symm) (.cons rfl (.cons rfl .nil)))) (fun _ h=>((h.yF 3 1 iC).fX 112 1)) ?_)
 rintro ⟨i,xs,px,cx⟩ ⟨hi,hX,hz⟩
 show VC _ _ _ _ _ ([(6,.slice px xs.length cx),(7,.int .i64 ((i:Int)*b))]++_) ([own 112 1 px cx (xs.map sw),ri 3 1 iC xs]++_) _ _
 dsimp only at hi hX hz
 have hxl:xs.length=i:=by rw[←yY,hX,vZ]
 refine ak<|ak ?_
 have hbd0:=yX ha ha2 hb hb2 hi
 refine aF (VO.m rfl<|VO.f (r:=6) Bd rfl<|VO.f (r:=6) aa6 rfl<|VO.c 2 O3 rfl rfl ⟨_,rfl⟩ rfl<|ah (iI (.r rfl) (.r rfl)) rfl<|VO.n<|ay rfl (fun h14=>?_) (fun h14=>?_))
 ·
  have hi2:=(Ho ha hb).1 h14
  have hbd:=yX ha ha2 hb hb2 hi
  have hae:=JS (g:=g) (l:=l.map iJ) (t:=(i:Int)*b) hbd.1 (by omega)
  refine aC (ag<|ak<|aG<|VC.q (VO.f (r:=0) Dd rfl<|ah (aM (vs:=[_,_,_,_,_]) vS (.r rfl) (ax 2 rfl ⟨_,rfl⟩) rfl) rfl<|VO.m rfl<|VO.m rfl<|aD rfl<|HO.fP (xs:=[_,_,_]) (vs:=[_,_,_]) C32 ⟨(.r rfl),(.r rfl),(.r rfl),trivial⟩ (fun w hw=>agX g l pl cl ((i:Int)*b) w hll ⟨hl.rows.keep w hw,fun x hx=>⟨(hl.ok x hx).1.keep w hw,(hl.ok x hx).2.1.keep w hw,(hl.ok x hx).2.2⟩⟩) fun q _=>aD rfl<|aO (bJ (.r rfl))<|aD rfl<|aO (bN (.r rfl) rfl)<|aD rfl<|aO (bN (.r rfl) rfl)<|aD rfl<|aO (LO.as (.r rfl))<|aD rfl<|aO (LO.as (.r rfl))<|VO.n<|ak ?_))
  refine VC.q (VO.m rfl<|VO.u rfl<|VO.n<|ay rfl (fun h29=>?_) (fun h29=>?_))
  ·
   refine VC.q (VO.m rfl<|VO.a rfl<|VO.a rfl<|VO.n<|aP (a8 (cI (a8 (a8 (cI (a8 (dh (vs:=[_,_]) rfl ⟨rfl,rfl,trivial⟩ (fun w hw=>?_)))))))))
   first |exact Jj hae h29 hw|exact⟨((px,cx),xs),by have h0:=hz (by unfold pU at hi3;omega);unfold nE;rw[if_neg (by omega),hX,hi3],by rw[hz (by unfold pU at hi3;omega)];rfl,hw.fO [0,1] rfl⟩
  ·
   refine aC (ag<|aF (VO.m rfl<|VO.m rfl<|aD rfl<|HO.bs (ps:=[(_,_)]) (vs:=[(_,_)]) (Z:=[_]) (C:=[_]) rm TJ qo ⟨(.r rfl),trivial⟩ rfl rfl rfl rfl ⟨_,[_],[_],rfl,rfl,rfl,rfl,rfl⟩ fun b5=>aD rfl<|HO.kT ((⟨q.1,q.2,zL g (l.map iJ) ((i:Int)*b)⟩:sF)) 2 0 (fun R=>[_,_,R,_,_]) rm rm adJ (.r rfl) (.r rfl) rfl rfl rfl rfl rfl rfl rfl (fun _=>rfl) rfl (by omega) fun p3 c3=>aD rfl<|aO (LO.as (.r rfl))<|aI<|bB (ag<|aF (VO.m rfl<|VO.f (r:=6) Bd rfl<|VO.f (r:=7) PY rfl<|VO.c 4 O3 rfl rfl ⟨_,rfl⟩ rfl<|VO.p rfl rfl (by omega) (by omega) rfl<|VO.a rfl<|aI<|bn fun a w ha hw=>⟨(i+1,xs++[(⟨q.1,q.2,zL g (l.map iJ) ((i:Int)*b)⟩:sF)],p3,c3),⟨by dsimp only;omega,by dsimp only;rw[Zr,hX,Ro];rfl,fun _=>by rw[←hae];exact cL.1 h29⟩,(by dsimp only;omega),ha.sub (.cons rfl (.cons (congrArg (fun z=>some (bX .i64 z)) (by show(i:Int)*b+b=((i+1:Nat):Int)*b;rw[Int.natCast_succ,Int.add_mul,Int.one_mul])) (.cons rfl (.cons rfl .nil)))),((hw.fO [1,3,2,4] rfl).Nx (x:=(⟨q.1,q.2,zL g (l.map iJ) ((i:Int)*b)⟩:sF))).fO [1,0,2] rfl⟩))))
 ·
  have hi3:i=pU a b:=by have:=(Ho (i:=i) ha hb).2;omega
  refine ca (aL (aL (cD (ag<|VC.q (VO.m rfl<|VO.a rfl<|VO.a rfl<|VO.n<|aP (dh (vs:=[_,_]) rfl ⟨rfl,rfl,trivial⟩ (fun w hw=>?_)))))))
  first |exact Jj hae h29 hw|exact⟨((px,cx),xs),by have h0:=hz (by unfold pU at hi3;omega);unfold nE;rw[if_neg (by omega),hX,hi3],by rw[hz (by unfold pU at hi3;omega)];rfl,hw.fO [0,1] rfl⟩
theorem adM:cj ae 245 (.agg #[.int .i64 0,.int .i64 0,.int .i64 0]):=by unfold cj;kernel_rfl
theorem ahb:ed ae 245 [(0,1),(1,1),(2,1)] [.int .i64 0,.int .i64 0,.int .i64 0]:=ed.mk fun _=>by kernel_rfl
theorem ZE:(ae.info? 245).map (·.size)=some 3:=by kernel_rfl
theorem Nf:bV ae 245 0 0:=⟨_,_,oM,rfl,rfl,0,by kernel_rfl⟩
theorem agQ:jX ae 245 3:=⟨⟨_,oM,rfl⟩,by kernel_rfl⟩
theorem Xe:jX ae 93 9:=⟨⟨_,pB,rfl⟩,by kernel_rfl⟩
theorem C70:ef ae 70:=⟨_,Tryz.func70,by decide,rfl⟩
theorem C74:ef ae 74:=⟨_,Tryz.func74,by decide,rfl⟩
theorem C78:ef ae 78:=⟨_,Tryz.func78,by decide,rfl⟩
theorem MC:bV ae 245 1 1:=⟨_,_,oM,rfl,rfl,0,by kernel_rfl⟩
theorem Mj:bV ae 245 2 2:=⟨_,_,oM,rfl,rfl,0,by kernel_rfl⟩
theorem Q6 {ls:List (List Int)} {pix:List Int} {b:Int} {i:Nat} {t u:xZ} (ht:t=GF ls pix b i) (hu:u=wE (ls.getD i []) (i*b) pix t pix.length):u=GF ls pix b (i+1):=by
 subst ht;exact hu
theorem Ry {i:Nat} {b:Int} (hi:i≤1000) (hb:0≤b) (hb2:b≤3600):0≤(i:Int)*b∧(i:Int)*b≤3600000:=by
 refine⟨Int.mul_nonneg (by omega) hb,?_⟩
 have:(i:Int)*b≤1000*b:=dX (by omega) hb
 omega
def abX (pix:List Int) (rs:List sF):Prop:=∃n:Nat,(∀k,k<pix.length→0≤pix.getD k 0∧pix.getD k 0<n)∧∀i,i<rs.length→(rs.getD i zI).l.length=n
theorem IC {g:cU} {l:List cZ} {a b:Int} {rs:List sF} {pix:List Int} (ha:0≤a) (ha2:a≤7200) (hb:30≤b) (hb2:b≤3600) (h:Mw rs=nE g l a b) (h0:qE g l=0) (hp:ot g pix=0) (hg:cF g):abX pix rs:=by
 have h1:Mw rs=uM g l b (pU a b):=by rw[h];unfold nE;rw[if_neg (by omega)]
 have hN:rs.length=pU a b:=by rw[←yY,h1,vZ]
 refine⟨(g.wide*g.high).toNat,fun k hk=>?_,fun i hi=>?_⟩
 ·have e:pix.getD k 0=pix[k]:=by rw[av,af hk];rfl
  have h2:gy (lO g pix) pix.length=0:=by
   unfold ot at hp
   split at hp
   ·omega
   ·exact hp
  have h3:=oW h2 k hk
  unfold lO at h3
  have:=rP hg
  split at h3
  ·omega
  ·omega
 ·rw[←Pb,h1]
  have hbd:=yX (i:=i) ha ha2 hb hb2 (by omega)
  have e:(uM g l b (pU a b)).getD i []=zL g l (i*b):=by
   unfold uM
   rw[av,aw,List.getElem?_range (by omega)];rfl
  rw[e]
  have hlt:=(Ho (i:=i) ha hb).2 (by omega)
  exact ZF (by rw[JS hbd.1 (by omega)];exact h0)
theorem Ad {s:Sp} (h:j0 s=0):cF s.g∧s.fI.length≤32∧0<s.fI.length∧(∀i,i<s.fI.length→ot s.g (s.fI.getD i default).pix=0)∧iZ s:=by
 unfold j0 at h
 split at h
 ·omega
 ·rename_i q1
  have q1:=cL.1 q1
  split at h
  ·omega
  ·rename_i q2
   split at h
   ·omega
   ·split at h
    ·omega
    ·rename_i q4
     have q4:=cL.1 q4
     split at h
     ·omega
     ·rename_i q5
      have q5:=cL.1 q5
      have hl:0<s.fI.length:=List.length_pos_iff.2 q2
      refine⟨q1,by omega,hl,fun i hi=>?_,q5⟩
      have:=oW q4 i hi
      unfold u9 at this
      split at this
      ·omega
      ·split at this
       ·omega
       ·exact this
def ox (s:Sp) (i:Int) (l:List cZ):Int:=if j0 s≠0 then j0 s else if ¬(0≤i∧i≤(s.fI.length:Int)-1) then 4 else qE s.g l
def rT (s:Sp) (i:Int) (l:List cZ):xZ:=if ox s i l≠0 then⟨0,0,0⟩ else C2 (nE s.g l s.lead s.step) (s.fI.getD i.toNat default).pix s.step
abbrev rN (s:Sp) (i:Int) (l:List cZ):Value:=.tuple #[.int .i64 (rT s i l).lv,.int .i64 (rT s i l).ld,.int .i64 (rT s i l).px,.int .i64 (ox s i l)]
section
variable {s:Sp} {i:Int} {l:List cZ}
theorem Pp (h:¬j0 s=0):ox s i l=j0 s:=if_pos h
theorem P1 (h:j0 s=0) (k:¬(0≤i∧i≤(s.fI.length:Int)-1)):ox s i l=4:=by unfold ox;rw[if_neg (by omega),if_pos k]
theorem Bl (h:j0 s=0) (k:0≤i∧i≤(s.fI.length:Int)-1):ox s i l=qE s.g l:=by unfold ox;rw[if_neg (by omega),if_neg (fun q=>q k)]
theorem qj {e:Int} (h:ox s i l=e) (h0:¬e=0) {β:Bs} {L:List cq} {w:World} (hw:St β L w):cW (.tuple #[.int .i64 0,.int .i64 0,.int .i64 0,.int .i64 e])= .returned (rN s i l)∧St β [] w:=by
 have:rT s i l=⟨0,0,0⟩:=if_pos (by rw[h];exact h0)
 refine⟨?_,hw.nil⟩
 unfold rN
 rw[this,h]
theorem OW {t:xZ} (h:ox s i l=0) (ht:t=C2 (nE s.g l s.lead s.step) (s.fI.getD i.toNat default).pix s.step) {β:Bs} {L:List cq} {w:World} (hw:St β L w):cW (.tuple #[.int .i64 t.lv,.int .i64 t.ld,.int .i64 t.px,.int .i64 0])= .returned (rN s i l)∧St β [] w:=by
 have:rT s i l=t:=by unfold rT;rw[if_neg (by omega),ht]
 refine⟨?_,hw.nil⟩
 unfold rN
 rw[this,h]
end
theorem Iv (r:RG) (rs:List sF) (p:Option Addr) (c:Nat) (b:Int) (w:World) (hl:Ints w r.px r.r.pix) (hn:r.r.pix.length<1000000000000) (hs:RR 1 iC w p rs) (hrn:rs.length≤241) (hb:0≤b) (hb2:b≤3600) (hpi:abX r.r.pix rs):
 Calls ae 78 #[.agg #[.string r.r.name,.slice r.px r.r.pix.length r.cx],.slice p rs.length c,.int .i64 b] w fun e w'=>e= .returned (aij (C2 (Mw rs) r.r.pix b))∧St (bs w) [] w':=by
 obtain⟨n,hpx,hrw⟩:=hpi
 refine enter (vs:=[_,_,_]) (env:=[(0,_),(1,_),(2,_)]) Tryz.func78 rfl rfl rfl rfl ?_
 refine VC.q (aD rfl<|cf (C:=#[_,_]) rfl rfl fun b1=>aD rfl<|bI (C:=#[_,_,_]) adM rfl fun b2=>VO.n<|VC.q (ah (LO.bd (ps:=[(_,_),(_,_),(_,_)]) (vs:=[(_,_),(_,_),(_,_)]) (C:=[_,_,_]) ahb ⟨(.r rfl),(.r rfl),(.r rfl),trivial⟩ rfl ⟨_,[_],[_,_,_],rfl,rfl,rfl,rfl,⟨_,[_],[_,_,_],rfl,rfl,rfl,rfl,⟨_,[_],[_,_,_],rfl,rfl,rfl,rfl,rfl⟩⟩⟩) rfl<|aD rfl<|bI (C:=#[_,_,_]) adM rfl fun b3=>bU<|bl 0 (vs:=[_,_,_]) (C':=[_,_,_]) (L':=[_,_,_]) ZE rfl rfl rfl rfl rfl rfl rfl rfl<|VO.n<|ak ?_))
 refine VC.q (VO.m rfl<|ah (bW rm (.r rfl) rfl) rfl<|VO.m rfl<|VO.n<|aG<|bY (α:=Nat×xZ) 1 (fun gx=>[(16,.int .i64 (gx.1:Nat))]) [(2,_),(3,_),(6,_),(7,_),(14,_),(15,_)] (fun gx=>[de b3 (.cells #[.int .i64 gx.2.lv,.int .i64 gx.2.ld,.int .i64 gx.2.px] 245)]) (fun gx=>gx.1≤rs.length∧gx.2=GF (Mw rs) r.r.pix b gx.1) (fun gx=>rs.length-gx.1) (0,xZ.mk 0 (-1) (-1)) (by exact⟨bG _,rfl⟩) (.c4 rfl rfl rfl rfl (.cons rfl (.cons rfl (.cons rfl .nil)))) (fun _ h=>h) ?_)
 rintro ⟨i,t⟩ ⟨hi,ht⟩
 show VC _ _ _ _ _ ([(16,.int .i64 (i:Nat))]++_) ([de b3 (.cells #[.int .i64 t.lv,.int .i64 t.ld,.int .i64 t.px] 245)]++_) _ _
 dsimp only at hi ht
 refine VC.q (VO.t rfl<|VO.n<|ak<|ay rfl (fun h17=>?_) (fun h17=>?_))
 ·
  have hrow:=Yn hs (i:=i) (by omega)
  have hri:=hrw i (by omega)
  have hib:=Ry (i:=i) (b:=b) (by omega) hb hb2
  refine aC (ag<|ak<|aG<|VC.q (VO.m rfl<|ah (cw rm qo hs.1.sm (.r rfl) (.r rfl) rfl (by omega)) rfl<|ah (aB ij (.r rfl) (fun w hw=>bq (off:=0) ((hs.1.at zI (j:=i) (by omega)) w hw) ⟨_,rfl⟩)) rfl<|VO.a rfl<|VO.a rfl<|VO.n<|ak ?_))
  refine aF (VO.f (r:=1) su rfl<|VO.c 2 ij rfl rfl ⟨_,rfl⟩ rfl<|ah (bW ei (.r rfl) rfl) rfl<|VO.m rfl<|VO.n<|aG<|bY (α:=Nat×xZ) 1 (fun gx=>[(24,.int .i64 (gx.1:Nat))]) [(2,_),(3,_),(6,_),(7,_),(8,_),(9,_),(14,_),(15,_),(16,_),(22,_),(23,_)] (fun gx=>[de b3 (.cells #[.int .i64 gx.2.lv,.int .i64 gx.2.ld,.int .i64 gx.2.px] 245)]) (fun gx=>gx.1≤r.r.pix.length∧gx.2=wE (rs.getD i zI).l ((i:Int)*b) r.r.pix t gx.1) (fun gx=>r.r.pix.length-gx.1) (0,t) (by exact⟨bG _,rfl⟩) (.c4 rfl rfl rfl rfl (.c4 rfl rfl rfl rfl (.c4 rfl rfl rfl rfl .nil))) (fun _ h=>h) ?_)
  rintro ⟨k,u⟩ ⟨hk,hu⟩
  show VC _ _ _ _ _ ([(24,.int .i64 (k:Nat))]++_) ([de b3 (.cells #[.int .i64 u.lv,.int .i64 u.ld,.int .i64 u.px] 245)]++_) _ _
  dsimp only at hk hu
  refine VC.q (VO.t rfl<|VO.n<|ak<|ay rfl (fun h25=>?_) (fun h25=>?_))
  ·
   have hpk:=hpx k (by omega)
   refine aC (ag<|ak<|aG<|VC.q (ah (cw ei N3 hl.some (.r rfl) (.r rfl) rfl (by omega)) rfl<|ah (aB O3 (.r rfl) (fun w hw=>bq (off:=0) ((hl.at (j:=k) (by omega)) w hw) ⟨_,rfl⟩)) rfl<|VO.a rfl<|VO.n<|ak ?_))
   refine aF (VO.m rfl<|VO.m rfl<|ah (cw ei N3 hrow.2.sm (.r rfl) (.r rfl) (iv (by omega)).symm (by omega)) rfl<|ah (aB O3 (.r rfl) (fun w hw=>bq (off:=0) ((hrow.2.at 0 (j:=(r.r.pix.getD k 0).toNat) (by omega)) w hw) ⟨_,rfl⟩)) rfl<|VO.a rfl<|VO.n<|VC.q (VO.m rfl<|VO.f (r:=0) Nf rfl<|VO.c 0 O3 rfl rfl ⟨_,rfl⟩ rfl<|ah (LO.gt (.r rfl) (.r rfl)) rfl<|VO.n<|ay rfl (fun h35=>?_) (fun h35=>?_)))
   ·
    refine aF (VO.m rfl<|VO.m rfl<|VO.m rfl<|ah (LO.mul (.r rfl) (.r rfl) (wi (by omega) (by omega))) rfl<|VO.m rfl<|ah (LO.bd (ps:=[(_,_),(_,_),(_,_)]) (vs:=[(_,_),(_,_),(_,_)]) (C:=[_,_,_]) ahb ⟨(.r rfl),(.r rfl),(.r rfl),trivial⟩ rfl ⟨_,[_],[_,_,_],rfl,rfl,rfl,rfl,⟨_,[_],[_,_,_],rfl,rfl,rfl,rfl,⟨_,[_],[_,_,_],rfl,rfl,rfl,rfl,rfl⟩⟩⟩) rfl<|bU<|bl 0 (vs:=[_,_,_]) (C':=[_,_,_]) (L':=[_,_,_]) ZE rfl rfl rfl rfl rfl rfl rfl rfl<|aI<|bB (ag<|aF (VO.p rfl rfl (by omega) (by omega) rfl<|VO.m rfl<|aI<|bn fun a w ha hw=>⟨(k+1,xZ.mk ((rs.getD i zI).l.getD (r.r.pix.getD k 0).toNat 0) ((i:Int)*b) (r.r.pix.getD k 0)),⟨by dsimp only;omega,aeF hu rfl (by omega)⟩,(by dsimp only;omega),ha.sub (.c4 rfl rfl rfl rfl (.c4 rfl rfl rfl rfl (.c4 rfl rfl rfl rfl .nil))),hw⟩)))
   ·
    refine aC (bB (ag<|aF (VO.p rfl rfl (by omega) (by omega) rfl<|VO.m rfl<|aI<|bn fun a w ha hw=>⟨(k+1,u),⟨by dsimp only;omega,aef hu rfl (by omega)⟩,(by dsimp only;omega),ha.sub (.c4 rfl rfl rfl rfl (.c4 rfl rfl rfl rfl (.c4 rfl rfl rfl rfl .nil))),hw⟩)))
  ·
   refine ca (aL (aL (cD (bB (ag<|aF (VO.p rfl rfl (by omega) (by omega) rfl<|VO.m rfl<|aI<|bn fun a w ha hw=>⟨(i+1,u),⟨by dsimp only;omega,Q6 ht (by rw[Pb,show r.r.pix.length=k by omega];exact hu)⟩,(by dsimp only;omega),ha.sub (.c4 rfl rfl rfl rfl (.cons rfl (.cons rfl (.cons rfl .nil)))),hw⟩))))))
 ·
  refine ca (aL (aL (cD (ag<|VC.q (ah (aM (vs:=[_,_,_]) agQ (.r rfl) (ax 0 rfl ⟨_,rfl⟩) rfl) rfl<|bU<|bl 1 (vs:=[_,_,_]) (C':=[_,_,_]) (L':=[_,_,_]) ZE rfl rfl rfl rfl rfl rfl rfl rfl<|VO.n<|aP (dh (vs:=[_]) rfl ⟨RV.agg (vs:=[_,_,_]) agQ rfl (ax 1 rfl ⟨_,rfl⟩) rfl,trivial⟩ (fun w hw=>?_)))))))
  refine⟨?_,hw.nil⟩
  have hi2:i=rs.length:=by omega
  simp only[gF]
  unfold C2
  rw[yY, ←hi2, ←ht]
theorem Ji (g:cU) (l:List RG) (pl:Option Addr) (cl:Nat) (a b d:Int) (i:Int) (m:List CP) (pm:Option Addr) (cm:Nat) (w:World) (hll:l.length<1000000000000) (hl:Aq w pl l) (hcn:m.length<1000000000000) (hcl:l0 w pm m):
 Calls ae 29 #[Dw g pl l.length cl a b d,.int .i64 i,.slice pm m.length cm] w fun e w'=>e= .returned (rN ⟨g,l.map RG.r,a,b,d⟩ i (m.map iJ))∧St (bs w) [] w':=by
 refine enter (vs:=[_,_,_]) (env:=[(0,_),(1,_),(2,_)]) Tryz.func29 rfl rfl rfl rfl ?_
 refine VC.q (aD rfl<|cf (C:=#[_,_,_,_,_,_,_,_,_]) rfl rfl fun b1=>VO.a rfl<|VO.a rfl<|VO.a rfl<|VO.a rfl<|VO.n<|ak<|VC.q (ah (aM (vs:=[_,_,_,_,_,_,_,_,_]) Xe (.r rfl) (ax 0 rfl ⟨_,rfl⟩) rfl) rfl<|ah (bD (xs:=[_]) (vs:=[_]) C70 ⟨(.r rfl),trivial⟩ (fun w hw=>Pz g l pl cl a b d w hll (hl.keep hw))) rfl<|VO.a rfl<|VO.n ?_))
 refine VC.q (VO.m rfl<|VO.u rfl<|VO.n<|ay rfl (fun h16=>?_) (fun h16=>?_))
 ·
  refine VC.q (VO.m rfl<|VO.a rfl<|VO.a rfl<|VO.a rfl<|VO.a rfl<|VO.n<|aP (a8 (dh (vs:=[_,_,_,_]) rfl ⟨rfl,rfl,rfl,rfl,trivial⟩ (fun w hw=>?_))))
  first |exact qj (s:=⟨g,l.map RG.r,a,b,d⟩) (Pp h16) h16 hw|exact qj (s:=⟨g,l.map RG.r,a,b,d⟩) (P1 h0 (by dsimp only;rw[aq];exact h24)) (by decide) hw|exact qj (s:=⟨g,l.map RG.r,a,b,d⟩) (Bl h0 h24') h32 hw|exact OW (s:=⟨g,l.map RG.r,a,b,d⟩) ((Bl h0 h24').trans h32) (by dsimp only;rw[hxd,hq]) hw
 ·
  have h0:j0 ⟨g,l.map RG.r,a,b,d⟩=0:=cL.1 h16
  have hok:=Ad h0
  obtain⟨hgo,hN1,hN2,hpx,⟨hr1,hr2⟩,⟨hr3,hr4⟩,hr5,hr6⟩:=hok
  dsimp only at hgo hN1 hN2 hpx hr1 hr2 hr3 hr4 hr5 hr6
  rw[aq]at hN1 hN2
  refine aC (ag<|ak<|VC.q (VO.m rfl<|VO.f (r:=5) sL rfl<|VO.c 0 Xa rfl rfl ⟨_,rfl⟩ rfl<|ah (bW LI (.r rfl) rfl) rfl<|ah (dv (.r rfl) (.r rfl) (wi (by omega) (by omega))) rfl<|ah (bD (xs:=[_,_,_]) (vs:=[_,_,_]) C73 ⟨(.r rfl),(.r rfl),(.r rfl),trivial⟩ (fun w _=>og _ _ _ w)) rfl<|ah (LO.not (.r rfl)) rfl<|VO.n<|ay rfl (fun h24=>?_) (fun h24=>?_)))
  ·
   refine VC.q (VO.a rfl<|VO.a rfl<|VO.a rfl<|VO.a rfl<|VO.n<|aP (a8 (dh (vs:=[_,_,_,_]) rfl ⟨rfl,rfl,rfl,rfl,trivial⟩ (fun w hw=>?_))))
   first |exact qj (s:=⟨g,l.map RG.r,a,b,d⟩) (Pp h16) h16 hw|exact qj (s:=⟨g,l.map RG.r,a,b,d⟩) (P1 h0 (by dsimp only;rw[aq];exact h24)) (by decide) hw|exact qj (s:=⟨g,l.map RG.r,a,b,d⟩) (Bl h0 h24') h32 hw|exact OW (s:=⟨g,l.map RG.r,a,b,d⟩) ((Bl h0 h24').trans h32) (by dsimp only;rw[hxd,hq]) hw
  ·
   have h24:=cL.1 h24
   have hj:i=(i.toNat:Int):=(iv h24.1).symm
   obtain⟨x,hx⟩:∃x,l[i.toNat]? =some x:=⟨_,af (by omega)⟩
   have hxo:=hl.ok x (al hx)
   have hxd:=M1 hx
   have hpi:=hpx i.toNat (by rw[aq];omega)
   rw[hxd]at hpi
   have h24':0≤i∧i≤(((l.map RG.r).length:Nat):Int)-1:=by rw[aq];omega
   refine aC (ag<|VC.q (ah (aM (vs:=[_,_,_,_,_,_,_,_,_]) Xe (.r rfl) (ax 0 rfl ⟨_,rfl⟩) rfl) rfl<|VO.m rfl<|aD rfl<|HO.fP (xs:=[_,_]) (vs:=[_,_]) C74 ⟨(.r rfl),(.r rfl),trivial⟩ (fun w hw=>TB g pl l.length cl a b d m pm cm w hr1 hr2 hr3 hr4 hcn ⟨hcl.rows.keep w hw,fun x hx=>⟨(hcl.ok x hx).1.keep w hw,(hcl.ok x hx).2.1.keep w hw,(hcl.ok x hx).2.2⟩⟩) fun q hq=>aD rfl<|aO (bJ (.r rfl))<|aD rfl<|aO (bN (.r rfl) rfl)<|aD rfl<|aO (bN (.r rfl) rfl)<|aD rfl<|aO (LO.as (.r rfl))<|aD rfl<|aO (LO.as (.r rfl))<|VO.n<|ak<|VC.q (VO.m rfl<|VO.u rfl<|aI ?_)))
   refine ag<|ay rfl (fun h32=>?_) (fun h32=>?_)
   ·
    refine VC.q (VO.m rfl<|VO.a rfl<|VO.a rfl<|VO.a rfl<|VO.a rfl<|VO.n<|aP (a8 (dh (vs:=[_,_,_,_]) rfl ⟨rfl,rfl,rfl,rfl,trivial⟩ (fun w hw=>?_))))
    first |exact qj (s:=⟨g,l.map RG.r,a,b,d⟩) (Pp h16) h16 hw|exact qj (s:=⟨g,l.map RG.r,a,b,d⟩) (P1 h0 (by dsimp only;rw[aq];exact h24)) (by decide) hw|exact qj (s:=⟨g,l.map RG.r,a,b,d⟩) (Bl h0 h24') h32 hw|exact OW (s:=⟨g,l.map RG.r,a,b,d⟩) ((Bl h0 h24').trans h32) (by dsimp only;rw[hxd,hq]) hw
   ·
    have h32:=cL.1 h32
    have hql:q.2.length≤241:=by rw[←yY,hq];unfold nE;rw[if_neg (by omega),vZ];exact(yX hr1 hr2 hr3 hr4 (bA _)).2.2
    refine aC (ag<|ak<|cP [[0,1,2],[0,1,2],[0,1,2]] [some 1,some 1,some 1,some 1,some 1,some 1,some 1,some 1,some 1,some 1,none,none] mixed (by kernel_rfl) rfl (aA (fun _ hJ=>aE (r:=5) sL (.r rfl) rfl) rfl<|aA (fun _ hJ=>aB Xa (.r rfl) (fun _ hw=>aX (hJ _ hw) 2 rfl ⟨_,rfl⟩)) rfl<|LX.m rfl<|aA (fun _ hJ=>cw LI Jl hl.sm (.r rfl) (.r rfl) hj (by omega)) rfl<|aA (fun _ hJ=>aM (vs:=[_,_]) GL (.r rfl) (fun w hw=>bq (off:=0) ((hl.at hx) w (hJ _ hw)) ⟨_,rfl⟩) rfl) rfl<|LX.m rfl<|aA (fun _ hJ=>aE (r:=6) Bd (.r rfl) rfl) rfl<|aA (fun _ hJ=>aE (r:=7) PY (.r rfl) rfl) rfl<|aA (fun _ hJ=>aB O3 (.r rfl) (fun _ hw=>aX (hJ _ hw) 2 rfl ⟨_,rfl⟩)) rfl<|aA (fun _ hJ=>bD (xs:=[_,_,_]) (vs:=[_,_,_]) C78 ⟨(.r rfl),(.r rfl),(.r rfl),trivial⟩ (fun w hw=>Iv x q.2 _ _ b w (hxo.1.keep w (hJ _ hw)) hxo.2 (RR.kg (hJ _ hw) 0 1 rfl rfl) hql (by omega) hr4 (IC hr1 hr2 hr3 hr4 hq h32 hpi hgo))) rfl<|cn<|cn<|dw) (au<|au<|au<|au<|au<|au<|au<|au<|au<|au<|HX.h rfl<|bI (C:=#[_,_,_]) adM rfl fun b6=>⟨fun _ hw=>hw.fO [1,2,3] rfl,eW<|bl 0 (vs:=[_,_,_]) (C':=[_,_,_]) (L':=[_,_,_,_]) ZE rfl rfl rfl rfl rfl rfl rfl rfl<|⟨fun _ hw=>hw.fO [1,2,3] rfl,dS ?_⟩⟩))
    refine ag<|ak<|eH mixed (aV (aE (r:=0) Nf (.r rfl) rfl) rfl<|aV (aB O3 (.r rfl) (ax 0 rfl ⟨_,rfl⟩)) rfl<|aV (aE (r:=1) MC (.r rfl) rfl) rfl<|aV (aB O3 (.r rfl) (ax 0 rfl ⟨_,rfl⟩)) rfl<|aV (aE (r:=2) Mj (.r rfl) rfl) rfl<|aV (aB O3 (.r rfl) (ax 0 rfl ⟨_,rfl⟩)) rfl<|aV (LO.as (.r rfl)) rfl<|aV (LO.as (.r rfl)) rfl<|aV (LO.as (.r rfl)) rfl<|aV (LO.as (.r rfl)) rfl<|LL.nil) (by kernel_rfl)<|ag<|aP (dh (vs:=[_,_,_,_]) rfl ⟨rfl,rfl,rfl,rfl,trivial⟩ (fun w hw=>?_))
    first |exact qj (s:=⟨g,l.map RG.r,a,b,d⟩) (Pp h16) h16 hw|exact qj (s:=⟨g,l.map RG.r,a,b,d⟩) (P1 h0 (by dsimp only;rw[aq];exact h24)) (by decide) hw|exact qj (s:=⟨g,l.map RG.r,a,b,d⟩) (Bl h0 h24') h32 hw|exact OW (s:=⟨g,l.map RG.r,a,b,d⟩) ((Bl h0 h24').trans h32) (by dsimp only;rw[hxd,hq]) hw
def EB:xZ:=⟨0, -1, -1⟩
theorem aeX {g:cU} {pix:List Int} (hp:ot g pix=0) {k:Nat} (hk:k<pix.length):0≤pix.getD k 0∧pix.getD k 0≤g.wide*g.high-1:=by
 have h2:gy (lO g pix) pix.length=0:=by
  unfold ot at hp
  split at hp
  ·omega
  ·exact hp
 have h3:=oW h2 k hk
 unfold lO at h3
 split at h3
 ·omega
 ·rename_i q;exact cL.1 q
theorem aeK:bV ae 373 0 0:=⟨_,_,so,rfl,rfl,0,by kernel_rfl⟩
theorem Ae:dF ae 229 373:=Tryz.underlying229
theorem Eu:(ae.info? 373).map (·.size)=some 2:=by kernel_rfl
theorem UE:jX ae 373 2:=⟨⟨_,so,rfl⟩,by kernel_rfl⟩
theorem ah7:ef ae 156:=⟨_,Tryz.func156,by decide,rfl⟩
theorem anf:ef ae 210:=⟨_,Tryz.func210,by decide,rfl⟩
theorem ZM:cj ae 373 (.agg #[.int .i64 0,.int .i64 0]):=by unfold cj;kernel_rfl
structure iQ where
 t:Int
 lv:Int
def pO:iQ:=⟨0,0⟩
def zU (x:iQ):List Value:=[.int .i64 x.t,.int .i64 x.lv]
def xg (T H:Int) (x:iQ):Bool:=decide (x.t<T-H)
def Xd (f:iQ→Bool) (l:List iQ):Int:=if l.findIdx f<l.length then(l.findIdx f:Int) else-1
theorem Jm {f:iQ→Bool} {l:List iQ} (h:∀k,k<l.length→f (l.getD k pO)=false):Xd f l= -1:=by
 have:l.findIdx f=l.length:=uG.2 fun x hx=>by
  obtain⟨k,hk,e⟩:=da hx
  have:=h k hk
  rw[av,af hk]at this
  rw[←e];exact this
 unfold Xd;rw[if_neg (by omega)]
theorem IG {f:iQ→Bool} {l:List iQ} {j:Nat} (hj:j<l.length) (h:∀k,k<j→f (l.getD k pO)=false) (hf:f (l.getD j pO)=true):Xd f l=j:=by
 have:l.findIdx f=j:=(vM hj).2 ⟨by rw[av,af hj]at hf;exact hf,fun k hk=>by
  have:=h k hk
  rw[av,af (by omega)]at this;exact this⟩
 unfold Xd;rw[if_pos (by omega),this]
theorem filter_all {f:iQ→Bool} {l:List iQ} (h:∀x,x∈l→f x=false):l.filter (fun x=> !f x)=l:=List.filter_eq_self.2 fun x hx=>by rw[h x hx];rfl
theorem Ue {f:iQ→Bool} {l:List iQ} (h:¬Xd f l= -1):∃i:Nat,Xd f l=i∧i<l.length∧l.take i=(l.take (i+1)).filter (fun x=> !f x):=by
 unfold Xd at h ⊢
 split at h
 ·rename_i q
  rw[if_pos q]
  refine⟨l.findIdx f,rfl,q,?_⟩
  have h2:=(vM q).1 rfl
  have hall:∀x,x∈l.take (l.findIdx f)→f x=false:=fun x hx=>by
   obtain⟨k,hk,e⟩:=da hx
   rw[dt]at hk
   rw[←e,List.getElem_take]
   exact h2.2 k (by omega)
  rw[cQ,af q,dI,filter_all hall]
  simp [h2.1]
 ·exact absurd rfl h
theorem yB {f:iQ→Bool} {l:List iQ} (h:Xd f l= -1):l.filter (fun x=> !f x)=l:=by
 unfold Xd at h
 split at h
 ·omega
 ·refine filter_all fun x hx=>?_
  have:l.findIdx f=l.length:=by have:=List.findIdx_le_length (p:=f) (xs:=l);omega
  exact uG.1 this x hx
def iR (T H:Int) (l:List iQ):List iQ:=l.filter fun x=> !xg T H x
theorem Vv {f:iQ→Bool} {l ys:List iQ} {i j:Nat} (hi:i≤j) (hj:j<l.length) (hl:ys.length=l.length) (h1:ys.take i=(l.take j).filter (fun x=> !f x)) (h2:ys.drop j=l.drop j) (hf:¬f (ys.getD j pO)=true):
  (ys.set i (ys.getD j pO)).take (i+1)=(l.take (j+1)).filter (fun x=> !f x)∧(ys.set i (ys.getD j pO)).drop (j+1)=l.drop (j+1):=by
 have e:ys.getD j pO=l.getD j pO:=by
  rw[av,av]
  have:=congrArg (fun z=>z[0]?) h2
  simp only[kV,Nat.add_zero]at this
  rw[this]
 constructor
 ·rw[cQ,List.take_set_of_le (bA _),h1,List.getElem?_set,if_pos rfl,if_pos (by omega),cQ,dI,getD_some (l:=l) (d:=pO) hj]
  congr 1
  rw[e]at hf ⊢
  generalize l.getD j pO=v at hf ⊢
  simp [hf]
 ·rw[List.drop_set_of_lt (by omega)]
  have:=congrArg (fun z=>z.drop 1) h2
  simpa [List.drop_drop,Nat.add_comm]using this
theorem T9 {f:iQ→Bool} {l ys:List iQ} {i j:Nat} (hj:j<l.length) (hl:ys.length=l.length) (h1:ys.take i=(l.take j).filter (fun x=> !f x)) (h2:ys.drop j=l.drop j) (hf:f (ys.getD j pO)=true):
  ys.take i=(l.take (j+1)).filter (fun x=> !f x)∧ys.drop (j+1)=l.drop (j+1):=by
 have e:ys.getD j pO=l.getD j pO:=by
  rw[av,av]
  have:=congrArg (fun z=>z[0]?) h2
  simp only[kV,Nat.add_zero]at this
  rw[this]
 constructor
 ·rw[cQ,dI,getD_some (l:=l) (d:=pO) hj,h1]
  rw[e]at hf
  generalize l.getD j pO=v at hf ⊢
  simp [hf]
 ·have:=congrArg (fun z=>z.drop 1) h2
  simpa [List.drop_drop,Nat.add_comm]using this
theorem Pw {f:iQ→Bool} {l ys:List iQ} {i j:Nat} (hj:j=l.length) (h1:ys.take i=(l.take j).filter (fun x=> !f x)):ys.take i=l.filter fun x=> !f x:=by
 subst hj;rwa [List.take_length]at h1
theorem I6 (x:iQ) (T H:Int) (b7 b8:Nat) (w:World) (h7:fk w ⟨b7,0,none⟩ [.int .i64 T]) (h8:fk w ⟨b8,0,none⟩ [.int .i64 H]) (hT1:0≤T) (hT2:T≤1000000000000) (hH1:0≤H) (hH2:H≤1000000):
 Calls ae 156 #[.agg (zU x).toArray,.pointer (some ⟨b7,0,none⟩),.pointer (some ⟨b8,0,none⟩)] w fun e w'=>e= .returned (.bool (xg T H x))∧St (bs w) [] w':=by
 refine enter (vs:=[_,_,_]) (env:=[(0,_),(1,_),(2,_)]) Tryz.func156 rfl rfl rfl rfl ?_
 refine VC.q (aD rfl<|cf (C:=#[_,_]) rfl rfl fun b1=>VO.a rfl<|VO.n<|VC.q (VO.f (r:=0) aeK rfl<|VO.c 0 O3 rfl rfl ⟨_,rfl⟩ rfl<|ah (aB O3 (.r rfl) (aW (aU (off:=0) h7 ⟨_,rfl⟩))) rfl<|ah (aB O3 (.r rfl) (aW (aU (off:=0) h8 ⟨_,rfl⟩))) rfl<|ah (dv (.r rfl) (.r rfl) (wi (by omega) (by omega))) rfl<|VO.t rfl<|VO.a rfl<|VO.n<|aP (VE.s rfl rfl (fun w hw=>?_))))
 exact⟨rfl,hw.nil⟩
theorem IB (l:List iQ) (p:Option Addr) (c:Nat) (T H:Int) (b7 b8:Nat) (w:World) (hn:l.length<1000000000000) (hl:RO 2 zU w p l) (h7:fk w ⟨b7,0,none⟩ [.int .i64 T]) (h8:fk w ⟨b8,0,none⟩ [.int .i64 H]) (hT1:0≤T) (hT2:T≤1000000000000) (hH1:0≤H) (hH2:H≤1000000):
 Calls ae 210 #[.slice p l.length c,.func (.func 156) #[] #[.pointer (some ⟨b7,0,none⟩),.pointer (some ⟨b8,0,none⟩)]] w fun e w'=>e= .returned (.int .i64 (Xd (xg T H) l))∧St (bs w) [] w':=by
 refine enter (vs:=[_,_]) (env:=[(0,_),(1,_)]) Tryz.func210 rfl rfl rfl rfl ?_
 refine VC.q (VO.a rfl<|VO.n<|ak<|VC.q (VO.m rfl<|ah (bW Ae (.r rfl) rfl) rfl<|VO.m rfl<|VO.n ?_))
 refine aG<|bY (α:=Nat) 0 (fun gx=>[(8,.int .i64 (gx:Nat))]) [(0,_),(1,_),(7,_)] (fun gx=>[]) (fun gx=>gx≤l.length∧∀k,k<gx→xg T H (l.getD k pO)=false) (fun gx=>l.length-gx) 0 (by exact⟨bG _,fun k hk=>by omega⟩) (.c4 rfl rfl rfl rfl .nil) (fun _ h=>h) ?_
 rintro j ⟨hj,hz⟩
 refine VC.q (VO.t rfl<|VO.n<|ak<|ay rfl (fun h9=>?_) (fun h9=>?_))
 ·
  refine aC (ag<|ak<|aG<|VC.q (VO.m rfl<|VO.a rfl<|VO.n<|ak ?_))
  refine aF (VO.m rfl<|VO.m rfl<|VO.m rfl<|ah (cw Ae Eu hl.sm (.r rfl) (.r rfl) rfl (by omega)) rfl<|ah (aM (vs:=[_,_]) UE (.r rfl) (fun w hw=>bq (off:=0) ((hl.at pO (j:=j) (by omega)) w hw) ⟨_,rfl⟩) rfl) rfl<|ah (LO.wN (first:=[]) (cap:=[_,_]) (xs:=[_]) (vs:=[_]) (.r rfl) ah7 ⟨(.r rfl),trivial⟩ (fun w hw=>I6 (l.getD j pO) T H b7 b8 w (aW h7 w hw) (aW h8 w hw) hT1 hT2 hH1 hH2)) rfl<|VO.n<|ay rfl (fun h16=>?_) (fun h16=>?_))
  ·
   refine VC.q (VO.m rfl<|VO.a rfl<|VO.n<|aP (cI (a8 (a8 (cI (a8 (VE.s rfl rfl (fun w hw=>?_))))))))
   refine⟨?_,hw.nil⟩
   simp only[gF]
   first |rw[IG (by omega) hz h16]|rw[Jm (fun k hk=>hz k (by omega))]
  ·
   refine aC (bB (ag<|aF (VO.p rfl rfl (by omega) (by omega) rfl<|VO.m rfl<|aI<|bn fun a w ha hw=>⟨j+1,⟨by omega,fun k hk=>by by_cases q:k=j;(· subst q;simpa using h16);(· exact hz k (by omega))⟩,(by omega),ha.sub (.c4 rfl rfl rfl rfl .nil),hw⟩)))
 ·
  refine ca (aL (aL (cD (ag<|VC.q (VO.a rfl<|VO.n<|aP (VE.s rfl rfl (fun w hw=>?_)))))))
  refine⟨?_,hw.nil⟩
  simp only[gF]
  first |rw[IG (by omega) hz h16]|rw[Jm (fun k hk=>hz k (by omega))]
theorem Gr (l:List iQ) (p:Option Addr) (c:Nat) (T H:Int) (b7 b8:Nat) (w:World) (hn:l.length<1000000000000) (hh:Has w [own 373 2 p c (l.map zU),de b7 (.cells #[.int .i64 T] 3),de b8 (.cells #[.int .i64 H] 3)]) (hT1:0≤T) (hT2:T≤1000000000000) (hH1:0≤H) (hH2:H≤1000000):
 Calls ae 155 #[.slice p l.length c,.func (.func 156) #[] #[.pointer (some ⟨b7,0,none⟩),.pointer (some ⟨b8,0,none⟩)]] w fun e w'=>∃x:Unit,True∧e= .returned (.slice p (iR T H l).length c)∧St ⟨w,lu [own 373 2 p c (l.map zU),de b7 (.cells #[.int .i64 T] 3),de b8 (.cells #[.int .i64 H] 3)]⟩ [own 373 2 p c ((iR T H l).map zU),de b7 (.cells #[.int .i64 T] 3),de b8 (.cells #[.int .i64 H] 3)] w':=by
 have hlc:l.length≤c:=by have:=(St.inv hh 0 _ rfl).1;rwa [aq]at this
 refine mG (vs:=[_,_]) (env:=[(0,_),(1,_)]) hh.enter Tryz.func155 rfl rfl rfl rfl ?_
 refine VC.q (VO.a rfl<|VO.n<|VC.q (VO.m rfl<|VO.m rfl<|ah (bD (xs:=[_,_]) (vs:=[_,_]) anf ⟨(.r rfl),(.r rfl),trivial⟩ (fun w hw=>IB l p c T H b7 b8 w hn (RO.kg hw 0 rfl) (aX hw 1 rfl ⟨_,rfl⟩) (aX hw 2 rfl ⟨_,rfl⟩) hT1 hT2 hH1 hH2)) rfl<|VO.a rfl<|VO.n<|ak ?_))
 refine VC.q (VO.m rfl<|ah (fN (.r rfl) (.r rfl)) rfl<|VO.n<|ay rfl (fun h12=>?_) (fun h12=>?_))
 ·
  refine VC.q (VO.m rfl<|VO.a rfl<|VO.n<|aP (a8 (VE.s rfl rfl (fun w hw=>?_))))
  first |exact⟨(),trivial,by unfold iR;rw[yB h12];rfl,by unfold iR;rw[yB h12];exact hw.fO [0,1,2] rfl⟩|(have hE:=Pw (f:=xg T H) (by omega) hy1;exact⟨(),trivial,by unfold iR;rw[←hE,dt,Nat.min_eq_left (by omega)];rfl,by unfold iR;rw[←hE,List.map_take];exact hw.fO [0,1,2] rfl⟩)
 ·
  obtain⟨i0,hi0,hil,hit⟩:=Ue h12
  refine aC (ag<|ak<|VC.q (VO.m rfl<|VO.p rfl rfl (by omega) (by omega) rfl<|VO.a rfl<|VO.n<|aG<|bY (α:=Nat×Nat×(List iQ)) 1 (fun gx=>[(5,.int .i64 (gx.1:Nat)),(6,.int .i64 (gx.2.1:Nat))]) [(0,_),(1,_)] (fun gx=>[own 373 2 p c (gx.2.2.map zU)]) (fun gx=>gx.1<gx.2.1∧gx.2.1≤l.length∧gx.2.2.length=l.length∧gx.2.2.take gx.1=(l.take gx.2.1).filter (fun x=> !xg T H x)∧gx.2.2.drop gx.2.1=l.drop gx.2.1) (fun gx=>l.length-gx.2.1) (i0,i0+1,l) (by exact⟨Nat.lt_succ_self _,hil,rfl,hit,rfl⟩) (.cons (congrArg (fun z=>some (bX .i64 z)) hi0) (.cons (congrArg (fun z=>some (bX .i64 z)) (by rw[hi0];rfl)) (.cons rfl (.cons rfl .nil)))) (fun _ h=>h) ?_))
  rintro ⟨i,j,ys⟩ ⟨hij,hj,hyl,hy1,hy2⟩
  show VC _ _ _ _ _ ([(5,.int .i64 (i:Nat)),(6,.int .i64 (j:Nat))]++_) ([own 373 2 p c (ys.map zU)]++_) _ _
  dsimp only at hij hj hyl hy1 hy2
  refine ak<|VC.q (VO.m rfl<|VO.m rfl<|ah (bW Ae (.r rfl) rfl) rfl<|VO.t rfl<|VO.n<|ay rfl (fun h19=>?_) (fun h19=>?_))
  ·
   refine aC (ag<|ak<|aG<|VC.q (VO.m rfl<|VO.m rfl<|ah (LO.wy Ae Eu (fun _ hw=>(dE hw 0 rfl).some (by rw[aq];omega)) (.r rfl) (.r rfl) rfl (by omega)) rfl<|ah (aM (vs:=[_,_]) UE (.r rfl) (fun w hw=>bq (off:=0) (gN hw 0 rfl (getD_some (d:=pO) (by omega))) ⟨_,rfl⟩) rfl) rfl<|aD rfl<|bI (C:=#[_,_]) ZM rfl fun b4=>bU<|bl 0 (vs:=[_,_]) (C':=[_,_]) (L':=[_,_,_,_]) Eu rfl rfl rfl rfl rfl rfl rfl rfl<|VO.n<|ak ?_))
   refine aF (VO.m rfl<|ah (aM (vs:=[_,_]) UE (.r rfl) (ax 0 rfl ⟨_,rfl⟩) rfl) rfl<|ah (LO.wN (first:=[]) (cap:=[_,_]) (xs:=[_]) (vs:=[_]) (.r rfl) ah7 ⟨(.r rfl),trivial⟩ (fun w hw=>I6 (ys.getD j pO) T H b7 b8 w (aX hw 2 rfl ⟨_,rfl⟩) (aX hw 3 rfl ⟨_,rfl⟩) hT1 hT2 hH1 hH2)) rfl<|ah (LO.not (.r rfl)) rfl<|VO.n<|ay rfl (fun h29=>?_) (fun h29=>?_))
   ·
    refine VC.q (VO.m rfl<|VO.m rfl<|ah (aM (vs:=[_,_]) UE (.r rfl) (ax 0 rfl ⟨_,rfl⟩) rfl) rfl<|ah (LO.wy Ae Eu (fun _ hw=>(dE hw 1 rfl).some (by rw[aq];omega)) (.r rfl) (.r rfl) rfl (by omega)) rfl<|bU<|HO.Yc 1 (fun R=>[_,R,_,_]) (o:=0) (vs:=[_,_]) Eu (.r rfl) (.r rfl) rfl (by rw[aw,getD_some (d:=pO) (by omega)];rfl) rfl rfl (Nat.le_of_ble_eq_true rfl) rfl (fun _=>rfl)<|VO.n<|aF (VO.m rfl<|VO.p rfl rfl (by omega) (by omega) rfl<|VO.a rfl<|aI<|bB (ag<|aF (VO.m rfl<|VO.p rfl rfl (by omega) (by omega) rfl<|VO.a rfl<|aI<|bn fun a w ha hw=>⟨(i+1,j+1,ys.set i (ys.getD j pO)),(by have q:=Vv (f:=xg T H) (Nat.le_of_lt hij) (by omega) hyl hy1 hy2 h29;exact⟨by dsimp only;omega,by dsimp only;omega,by dsimp only;rw[List.length_set];exact hyl,q.1,q.2⟩),(by dsimp only;omega),ha.sub (.c4 rfl rfl rfl rfl .nil),(by first |exact hw.fO [1,2,3] rfl|(rw[gR];exact hw.fO [1,2,3] rfl)|(rw[gR];exact hw))⟩))))
   ·
    refine aC (bB (ag<|aF (VO.m rfl<|VO.p rfl rfl (by omega) (by omega) rfl<|VO.a rfl<|aI<|bn fun a w ha hw=>⟨(i,j+1,ys),(by have q:=T9 (f:=xg T H) (by omega) hyl hy1 hy2 (by simpa using h29);exact⟨by dsimp only;omega,by dsimp only;omega,hyl,q.1,q.2⟩),(by dsimp only;omega),ha.sub (.c4 rfl rfl rfl rfl .nil),(by first |exact hw.fO [1,2,3] rfl|(rw[gR];exact hw.fO [1,2,3] rfl)|(rw[gR];exact hw))⟩)))
  ·
   refine ca (aL (aL (cD (ag<|VC.q (VO.m rfl<|VO.m rfl<|ah (LO.sl (l:=i) Ae Eu (.r rfl) (.r rfl) rfl (by omega)) rfl<|bU<|HO.clr 0 i (fun R=>[R,_,_]) Ae ZM rfl rfl (.r rfl) rfl (by rw[aq];omega) (by rw[aq];omega) rfl (fun _=>rfl)<|VO.n<|VC.q (VO.m rfl<|VO.m rfl<|ah (LO.slH (k:=i) Ae Eu (.r rfl) (.r rfl) rfl (by omega)) rfl<|VO.a rfl<|VO.n ?_))))))
   refine aP (VE.s rfl rfl (fun w hw=>?_))
   first |exact⟨(),trivial,by unfold iR;rw[yB h12];rfl,by unfold iR;rw[yB h12];exact hw.fO [0,1,2] rfl⟩|(have hE:=Pw (f:=xg T H) (by omega) hy1;exact⟨(),trivial,by unfold iR;rw[←hE,dt,Nat.min_eq_left (by omega)];rfl,by unfold iR;rw[←hE,List.map_take];exact hw.fO [0,1,2] rfl⟩)
theorem xd:bV ae 232 3 4:=⟨_,_,mD,rfl,rfl,0,by kernel_rfl⟩
theorem Ax:bV ae 226 1 9:=⟨_,_,mE,rfl,rfl,0,by kernel_rfl⟩
theorem Th:ig ae 222:=⟨⟨_,zw,rfl⟩,by kernel_rfl⟩
theorem EI:dF ae 222 228:=zw
theorem vj:bV ae 239 2 2:=⟨_,_,je,rfl,rfl,0,by kernel_rfl⟩
theorem LC:ig ae 99:=⟨⟨_,AR,rfl⟩,by kernel_rfl⟩
theorem tI:bV ae 226 3 11:=⟨_,_,mE,rfl,rfl,0,by kernel_rfl⟩
theorem II:ig ae 223:=⟨⟨_,zx,rfl⟩,by kernel_rfl⟩
theorem wD:dF ae 223 230:=zx
theorem aen:bV ae 239 1 1:=⟨_,_,je,rfl,rfl,0,by kernel_rfl⟩
theorem Tr:bV ae 239 0 0:=⟨_,_,je,rfl,rfl,0,by kernel_rfl⟩
theorem ak1:ed ae 241 [(0,1),(1,1),(2,1),(3,1),(4,1)] [.int .i64 0,.int .i64 0,.int .i64 0,.int .i64 0,.int .i64 0]:=ed.mk fun _=>by kernel_rfl
theorem qn:bV ae 232 4 5:=⟨_,_,mD,rfl,rfl,0,by kernel_rfl⟩
theorem JJ:(ae.info? 230).map (·.size)=some 1:=by kernel_rfl
theorem vo:ig ae 230:=⟨⟨_,Tryz.underlying230,rfl⟩,by kernel_rfl⟩
theorem akZ:cj ae 230 (.pointer none):=by unfold cj;kernel_rfl
theorem amI:jW ae 230 1 8 (.pointer none):=⟨by kernel_rfl,by kernel_rfl,by unfold cj;kernel_rfl,rfl,by decide⟩
theorem alb:(ae.info? 223).map (·.size)=some 1:=by kernel_rfl
theorem Ao:bV ae 241 4 4:=⟨_,_,k9,rfl,rfl,0,by kernel_rfl⟩
theorem NC:bV ae 239 3 3:=⟨_,_,je,rfl,rfl,0,by kernel_rfl⟩
theorem o6:bV ae 241 0 0:=⟨_,_,k9,rfl,rfl,0,by kernel_rfl⟩
theorem MV:bV ae 239 4 4:=⟨_,_,je,rfl,rfl,0,by kernel_rfl⟩
theorem X8:ig ae 103:=⟨⟨_,zy,rfl⟩,by kernel_rfl⟩
theorem Na:jX ae 239 7:=⟨⟨_,je,rfl⟩,by kernel_rfl⟩
theorem EO:dF ae 103 239:=zy
theorem ZD:cj ae 239 (.agg #[.int .i64 0,.int .i64 0,.int .i64 0,.int .i64 0,.int .i64 0,.int .i64 0,.int .i64 0]):=by unfold cj;kernel_rfl
theorem ZN:(ae.info? 239).map (·.size)=some 7:=by kernel_rfl
theorem ae9:jW ae 239 7 56 (.agg #[.int .i64 0,.int .i64 0,.int .i64 0,.int .i64 0,.int .i64 0,.int .i64 0,.int .i64 0]):=⟨by kernel_rfl,by kernel_rfl,by unfold cj;kernel_rfl,rfl,by decide⟩
theorem aem:(ae.info? 103).map (·.size)=some 1:=by kernel_rfl
theorem Aw:bV ae 241 3 3:=⟨_,_,k9,rfl,rfl,0,by kernel_rfl⟩
abbrev jR (b:Nat):Value:=.pointer (some ⟨b,0,none⟩)
def amf (o:Option Nat):Value:=.pointer (o.map fun b=>⟨b,0,none⟩)
def ko (l:List Int):Int:=l.getD (l.length-1) 0
structure jN where
 x:RG
 b:Nat
 i:Nat
 rc:List iQ
 pr:Option Addr
 cr:Nat
 lv:List Int
 pv:Option Addr
 cv:Nat
 op:Option Nat
abbrev jN.C (r:jN):List Value:=[.string r.x.r.name,.slice r.x.px r.x.r.pix.length r.x.cx,.int .i64 r.i,.slice r.pr r.rc.length r.cr,.slice r.pv r.lv.length r.cv,amf r.op]
abbrev jN.de (r:jN):cq:=HM r.b (.cells r.C.toArray 232)
abbrev jN.LH (r:jN):cq:=own 373 2 r.pr r.cr (r.rc.map zU)
abbrev jN.Ps (r:jN):cq:=own 3 1 r.pv r.cv (r.lv.map iC)
structure iW where
 b:Nat
 nm:Int
 rg:Int
 bg:Int
 en:Int
 pk:Int
abbrev iW.C (c:iW):List Value:=[.int .i64 c.nm,.int .i64 c.rg,.int .i64 c.bg,.int .i64 c.en,.int .i64 c.pk]
abbrev iW.de (c:iW):cq:=HM c.b (.cells c.C.toArray 241)
def Wb (c:iW):List Value:=[jR c.b]
def XV (r:jN):List Value:=[jR r.b]
structure Ev where
 t:Int
 rg:Int
 kd:Int
 lv:Int
 nm:Int
 ld:Int
 px:Int
def zP (x:Ev):List Value:=[.int .i64 x.t,.int .i64 x.rg,.int .i64 x.kd,.int .i64 x.lv,.int .i64 x.nm,.int .i64 x.ld,.int .i64 x.px]
inductive pD where
 |st (t:Int) (p:Option Addr) (c:Nat) (l:List CP)
 |nt (t:Int) (g:cU) (p:Option Addr) (c:Nat) (vs:List Span) (lv:Int)
def pD.val:pD→List Value
 | .st t p c l=>[.iface 237 (.agg #[.int .i64 t,.slice p l.length c])]
 | .nt t g p c vs lv=>[.iface 250 (.agg #[.int .i64 t,.int .i64 g.x,.int .i64 g.y,.int .i64 g.size,.int .i64 g.wide,.int .i64 g.high,.slice p vs.length c,.int .i64 lv])]
def cpR (x:CP):List cq:=[own 3 1 x.ps x.cs (x.c.sure.map iC),own 3 1 x.pm x.cm (x.c.may.map iC)]
def pD.res:pD→List cq
 | .st _ p c l=>[own 218 7 p c (l.map CP.cells),bS (l.flatMap cpR)]
 | .nt _ _ p c vs _=>[own 25 2 p c (vs.map Span.cells)]
structure iG where
 b:Nat
 g:cU
 rg:List RG
 pg:Option Addr
 cg:Nat
 lead:Int
 step:Int
 hold:Int
 rc:List jN
 pc:Option Addr
 cc:Nat
 ts:List Int
 pt:Option Addr
 ct:Nat
 cs:List iW
 pk:Option Addr
 ck:Nat
 lg:List pD
 pl:Option Addr
 cl:Nat
abbrev iG.C (o:iG):List Value:=[.int .i64 o.g.x,.int .i64 o.g.y,.int .i64 o.g.size,.int .i64 o.g.wide,.int .i64 o.g.high,.slice o.pg o.rg.length o.cg,.int .i64 o.lead,.int .i64 o.step,.int .i64 o.hold,.slice o.pc o.rc.length o.cc,.slice o.pt o.ts.length o.ct,.slice o.pk o.cs.length o.ck,.slice o.pl o.lg.length o.cl]
abbrev iG.de (o:iG):cq:=HM o.b (.cells o.C.toArray 226)
abbrev iG.Lz (o:iG):cq:=own 230 1 o.pk o.ck (o.cs.map Wb)
abbrev iG.Uo (o:iG):cq:=bS (o.cs.map iW.de)
def Vm (cs:List iW) (op:Option Nat) (x:Ev) (cs':List iW) (op':Option Nat) (x':Ev):Prop:=
 (x.kd=1∧∃b,op'=some b∧cs'=cs++[⟨b,cs.length+1,x.rg,x.t,1099511627776,max 0 x.lv⟩]∧x'={ x with nm:=cs.length+1 })∨
 (x.kd≠1∧∃(k:Nat) (c:iW),cs[k]? =some c∧op=some c.b∧op'=op∧cs'=cs.set k { c with en:=if x.kd=2 then x.t else c.en,pk:=max c.pk x.lv }∧x'={ x with nm:=c.nm })
theorem St.nq {β:Bs} {L Rs:List cq} {r:cq} {w:World} (h:St β (r::bS Rs::L) w):St β (bS (Rs++[r])::L) w:=St.vR (A:=Rs) (B:=[]) (by rw[List.append_nil];exact h)
theorem St.aiz {β:Bs} {L:List cq} {cs:List iW} {c:iW} {w:World} (h:St β (iW.de c::bS (cs.map iW.de)::L) w):St β (bS ((cs++[c]).map iW.de)::L) w:=by rw[bj];exact St.nq h
theorem LO.amM {P:Program} {β:Bs} {env:Env} {L:List cq} {d:Option Nat} {ty:TypeId} {pos:String} {aft:Array Edge} {g:Option (Nat×Bool)} {T T2:TypeId} {x y:Operand} {p:Addr} (hT:∃E,P.underlying T=some (.pointer E)) (hx:OV env x (.pointer (some p))) (hy:OV env y (.pointer none)):
  LO P β env L ⟨d,.binOp .eql T x y T2,ty,pos,aft,g⟩ (.bool false):=
 .ee fun a w h hw=>⟨w,by
  obtain⟨E,hE⟩:=hT
  have key:(gP Op.maxDepth T (.pointer (some p)) (.pointer none)).run P w= .ok false w:=by
   show(gP (9999+1) T (.pointer (some p)) (.pointer none)).run P w=_
   unfold Op.equalIn
   rw[Sem.run_bind,run_underlying hE]
   rfl
  simp only[execOp,h x (by simp [az]) _ hx,h y (by simp [az]) _ hy,eqGuard,binOp,Op.equal,Sem.run_bind,Sem.run_pure,bw,key,Bool.not_true,Bool.false_eq_true,if_false],hw⟩
theorem Ph (r:jN) (w:World) (hn:r.lv.length<1000000000000) (h:fk w ⟨r.b,0,none⟩ r.C) (hl:RO 1 iC w r.pv r.lv):
 Calls ae 82 #[jR r.b] w fun e w'=>e= .returned (.int .i64 (ko r.lv))∧St (bs w) [] w':=by
 refine enter (vs:=[_]) (env:=[(0,_)]) Tryz.func82 rfl rfl rfl rfl ?_
 refine VC.q (VO.a rfl<|VO.n<|ak<|VC.q (VO.m rfl<|ah (bH (.r rfl)) rfl<|VO.f (r:=4) xd rfl<|ah (aB ij (.r rfl) (aW (aU (off:=4) h ⟨_,rfl⟩))) rfl<|ah (bW ei (.r rfl) rfl) rfl<|ah (fN (.r rfl) (.r rfl)) rfl<|VO.n ?_))
 refine ay rfl (fun h8=>?_) (fun h8=>?_)
 ·
  refine VC.q (VO.a rfl<|VO.n<|aP (a8 (VE.s rfl rfl (fun w hw=>?_))))
  refine⟨?_,hw.nil⟩
  simp only[gF]
  first |rfl|(unfold ko;rw[av,aH (by omega)];rfl)
 ·
  refine aC (ag<|ak<|eH mixed (LL.m rfl<|aV (bH (.r rfl)) rfl<|aV (aE (r:=4) xd (.r rfl) rfl) rfl<|aV (aB ij (.r rfl) (aW (aU (off:=4) h ⟨_,rfl⟩))) rfl<|LL.m rfl<|aV (bH (.r rfl)) rfl<|aV (aE (r:=4) xd (.r rfl) rfl) rfl<|aV (aB ij (.r rfl) (aW (aU (off:=4) h ⟨_,rfl⟩))) rfl<|aV (bW ei (.r rfl) rfl) rfl<|aV (dv (.r rfl) (.r rfl) (wi (by omega) (by omega))) rfl<|aV (cw ei N3 hl.sm (.r rfl) (.r rfl) (by omega) (by omega)) rfl<|aV (aB O3 (.r rfl) (fun w hw=>bq (off:=0) ((hl.at 0 (j:=(r.lv.length-1)) (by omega)) w hw) ⟨_,rfl⟩)) rfl<|aV (LO.as (.r rfl)) rfl<|LL.nil) (by kernel_rfl)<|ag<|aP (VE.s rfl rfl (fun w hw=>?_)))
  refine⟨?_,hw.nil⟩
  simp only[gF]
  first |rfl|(unfold ko;rw[av,aH (by omega)];rfl)
theorem sH (o:iG) (w:World) (hn:o.rc.length<1000000000000) (h:fk w ⟨o.b,0,none⟩ o.C):
 Calls ae 72 #[jR o.b] w fun e w'=>e= .returned (.bool (decide ((o.rc.length:Int)=0)))∧St (bs w) [] w':=by
 refine enter (vs:=[_]) (env:=[(0,_)]) Tryz.func72 rfl rfl rfl rfl ?_
 refine VC.q (VO.a rfl<|VO.n<|VC.q (VO.m rfl<|ah (LO.amM ⟨_,AR⟩ (.r rfl) (.r rfl)) rfl<|VO.m rfl<|VO.gf rfl (fun hg=>bJ (.r rfl))<|VO.gf rfl (fun hg=>bH (.g hg rfl))<|VO.gf rfl (fun hg=>aE (r:=9) Ax (.g hg rfl) rfl)<|VO.gf rfl (fun hg=>aB Th (.g hg rfl) (aW (aU (off:=9) h ⟨_,rfl⟩)))<|VO.gf rfl (fun hg=>bW EI (.g hg rfl) rfl)<|VO.gf rfl (fun hg=>fN (.g hg rfl) (.r rfl))<|ah (LO.qh (.r rfl) (.r rfl) rfl rfl) rfl<|VO.a rfl<|VO.n<|aP (VE.s rfl rfl (fun w hw=>?_))))
 exact⟨rfl,hw.nil⟩
theorem acU (o:iG) (r:jN) (x:Ev) (es:List Ev) (pe:Option Addr) (ce bo bu:Nat) (w:World) (hcs:o.cs.length<1000000) (hes:es.length<1000000) (hk:x.kd=1) (hh:Has w [de bo (.cells #[jR o.b] 99),de bu (.cells #[.slice pe es.length ce] 103),own 239 7 pe ce (es.map zP),o.de,o.Lz,o.Uo,r.de]):
 Calls ae 76 #[.agg (zP x).toArray,jR r.b,jR bo,jR bu] w fun e w'=>∃y:Nat×(Option Addr×Nat)×(Option Addr×Nat),True∧e= .returned (.tuple #[])∧St ⟨w,lu [de bo (.cells #[jR o.b] 99),de bu (.cells #[.slice pe es.length ce] 103),own 239 7 pe ce (es.map zP),o.de,o.Lz,o.Uo,r.de]⟩ [de bo (.cells #[jR o.b] 99),de bu (.cells #[.slice y.2.2.1 (es++[{ x with nm:=o.cs.length+1 }]).length y.2.2.2] 103),own 239 7 y.2.2.1 y.2.2.2 ((es++[{ x with nm:=o.cs.length+1 }]).map zP),iG.de { o with cs:=o.cs++[iW.mk y.1 (o.cs.length+1) x.rg x.t 1099511627776 (max 0 x.lv)],pk:=y.2.1.1,ck:=y.2.1.2 },own 230 1 y.2.1.1 y.2.1.2 ((o.cs++[iW.mk y.1 (o.cs.length+1) x.rg x.t 1099511627776 (max 0 x.lv)]).map Wb),bS ((o.cs++[iW.mk y.1 (o.cs.length+1) x.rg x.t 1099511627776 (max 0 x.lv)]).map iW.de),jN.de { r with op:=some y.1 }] w':=by
 refine mG (vs:=[_,_,_,_]) (env:=[(0,_),(1,_),(2,_),(3,_)]) hh.enter Tryz.func76 rfl rfl rfl rfl ?_
 refine VC.q (aD rfl<|cf (C:=#[_,_,_,_,_,_,_]) rfl rfl fun b8=>VO.n<|ak<|VC.q (VO.f (r:=2) vj rfl<|VO.c 0 O3 rfl rfl ⟨_,rfl⟩ rfl<|ah (fN (.r rfl) (.r rfl)) rfl<|VO.n ?_))
 refine ay rfl (fun h8=>?_) (fun h8=>?_)
 ·
  refine ak<|cP [[0,1,2,3,4,5,6,7],[0,1,2,3,4,5,6,7],[0,1,2,3,4,5,6]] [some 1,some 0,some 0,some 0,some 0,some 0,some 0,some 0,some 0,some 0,some 0,some 0,none,some 1,some 1,none] mixed (by kernel_rfl) rfl (LX.m rfl<|aA (fun _ hJ=>aB LC (.r rfl) (fun _ hw=>aX (hJ _ hw) 1 rfl ⟨_,rfl⟩)) rfl<|aA (fun _ hJ=>bH (.r rfl)) rfl<|aA (fun _ hJ=>aE (r:=11) tI (.r rfl) rfl) rfl<|aA (fun _ hJ=>aB II (.r rfl) (fun _ hw=>aX (hJ _ hw) 4 rfl ⟨_,rfl⟩)) rfl<|aA (fun _ hJ=>bW wD (.r rfl) rfl) rfl<|aA (fun _ hJ=>LO.add (.r rfl) (.r rfl) (wi (by omega) (by omega))) rfl<|aA (fun _ hJ=>aE (r:=1) aen (.r rfl) rfl) rfl<|aA (fun _ hJ=>aB O3 (.r rfl) (fun _ hw=>aX (hJ _ hw) 0 rfl ⟨_,rfl⟩)) rfl<|aA (fun _ hJ=>aE (r:=0) Tr (.r rfl) rfl) rfl<|aA (fun _ hJ=>aB O3 (.r rfl) (fun _ hw=>aX (hJ _ hw) 0 rfl ⟨_,rfl⟩)) rfl<|aA (fun _ hJ=>LO.bd (ps:=[(_,_),(_,_),(_,_),(_,_)]) (vs:=[(_,_),(_,_),(_,_),(_,_)]) (C:=[_,_,_,_,_]) ak1 ⟨(.r rfl),(.r rfl),(.r rfl),(.r rfl),trivial⟩ rfl ⟨_,[_],[_,_,_,_,_],rfl,rfl,rfl,rfl,⟨_,[_],[_,_,_,_,_],rfl,rfl,rfl,rfl,⟨_,[_],[_,_,_,_,_],rfl,rfl,rfl,rfl,⟨_,[_],[_,_,_,_,_],rfl,rfl,rfl,rfl,rfl⟩⟩⟩⟩) rfl<|cn<|aA (fun _ hJ=>bH (.r rfl)) rfl<|aA (fun _ hJ=>aE (r:=5) qn (.r rfl) rfl) rfl<|cn<|dw) (au<|au<|au<|au<|au<|au<|au<|au<|au<|au<|au<|au<|HX.h rfl<|cf (C:=#[_,_,_,_,_]) rfl rfl fun b11=>⟨gM (L1:=[_,_,_,_,_,_,_,_]) [1,2,3,4,5,6,7,8] rfl rfl rfl,au<|au<|eW<|bl 8 (vs:=[_]) (C':=[_,_,_,_,_,_]) (L':=[_,_,_,_,_,_,_,_,_]) JJ rfl rfl rfl rfl rfl rfl rfl rfl<|⟨gM (L1:=[_,_,_,_,_,_,_]) [1,2,3,4,5,6,7] rfl rfl rfl,dS ?_⟩⟩)
  refine ag<|cP [[0,1,2,3,4,5,6,7,8],[0,1,2,3,4,5,6,7,8],[0,1,2,3,4,5,7,8],[0,1,2,3,4,7,8]] [some 2,some 1,some 1,some 1,some 1,some 0,some 0,some 0,some 0,none,none,some 2,some 2,none] mixed (by kernel_rfl) rfl (aA (fun _ hJ=>aB LC (.r rfl) (fun _ hw=>aX (hJ _ hw) 2 rfl ⟨_,rfl⟩)) rfl<|aA (fun _ hJ=>aB LC (.r rfl) (fun _ hw=>aX (hJ _ hw) 2 rfl ⟨_,rfl⟩)) rfl<|aA (fun _ hJ=>bH (.r rfl)) rfl<|aA (fun _ hJ=>aE (r:=11) tI (.r rfl) rfl) rfl<|aA (fun _ hJ=>aB II (.r rfl) (fun _ hw=>aX (hJ _ hw) 5 rfl ⟨_,rfl⟩)) rfl<|LX.m rfl<|aA (fun _ hJ=>bH (.r rfl)) rfl<|aA (fun _ hJ=>aE (r:=5) qn (.r rfl) rfl) rfl<|aA (fun _ hJ=>aB vo (.r rfl) (fun _ hw=>aX (hJ _ hw) 8 rfl ⟨_,rfl⟩)) rfl<|cn<|cn<|aA (fun _ hJ=>bH (.r rfl)) rfl<|aA (fun _ hJ=>aE (r:=11) tI (.r rfl) rfl) rfl<|cn<|dw) (au<|au<|au<|au<|au<|au<|au<|au<|au<|HX.h rfl<|HO.bs (ps:=[(_,_)]) (vs:=[(_,_)]) (Z:=[_]) (C:=[_]) wD akZ JJ ⟨(.r rfl),trivial⟩ rfl rfl rfl rfl ⟨_,[_],[_],rfl,rfl,rfl,rfl,rfl⟩ fun b15=>⟨gM (L1:=[_,_,_,_,_,_,_,_,_]) [1,2,3,4,5,6,7,8,9] rfl rfl rfl,HX.h rfl<|HO.kT ((iW.mk b11 ((o.cs.length:Int)+1) x.rg x.t 1099511627776 (max 0 x.lv))) 7 0 (fun R=>[_,_,_,_,_,_,_,R,_,_]) wD wD amI (.r rfl) (.r rfl) rfl rfl rfl rfl rfl rfl rfl (fun _=>rfl) rfl (by omega) fun p10 c10=>⟨gM (L1:=[_,_,_,_,_,_,_,_]) [1,2,3,4,5,6,8,9] rfl rfl rfl,au<|au<|eW<|bl 6 (vs:=[_]) (C':=[_,_,_,_,_,_,_,_,_,_,_,_,_]) (L':=[_,_,_,_,_,_,_,_,_,_]) alb rfl rfl rfl rfl rfl rfl rfl rfl<|⟨gM (L1:=[_,_,_,_,_,_,_]) [1,2,3,4,5,8,9] rfl rfl rfl,dS ?_⟩⟩⟩)
  refine ag<|ak<|VC.q (VO.f (r:=2) vj rfl<|VO.c 2 O3 rfl rfl ⟨_,rfl⟩ rfl<|ah (fN (.r rfl) (.r rfl)) rfl<|VO.n<|ay rfl (fun h39=>?_) (fun h39=>?_))
  · (exfalso;omega)
  ·
   refine aC (ag<|ak<|cP [[0,1,2,3,4,5,6,7,8,9],[0,2,3,4,5,6,7,8,9]] [some 0,some 0,some 0,some 0,some 0,some 0,some 0,some 0,some 0,some 0,some 0,some 0,some 0,some 0,some 0,some 0,none] mixed (by kernel_rfl) rfl (LX.m rfl<|aA (fun _ hJ=>bH (.r rfl)) rfl<|aA (fun _ hJ=>aE (r:=5) qn (.r rfl) rfl) rfl<|aA (fun _ hJ=>aB vo (.r rfl) (fun _ hw=>aX (hJ _ hw) 9 rfl ⟨_,rfl⟩)) rfl<|LX.m rfl<|aA (fun _ hJ=>bH (.r rfl)) rfl<|aA (fun _ hJ=>aE (r:=5) qn (.r rfl) rfl) rfl<|aA (fun _ hJ=>aB vo (.r rfl) (fun _ hw=>aX (hJ _ hw) 9 rfl ⟨_,rfl⟩)) rfl<|aA (fun _ hJ=>bH (.r rfl)) rfl<|aA (fun _ hJ=>aE (r:=4) Ao (.r rfl) rfl) rfl<|aA (fun _ hJ=>aB O3 (.r rfl) (fun _ hw=>aX (hJ _ hw) 1 rfl ⟨_,rfl⟩)) rfl<|aA (fun _ hJ=>aE (r:=3) NC (.r rfl) rfl) rfl<|aA (fun _ hJ=>aB O3 (.r rfl) (fun _ hw=>aX (hJ _ hw) 2 rfl ⟨_,rfl⟩)) rfl<|aA (fun _ hJ=>LO.max (.r rfl) (.r rfl)) rfl<|aA (fun _ hJ=>bH (.r rfl)) rfl<|aA (fun _ hJ=>aE (r:=4) Ao (.r rfl) rfl) rfl<|cn<|dw) (au<|au<|au<|au<|au<|au<|au<|au<|au<|au<|au<|au<|au<|au<|au<|au<|eW<|bl 1 (vs:=[_]) (C':=[_,_,_,_,_]) (L':=[_,_,_,_,_,_,_,_,_,_]) N3 rfl rfl rfl rfl rfl rfl rfl rfl<|⟨gM (L1:=[_,_,_,_,_,_,_,_,_]) [0,2,3,4,5,6,7,8,9] rfl rfl rfl,dS ?_⟩))
   refine ag<|VC.q (VO.m rfl<|ah (bH (.r rfl)) rfl<|VO.f (r:=5) qn rfl<|VO.c 9 vo rfl rfl ⟨_,rfl⟩ rfl<|ah (bH (.r rfl)) rfl<|VO.f (r:=0) o6 rfl<|VO.c 1 O3 rfl rfl ⟨_,rfl⟩ rfl<|VO.f (r:=4) MV rfl<|bU<|bl 2 (vs:=[_]) (C':=[_,_,_,_,_,_,_]) (L':=[_,_,_,_,_,_,_,_,_,_]) N3 rfl rfl rfl rfl rfl rfl rfl rfl<|VO.n<|aF (VO.c 4 X8 rfl rfl ⟨_,rfl⟩ rfl<|ah (aM (vs:=[_,_,_,_,_,_,_]) Na (.r rfl) (ax 2 rfl ⟨_,rfl⟩) rfl) rfl<|aD rfl<|HO.bs (ps:=[(_,_)]) (vs:=[(_,_)]) (Z:=[_,_,_,_,_,_,_]) (C:=[_,_,_,_,_,_,_]) EO ZD ZN ⟨(.r rfl),trivial⟩ rfl rfl rfl rfl ⟨_,[_,_,_,_,_,_,_],[_,_,_,_,_,_,_],rfl,rfl,rfl,rfl,rfl⟩ fun b20=>aD rfl<|HO.kT ((Ev.mk x.t x.rg x.kd x.lv ((o.cs.length:Int)+1) x.ld x.px)) 6 0 (fun R=>[_,_,_,_,_,_,R,_,_,_,_]) EO EO ae9 (.r rfl) (.r rfl) rfl rfl rfl rfl rfl rfl rfl (fun _=>rfl) rfl (by omega) fun p3 c3=>bU<|bl 5 (vs:=[_]) (C':=[_]) (L':=[_,_,_,_,_,_,_,_,_,_,_]) aem rfl rfl rfl rfl rfl rfl rfl rfl<|aI<|VE.xf (vs:=[]) rfl trivial (fun w hw=>?_)))
   exact⟨(b11,(p10,c10),(p3,c3)),trivial,rfl,(St.aiz (c:=iW.mk b11 ((o.cs.length:Int)+1) x.rg x.t 1099511627776 (max 0 x.lv)) (bM (L1:=[_,_]++[_,_,_,_,_,_]) [2,9,4,5,6,7,8,10] rfl rfl _ hw)).fO [1,2,3,4,5,0,6] rfl⟩
 · (exfalso;exact h8 hk)
theorem adQ (o:iG) (r:jN) (x:Ev) (es:List Ev) (pe:Option Addr) (ce bo bu:Nat) (w:World) (hcs:o.cs.length<1000000) (hes:es.length<1000000) (c:iW) (Rs:List cq) (hk:¬x.kd=1) (hh:Has w [de bo (.cells #[jR o.b] 99),de bu (.cells #[.slice pe es.length ce] 103),own 239 7 pe ce (es.map zP),o.de,o.Lz,c.de,bS Rs,jN.de { r with op:=some c.b }]):
 Calls ae 76 #[.agg (zP x).toArray,jR r.b,jR bo,jR bu] w fun e w'=>∃y:Option Addr×Nat,True∧e= .returned (.tuple #[])∧St ⟨w,lu [de bo (.cells #[jR o.b] 99),de bu (.cells #[.slice pe es.length ce] 103),own 239 7 pe ce (es.map zP),o.de,o.Lz,c.de,bS Rs,jN.de { r with op:=some c.b }]⟩ [de bo (.cells #[jR o.b] 99),de bu (.cells #[.slice y.1 (es++[{ x with nm:=c.nm }]).length y.2] 103),own 239 7 y.1 y.2 ((es++[{ x with nm:=c.nm }]).map zP),o.de,o.Lz,iW.de { c with en:=if x.kd=2 then x.t else c.en,pk:=max c.pk x.lv },bS Rs,jN.de { r with op:=some c.b }] w':=by
 refine mG (vs:=[_,_,_,_]) (env:=[(0,_),(1,_),(2,_),(3,_)]) hh.enter Tryz.func76 rfl rfl rfl rfl ?_
 refine VC.q (aD rfl<|cf (C:=#[_,_,_,_,_,_,_]) rfl rfl fun b9=>VO.n<|ak<|VC.q (VO.f (r:=2) vj rfl<|VO.c 0 O3 rfl rfl ⟨_,rfl⟩ rfl<|ah (fN (.r rfl) (.r rfl)) rfl<|VO.n ?_))
 refine ay rfl (fun h8=>?_) (fun h8=>?_)
 · (exfalso;exact hk h8)
 ·
  refine aC (ag<|ak<|VC.q (VO.f (r:=2) vj rfl<|VO.c 0 O3 rfl rfl ⟨_,rfl⟩ rfl<|ah (fN (.r rfl) (.r rfl)) rfl<|VO.n<|ay rfl (fun h39=>?_) (fun h39=>?_)))
  ·
   refine cP [[0,1,2,3,4,5,6,7,8],[0,1,2,3,4,5,7,8]] [some 0,some 0,some 0,some 0,some 0,some 0,some 0,some 0,none] mixed (by kernel_rfl) rfl (LX.m rfl<|aA (fun _ hJ=>bH (.r rfl)) rfl<|aA (fun _ hJ=>aE (r:=5) qn (.r rfl) rfl) rfl<|aA (fun _ hJ=>aB vo (.r rfl) (fun _ hw=>aX (hJ _ hw) 8 rfl ⟨_,rfl⟩)) rfl<|aA (fun _ hJ=>aE (r:=0) Tr (.r rfl) rfl) rfl<|aA (fun _ hJ=>aB O3 (.r rfl) (fun _ hw=>aX (hJ _ hw) 0 rfl ⟨_,rfl⟩)) rfl<|aA (fun _ hJ=>bH (.r rfl)) rfl<|aA (fun _ hJ=>aE (r:=3) Aw (.r rfl) rfl) rfl<|cn<|dw) (au<|au<|au<|au<|au<|au<|au<|au<|eW<|bl 6 (vs:=[_]) (C':=[_,_,_,_,_]) (L':=[_,_,_,_,_,_,_,_,_]) N3 rfl rfl rfl rfl rfl rfl rfl rfl<|⟨gM (L1:=[_,_,_,_,_,_,_,_]) [0,1,2,3,4,5,7,8] rfl rfl rfl,dS ?_⟩)
   refine ag<|ak<|cP [[0,1,2,3,4,5,6,7,8],[0,1,2,3,4,5,7,8]] [some 0,some 0,some 0,some 0,some 0,some 0,some 0,some 0,some 0,some 0,some 0,some 0,some 0,some 0,some 0,some 0,none] mixed (by kernel_rfl) rfl (LX.m rfl<|aA (fun _ hJ=>bH (.r rfl)) rfl<|aA (fun _ hJ=>aE (r:=5) qn (.r rfl) rfl) rfl<|aA (fun _ hJ=>aB vo (.r rfl) (fun _ hw=>aX (hJ _ hw) 8 rfl ⟨_,rfl⟩)) rfl<|LX.m rfl<|aA (fun _ hJ=>bH (.r rfl)) rfl<|aA (fun _ hJ=>aE (r:=5) qn (.r rfl) rfl) rfl<|aA (fun _ hJ=>aB vo (.r rfl) (fun _ hw=>aX (hJ _ hw) 8 rfl ⟨_,rfl⟩)) rfl<|aA (fun _ hJ=>bH (.r rfl)) rfl<|aA (fun _ hJ=>aE (r:=4) Ao (.r rfl) rfl) rfl<|aA (fun _ hJ=>aB O3 (.r rfl) (fun _ hw=>aX (hJ _ hw) 6 rfl ⟨_,rfl⟩)) rfl<|aA (fun _ hJ=>aE (r:=3) NC (.r rfl) rfl) rfl<|aA (fun _ hJ=>aB O3 (.r rfl) (fun _ hw=>aX (hJ _ hw) 0 rfl ⟨_,rfl⟩)) rfl<|aA (fun _ hJ=>LO.max (.r rfl) (.r rfl)) rfl<|aA (fun _ hJ=>bH (.r rfl)) rfl<|aA (fun _ hJ=>aE (r:=4) Ao (.r rfl) rfl) rfl<|cn<|dw) (au<|au<|au<|au<|au<|au<|au<|au<|au<|au<|au<|au<|au<|au<|au<|au<|eW<|bl 6 (vs:=[_]) (C':=[_,_,_,_,_]) (L':=[_,_,_,_,_,_,_,_,_]) N3 rfl rfl rfl rfl rfl rfl rfl rfl<|⟨gM (L1:=[_,_,_,_,_,_,_,_]) [0,1,2,3,4,5,7,8] rfl rfl rfl,dS ?_⟩)
   refine ag<|VC.q (VO.m rfl<|ah (bH (.r rfl)) rfl<|VO.f (r:=5) qn rfl<|VO.c 8 vo rfl rfl ⟨_,rfl⟩ rfl<|ah (bH (.r rfl)) rfl<|VO.f (r:=0) o6 rfl<|VO.c 6 O3 rfl rfl ⟨_,rfl⟩ rfl<|VO.f (r:=4) MV rfl<|bU<|bl 0 (vs:=[_]) (C':=[_,_,_,_,_,_,_]) (L':=[_,_,_,_,_,_,_,_,_]) N3 rfl rfl rfl rfl rfl rfl rfl rfl<|VO.n<|aF (VO.c 2 X8 rfl rfl ⟨_,rfl⟩ rfl<|ah (aM (vs:=[_,_,_,_,_,_,_]) Na (.r rfl) (ax 0 rfl ⟨_,rfl⟩) rfl) rfl<|aD rfl<|HO.bs (ps:=[(_,_)]) (vs:=[(_,_)]) (Z:=[_,_,_,_,_,_,_]) (C:=[_,_,_,_,_,_,_]) EO ZD ZN ⟨(.r rfl),trivial⟩ rfl rfl rfl rfl ⟨_,[_,_,_,_,_,_,_],[_,_,_,_,_,_,_],rfl,rfl,rfl,rfl,rfl⟩ fun b15=>aD rfl<|HO.kT ((Ev.mk x.t x.rg x.kd x.lv c.nm x.ld x.px)) 4 0 (fun R=>[_,_,_,_,R,_,_,_,_,_]) EO EO ae9 (.r rfl) (.r rfl) rfl rfl rfl rfl rfl rfl rfl (fun _=>rfl) rfl (by omega) fun p3 c3=>bU<|bl 3 (vs:=[_]) (C':=[_]) (L':=[_,_,_,_,_,_,_,_,_,_]) aem rfl rfl rfl rfl rfl rfl rfl rfl<|aI<|VE.xf (vs:=[]) rfl trivial (fun w hw=>?_)))
   exact⟨(p3,c3),trivial,rfl,by first |(rw[if_pos h39];exact bM (L1:=[_,_,_,_,_,_,_,_]) [2,3,4,5,6,7,8,9] rfl rfl _ hw)|(rw[if_neg h39];exact bM (L1:=[_,_,_,_,_,_,_,_]) [2,3,4,5,6,7,8,9] rfl rfl _ hw)⟩
  ·
   refine aC (ag<|ak<|cP [[0,1,2,3,4,5,6,7,8],[0,1,2,3,4,5,7,8]] [some 0,some 0,some 0,some 0,some 0,some 0,some 0,some 0,some 0,some 0,some 0,some 0,some 0,some 0,some 0,some 0,none] mixed (by kernel_rfl) rfl (LX.m rfl<|aA (fun _ hJ=>bH (.r rfl)) rfl<|aA (fun _ hJ=>aE (r:=5) qn (.r rfl) rfl) rfl<|aA (fun _ hJ=>aB vo (.r rfl) (fun _ hw=>aX (hJ _ hw) 8 rfl ⟨_,rfl⟩)) rfl<|LX.m rfl<|aA (fun _ hJ=>bH (.r rfl)) rfl<|aA (fun _ hJ=>aE (r:=5) qn (.r rfl) rfl) rfl<|aA (fun _ hJ=>aB vo (.r rfl) (fun _ hw=>aX (hJ _ hw) 8 rfl ⟨_,rfl⟩)) rfl<|aA (fun _ hJ=>bH (.r rfl)) rfl<|aA (fun _ hJ=>aE (r:=4) Ao (.r rfl) rfl) rfl<|aA (fun _ hJ=>aB O3 (.r rfl) (fun _ hw=>aX (hJ _ hw) 6 rfl ⟨_,rfl⟩)) rfl<|aA (fun _ hJ=>aE (r:=3) NC (.r rfl) rfl) rfl<|aA (fun _ hJ=>aB O3 (.r rfl) (fun _ hw=>aX (hJ _ hw) 0 rfl ⟨_,rfl⟩)) rfl<|aA (fun _ hJ=>LO.max (.r rfl) (.r rfl)) rfl<|aA (fun _ hJ=>bH (.r rfl)) rfl<|aA (fun _ hJ=>aE (r:=4) Ao (.r rfl) rfl) rfl<|cn<|dw) (au<|au<|au<|au<|au<|au<|au<|au<|au<|au<|au<|au<|au<|au<|au<|au<|eW<|bl 6 (vs:=[_]) (C':=[_,_,_,_,_]) (L':=[_,_,_,_,_,_,_,_,_]) N3 rfl rfl rfl rfl rfl rfl rfl rfl<|⟨gM (L1:=[_,_,_,_,_,_,_,_]) [0,1,2,3,4,5,7,8] rfl rfl rfl,dS ?_⟩))
   refine ag<|VC.q (VO.m rfl<|ah (bH (.r rfl)) rfl<|VO.f (r:=5) qn rfl<|VO.c 8 vo rfl rfl ⟨_,rfl⟩ rfl<|ah (bH (.r rfl)) rfl<|VO.f (r:=0) o6 rfl<|VO.c 6 O3 rfl rfl ⟨_,rfl⟩ rfl<|VO.f (r:=4) MV rfl<|bU<|bl 0 (vs:=[_]) (C':=[_,_,_,_,_,_,_]) (L':=[_,_,_,_,_,_,_,_,_]) N3 rfl rfl rfl rfl rfl rfl rfl rfl<|VO.n<|aF (VO.c 2 X8 rfl rfl ⟨_,rfl⟩ rfl<|ah (aM (vs:=[_,_,_,_,_,_,_]) Na (.r rfl) (ax 0 rfl ⟨_,rfl⟩) rfl) rfl<|aD rfl<|HO.bs (ps:=[(_,_)]) (vs:=[(_,_)]) (Z:=[_,_,_,_,_,_,_]) (C:=[_,_,_,_,_,_,_]) EO ZD ZN ⟨(.r rfl),trivial⟩ rfl rfl rfl rfl ⟨_,[_,_,_,_,_,_,_],[_,_,_,_,_,_,_],rfl,rfl,rfl,rfl,rfl⟩ fun b20=>aD rfl<|HO.kT ((Ev.mk x.t x.rg x.kd x.lv c.nm x.ld x.px)) 4 0 (fun R=>[_,_,_,_,R,_,_,_,_,_]) EO EO ae9 (.r rfl) (.r rfl) rfl rfl rfl rfl rfl rfl rfl (fun _=>rfl) rfl (by omega) fun p3 c3=>bU<|bl 3 (vs:=[_]) (C':=[_]) (L':=[_,_,_,_,_,_,_,_,_,_]) aem rfl rfl rfl rfl rfl rfl rfl rfl<|aI<|VE.xf (vs:=[]) rfl trivial (fun w hw=>?_)))
   exact⟨(p3,c3),trivial,rfl,by first |(rw[if_pos h39];exact bM (L1:=[_,_,_,_,_,_,_,_]) [2,3,4,5,6,7,8,9] rfl rfl _ hw)|(rw[if_neg h39];exact bM (L1:=[_,_,_,_,_,_,_,_]) [2,3,4,5,6,7,8,9] rfl rfl _ hw)⟩
end Go.Proofs.YtffbohecdocajaaGreat
