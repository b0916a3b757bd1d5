/-
  Parts of the truth, sums, kernels: plain.
  (and more)
-/
import Derived.Test.YtffbohecdocajaaGreatKV09
import Derived.Test.YtffbohecdocajaaGreatChecked
open List renaming getD_eq_getElem?_getD→av,getElem?_eq_some_iff→aj,mem_filter→bK,mem_range→bf,mem_iff_getElem→cC,pairwise_iff_getElem→be,getElem?_map→aw,all_eq_true→bF,mem_map→bQ,getElem?_eq_getElem→af,any_append→mR,take_length→du,any_eq_true→eG,range→br,range_succ→fA,map_append→bj,getElem?_range→eu,perm_middle→jm,append_assoc→dp,mem_map_of_mem→bE,length→fT,length_map→aq,length_filter_le→cH,append_nil→c9,mem_singleton→bT,getElem?_append_left→aJ,length_append→aZ,length_singleton→cu,mem_of_getElem?→al,perm_append_comm→iT,getElem?_append_right→aY,eq_nil_of_length_eq_zero→fJ,mem_append→bZ,take_of_length_le→dK,take_add_one→cQ,all_append→D9,mem_of_mem_take→lB
open Nat renaming lt_trichotomy→e9,mul_comm→gX,le_refl→bA,add_mul→fF,mul_le_mul_right→gO,zero_le→bG,succ_ne_zero→pz
open Int renaming toNat_natCast→jO,natCast_nonneg→dD,natCast_add→me,toNat_of_nonneg→iv
open Option.some renaming inj→gV
open Go.Proofs.Tryz renaming prog→ae,underlying82→pq,underlying84→iU,underlying28→s8,underlying5→gj,underlying3→cM,underlying260→sj,func66→D7,underlying214→sk,underlying218→mC,underlying262→k8
open Go.SL.VO renaming h→aD,l→ah,h0→bU,nil→aI
open Go.SL.HO renaming box→cf,alloc→bI,st→bl,fP→cz,lo→aO
open Go.Proofs.YtffbohecdocajaaGreat.LO renaming eqv→dy
open Go.SL.LO renaming rem→kj,fa→aE,ld→aB,sub→dv,mul→gG,mv→bJ,ge→lr,qh→dO,len→bW,lA→cw,pE→dJ,call→bD,nc→bH,fg→aM,ex→bN,le→iI
open Go.Value renaming int→bX
open Go.SL.VC renaming ret→aP,seq→ak,cond→ay,skip→aC,block→aG,eP→bY,dU→aF,exit→ca
open Go.SL.VE renaming res→dh,aN→ag,cJ→a8,gL→bB,mB→cI,cX→bn,cb→aL,l8→cD
open Go.SL.LL renaming l→aV
open Go.Proofs.YtffbohecdocajaaGreat.RO renaming tu→gB
open Go.SL renaming bS→vD
open Go.SL.St renaming bS→fH,inv→dL
open Go.Proofs.YtffbohecdocajaaGreat.dA renaming m→qe
open Go.Proofs.YtffbohecdocajaaGreat.Mv renaming cells→kD
open Go.SL.LX renaming l→aA
open Go.SL.HX renaming s→au
open Go.Proofs.YtffbohecdocajaaGreat.dQ renaming m→dZ
open Go.Ending renaming returned→cW
open Eq renaming trans→q9
open Classical renaming not_not→cL

set_option linter.unusedSimpArgs false
set_option maxRecDepth 20000
set_option maxHeartbeats 8000000
namespace Go.Proofs.YtffbohecdocajaaGreat
open Go.SL Go.Proofs Go.qO Go.Cell
set_option linter.unusedVariables false
structure Ub (W H:Nat) (M:Nat→Bool) (o:List Int):Prop where
 len:o.length=W*H
 get:∀q,q<W*H→o.getD q (-1)=lX (eU W H M) q
theorem PT {W H:Nat} {M:Nat→Bool}:Ub W H M (pF W H M):=⟨v7,fun q hq=>by rw[av,XP hq];rfl⟩
section
variable {W H:Nat} {S M T:Nat→Bool} {vs ts:List Span} {lv:Int} {y:qZ} {co ow:List Int} {k i:Nat}
theorem abf (how:Ub W H M ow) (hk:k<W*H) (h:M k=true):∃i:Nat,ow.getD k (-1)=i∧i<(eU W H M).length:=by
 obtain⟨i,l,h1,h2,h3⟩:=Ak ((Fs hk).2 h)
 exact⟨i,by rw[how.get k hk,h3],(aj.1 h1).1⟩
theorem agz (how:Ub W H M ow) (hk:k<W*H) {c:Nat} (h:Cn W H M k c):ow.getD c (-1)=ow.getD k (-1):=by
 rw[how.get k hk,how.get c (h.lt hk)];exact((adz hk h.left).2 h).symm
end
structure EvI (w:World) (p:Option Addr) (l:List dQ):Prop where
 ev:RO 3 dQ.cells w p l
 f:∀e,e∈l→RO 1 nC w e.fp e.f
 t:∀e,e∈l→RO 1 nC w e.tp e.t
section
variable {W H r n m i j p q:Nat} {oa ob:List Int} {l:List jS} {x y lv:Int} {vs ts:List Span}
theorem YE (h:UN W H r oa ob n m l) (hi:i<n) (hj:j<m) (hp:Jal W H r oa ob (false,(i:Int)) (true,(j:Int))):∃e,e∈l∧i∈e.f∧j∈e.t:=by
 have hg:=h.I0
 obtain⟨ld,h1,h2⟩:=h.ex
 have hk:ld (yK n i)=ld (yK n (n+j)):=by rw[Wo hi,TD];exact(h1 _ _).2 (.base hp)
 obtain⟨e,he,hf⟩:=hg.ac8 i hi
 have he2:=he
 rw[h2]at he2
 obtain⟨k,k1,k2,k3,k4,k5⟩:=ye he2
 refine⟨e,he,hf,?_⟩
 rw[k4]at hf
 rw[k5]
 exact bK.2 ⟨bf.2 hj,decide_eq_true (hk.symm.trans (of_decide_eq_true (bK.1 hf).2))⟩
theorem P9 (h:iq n m l) {e e2:jS} (he:e∈l) (he2:e2∈l) (h1:i∈e.f) (h2:i∈e2.f):e=e2:=by
 obtain⟨a,ha,rfl⟩:=cC.1 he
 obtain⟨b,hb,rfl⟩:=cC.1 he2
 rcases e9 a b with z|z|z
 ·exact absurd h2 ((be.1 h.apart a b ha hb z).1 i h1)
 ·subst z;rfl
 ·exact absurd h1 ((be.1 h.apart b a hb ha z).1 i h2)
theorem X2 (h:iq n m l) {e e2:jS} (he:e∈l) (he2:e2∈l) (h1:j∈e.t) (h2:j∈e2.t):e=e2:=by
 obtain⟨a,ha,rfl⟩:=cC.1 he
 obtain⟨b,hb,rfl⟩:=cC.1 he2
 rcases e9 a b with z|z|z
 ·exact absurd h2 ((be.1 h.apart a b ha hb z).2 j h1)
 ·subst z;rfl
 ·exact absurd h1 ((be.1 h.apart b a hb ha z).2 j h2)
structure wz (W H:Nat) (x y:Int) (p q:Nat):Prop where
 hp:p<W*H
 hq:q<W*H
 hu:((q%W:Nat):Int)=((p%W:Nat):Int)+x
 hv:((q / W:Nat):Int)=((p / W:Nat):Int)+y
theorem VG (hp:p<W*H) (h:0≤((p%W:Nat):Int)+x∧((p%W:Nat):Int)+x<W∧0≤((p / W:Nat):Int)+y∧((p / W:Nat):Int)+y<H):wz W H x y p ((((p / W:Nat):Int)+y)*W+(((p%W:Nat):Int)+x)).toNat:=by
 obtain⟨u,hu⟩:∃u:Nat,((p%W:Nat):Int)+x=u:=⟨(((p%W:Nat):Int)+x).toNat,by omega⟩
 obtain⟨v,hv⟩:∃v:Nat,((p / W:Nat):Int)+y=v:=⟨(((p / W:Nat):Int)+y).toNat,by omega⟩
 rw[hu,hv,show((v:Int)*(W:Int)+(u:Int))=((W*v+u:Nat):Int) by rw[gX];push_cast;rfl,jO]
 have hul:u<W:=by omega
 have hvl:v<H:=by omega
 obtain⟨e1,e2⟩:=FV (W:=W) (p:=W*v+u) (a:=v) (b:=u) rfl hul
 exact⟨hp,xE hul hvl,by rw[e2];omega,by rw[e1];omega⟩
theorem wz.akX (h:wz W H x y p q) (hr: -(r:Int)≤x∧x≤r∧ -(r:Int)≤y∧y≤r) {a b:Int} (ha:oa.getD p (-1)=a) (hb:ob.getD q (-1)=b) (ha0:0≤a) (hb0:0≤b):Jal W H r oa ob (false,a) (true,b):=by
 have hp:=h.hp;have hq:=h.hq
 have hW:0<W:=Nat.pos_of_ne_zero fun e=>by rw[e,Nat.zero_mul]at hp;omega
 have h1:=h.hu;have h2:=h.hv
 have hd:=dm W q hW
 have hrow:=w8 hq
 have e:q / W*W+q%W=q:=by rw[gX];exact hd.1.symm
 exact⟨p,q / W,q%W,hp,by omega,by omega,⟨by rw[ha],by omega⟩,⟨by rw[e,hb],by rw[e];omega⟩⟩
theorem wz.neg (h:wz W H x y p q):wz W H (-x) (-y) q p:=⟨h.hq,h.hp,by have:=h.hu;omega,by have:=h.hv;omega⟩
structure DrK (W H:Nat) (fs ss as_ bs_:List Span) (x y lv:Int):Prop where
 mv:∀p q,wz W H x y p q→ss.getD q ⟨0,0⟩=fs.getD p ⟨0,0⟩
 fa:∀p,p<W*H→(lv≤(fs.getD p ⟨0,0⟩).lo→ga as_ lv p=true)∧(yf as_ lv p=true→lv≤(fs.getD p ⟨0,0⟩).lo)
 sb:∀p,p<W*H→(lv≤(ss.getD p ⟨0,0⟩).lo→ga bs_ lv p=true)∧(yf bs_ lv p=true→lv≤(ss.getD p ⟨0,0⟩).lo)
theorem MW {fs ss as_ bs_:List Span} {one two:List Int} (hk:DrK W H fs ss as_ bs_ x y lv) (ho:Ub W H (ga as_ lv) one) (ht:Ub W H (ga bs_ lv) two) (h:wz W H x y p q) (hin:lv≤(fs.getD p ⟨0,0⟩).lo):
  ∃i j:Nat,one.getD p (-1)=i∧i<(eU W H (ga as_ lv)).length∧two.getD q (-1)=j∧j<(eU W H (ga bs_ lv)).length:=by
 obtain⟨i,h1,h2⟩:=abf ho h.hp ((hk.fa p h.hp).1 hin)
 obtain⟨j,h3,h4⟩:=abf ht h.hq ((hk.sb q h.hq).1 (by rw[hk.mv p q h];exact hin))
 exact⟨i,j,h1,h2,h3,h4⟩
end
section
variable {W H r n m i j p q:Nat} {oa ob:List Int} {l:List jS} {x y lv:Int} {vs ts fs ss as_ bs_:List Span}
theorem Nh (hS:∀x,x<W*H→yf vs lv x=true→ga vs lv x=true) {k:List Nat} (hk:k∈vl W H vs lv i) (hp:p∈k):p<W*H∧yf vs lv p=true∧(pF W H (ga vs lv)).getD p (-1)=i:=by
 unfold vl at hk
 cases ha:(mq W H vs lv)[i]? with
 |none=>rw[ha]at hk;cases hk
 |some a=>
  rw[ha]at hk
  unfold mq at ha
  rw[aw]at ha
  cases hl:(eU W H (ga vs lv))[i]? with
  |none=>rw[hl]at ha;cases ha
  |some l=>
   rw[hl]at ha
   have e:Fa W H vs lv l=a:=gV ha
   subst e
   obtain⟨h2,h3⟩:=bK.1 (show k∈(eU W H (yf vs lv)).filter (fun k=>decide (k.headD 0∈l)) from hk)
   have hne:k≠[]:=fun e=>by rw[e]at hp;cases hp
   obtain⟨g1,g2,g3,_⟩:=ru (bA _) h2 (FC hne)
   have hc:=(g3 p).1 hp
   have ho:=PT (W:=W) (H:=H) (M:=ga vs lv)
   refine⟨hc.lt g2,hc.right,?_⟩
   rw[agz ho g2 (hc.mono g2 hS),ho.get _ g2]
   exact DD (pY (bA _)) hl (of_decide_eq_true h3)
theorem F4 {ks:List (List Nat)} (h:∀k,k∈ks→∀p,p∈k→p<W*H∧∀q,wz W H x y p q→ob.getD q (-1)=j):pW W H ks ob j x y=true:=by
 refine bF.2 fun k hk=>bF.2 fun p hp=>?_
 obtain⟨h1,h2⟩:=h k hk p hp
 unfold wK
 by_cases z:((p%W:Nat):Int)+x<0∨(W:Int)≤((p%W:Nat):Int)+x∨((p / W:Nat):Int)+y<0∨(H:Int)≤((p / W:Nat):Int)+y
 ·rw[decide_eq_true z];rfl
 ·rw[h2 _ (VG h1 (by omega)),decide_eq_true (rfl:(j:Int)=j),Bool.or_true]
structure DrE (W H r:Nat) (fs ss as_ bs_:List Span) (x y lv:Int) (l:List jS):Prop where
 k:DrK W H fs ss as_ bs_ x y lv
 ev:UN W H r (pF W H (ga as_ lv)) (pF W H (ga bs_ lv)) (eU W H (ga as_ lv)).length (eU W H (ga bs_ lv)).length l
 r: -(r:Int)≤x∧x≤r∧ -(r:Int)≤y∧y≤r
 a:∀x,x<W*H→yf as_ lv x=true→ga as_ lv x=true
 b:∀x,x<W*H→yf bs_ lv x=true→ga bs_ lv x=true
theorem DrE.pair (h:DrE W H r fs ss as_ bs_ x y lv l) {p q:Nat} (hm:wz W H x y p q) (hin:lv≤(fs.getD p ⟨0,0⟩).lo):∃(i j:Nat) (e:jS),(pF W H (ga as_ lv)).getD p (-1)=i∧(pF W H (ga bs_ lv)).getD q (-1)=j∧e∈l∧i∈e.f∧j∈e.t:=by
 obtain⟨i,j,h1,h2,h3,h4⟩:=MW h.k PT PT hm hin
 obtain⟨e,g1,g2,g3⟩:=YE h.ev h2 h4 (hm.akX h.r h1 h3 (by omega) (by omega))
 exact⟨i,j,e,h1,h3,g1,g2,g3⟩
theorem DrE.ok (h:DrE W H r fs ss as_ bs_ x y lv l) {e:jS} (he:e∈l) (hf:e.f=[i]) (ht:e.t=[j]):Cx W H (vl W H as_ lv i) (vl W H bs_ lv j) (pF W H (ga as_ lv)) (pF W H (ga bs_ lv)) i j ⟨x,y⟩=true:=by
 have hg:=h.ev.I0
 unfold Cx
 rw[Bool.and_eq_true]
 refine⟨F4 fun k hk p hp=>?_,F4 fun k hk q hq=>?_⟩
 ·obtain⟨h1,h2,h3⟩:=Nh h.a hk hp
  refine⟨h1,fun q hm=>?_⟩
  obtain⟨i2,j2,e2,g1,g2,g3,g4,g5⟩:=h.pair hm ((h.k.fa p h1).2 h2)
  have:i2=i:=by rw[h3]at g1;omega
  subst this
  have e3:e=e2:=P9 hg he g3 (by rw[hf];simp) g4
  subst e3
  rw[ht]at g5
  have:j2=j:=by simpa using g5
  rw[g2,this]
 ·obtain⟨h1,h2,h3⟩:=Nh h.b hk hq
  refine⟨h1,fun p hm=>?_⟩
  have hm:wz W H (-x) (-y) q p:=hm
  have hm2:wz W H x y p q:=by have z:=hm.neg;rwa [Int.neg_neg,Int.neg_neg]at z
  obtain⟨i2,j2,e2,g1,g2,g3,g4,g5⟩:=h.pair hm2 (by rw[←h.k.mv p q hm2];exact(h.k.sb q h1).2 h2)
  have:j2=j:=by rw[h3]at g2;omega
  subst this
  have e3:e=e2:=X2 hg he g3 (by rw[ht];simp) g5
  subst e3
  rw[hf]at g4
  have:i2=i:=by simpa using g4
  rw[g1,this]
theorem Yp (hr: -(r:Int)≤x∧x≤r∧ -(r:Int)≤y∧y≤r):∃n,n<(2*r+1)*(2*r+1)∧Iw r n=⟨x,y⟩:=by
 obtain⟨u,hu⟩:∃u:Nat,x+r=u:=⟨(x+r).toNat,by omega⟩
 obtain⟨v,hv⟩:∃v:Nat,y+r=v:=⟨(y+r).toNat,by omega⟩
 have hul:u<2*r+1:=by omega
 have hvl:v<2*r+1:=by omega
 obtain⟨e1,e2⟩:=FV (W:=2*r+1) (p:=(2*r+1)*v+u) (a:=v) (b:=u) rfl hul
 refine⟨(2*r+1)*v+u,xE hul hvl,?_⟩
 unfold Iw
 rw[e1,e2]
 congr 1<;>omega
theorem DrE.mem {G:cU} (h:DrE (gW G) (gH G) r fs ss as_ bs_ x y lv l) {e:jS} (he:e∈l) (hf:e.f=[i]) (ht:e.t=[j]):(⟨x,y⟩:Mv)∈jy G as_ bs_ lv i j r:=by
 obtain⟨n,hn,e2⟩:=Yp h.r
 unfold jy tL lz
 refine bK.2 ⟨bQ.2 ⟨n,bf.2 hn,e2⟩,h.ok he hf ht⟩
theorem UK {f:Mv→Int} {l:List Mv} {d:Mv} (h:d∈l):FN f l≤f d∧f d≤FY f l:=by
 obtain⟨i,hi,e⟩:=cC.1 h
 have hg:l[i]? =some d:=by rw[af hi,e]
 exact⟨(B8 (f:=f) (l:=l) (bA _)).1 i d hi hg,(Cc (f:=f) (l:=l) (bA _)).1 i d hi hg⟩
theorem Y9 {l:List Mv} {d:Mv} (h:d∈l):IH l=0:=by unfold IH;rw[if_neg fun e=>by rw[e]at h;cases h]
end
def E9 (l:List Mv) (k:Nat) (x y:Int):Bool:=(l.take k).any fun d=>decide ([d.x,d.y]=[x,y])
theorem any_succ {l:List Mv} {k:Nat} {x y:Int} {d:Mv} (h:l[k]? =some d):E9 l (k+1) x y=(E9 l k x y||decide ([d.x,d.y]=[x,y])):=by
 obtain⟨hk,rfl⟩:=aj.1 h
 unfold E9;rw[List.take_succ_eq_append_getElem hk,mR];simp
theorem Yh {l:List Mv} {x y:Int} (h:(⟨x,y⟩:Mv)∈l):E9 l l.length x y=true:=by
 unfold E9;rw[du]
 exact eG.2 ⟨_,h,decide_eq_true rfl⟩
theorem G0 {G:cU} {vs ts:List Span} {lv:Int} {i j r:Nat} {d:Mv} (h:d∈jy G vs ts lv i j r): -(r:Int)≤d.x∧d.x≤r∧ -(r:Int)≤d.y∧d.y≤r:=by
 unfold jy tL lz at h
 obtain⟨n,hn,rfl⟩:=bQ.1 (bK.1 h).1
 obtain⟨h1,h2⟩:=aaW (bf.1 hn)
 unfold Iw
 dsimp only
 generalize n%(2*r+1)=u at*
 generalize n / (2*r+1)=v at*
 omega
theorem S82:dF ae 82 4:=pq
theorem Z4:cj ae 4 (.bool false):=by unfold cj;kernel_rfl
theorem N4:(ae.info? 4).map (·.size)=some 1:=by kernel_rfl
theorem I4:jW ae 4 1 1 (.bool false):=⟨by kernel_rfl,by kernel_rfl,by unfold cj;kernel_rfl,rfl,by decide⟩
abbrev bC (b:Bool):List Value:=[.bool b]
theorem aih:bV ae 84 6 6:=⟨_,_,iU,rfl,rfl,0,by kernel_rfl⟩
theorem O28:ig ae 28:=⟨⟨_,s8,rfl⟩,by kernel_rfl⟩
theorem ahq:bV ae 84 0 0:=⟨_,_,iU,rfl,rfl,0,by kernel_rfl⟩
theorem O5:ig ae 5:=⟨⟨_,gj,rfl⟩,by kernel_rfl⟩
theorem ahP:bV ae 84 1 1:=⟨_,_,iU,rfl,rfl,0,by kernel_rfl⟩
structure mj where
 wi:Nat
 hi:Nat
 pi:Option Addr
 ci:Nat
 ins:List Bool
 x:Nat
 y:Nat
 pd:Option Addr
 cd:Nat
 db:List Nat
 sec:Nat
abbrev mj.V (x:mj):Value:=.agg #[.int .u8 (x.wi:Int),.int .u8 (x.hi:Int),.slice x.pi x.ins.length x.ci,.int .u8 (x.x:Int),.int .u8 (x.y:Int),.slice x.pd x.db.length x.cd,.int .u16 (x.sec:Int)]
structure YB (w:World) (x:mj):Prop where
 ins:RO 1 bC w x.pi x.ins
 db:RO 1 uC w x.pd x.db
structure MvK (x:mj):Prop where
 wi:x.wi≤255
 hi:x.hi≤255
 xx:x.x≤255
 yy:x.y≤255
 sec:x.sec≤65535
 db:∀n,n∈x.db→n≤255
 il:x.ins.length≤9223372036854775807
 dl:x.db.length≤9223372036854775807
theorem YB.keep {w0:World} {x:mj} (h:YB w0 x):∀{L:List cq} (w:World),St (bs w0) L w→YB w x:=fun w hw=>⟨h.ins.keep w hw,h.db.keep w hw⟩
def iH (x:mj):Nat:=100+x.sec%500
def gA (x:mj):Nat:=1+x.wi%8
def kK (x:mj):Nat:=1+x.hi%8
abbrev gw (x:mj):cU:=⟨0,0,1000,(gA x:Int),(kK x:Int)⟩
def B2 (x:mj):Int:=((x.x%5:Nat):Int)-2
def Cb (x:mj):Int:=((x.y%5:Nat):Int)-2
theorem sR (x:mj):1≤gA x∧gA x≤8∧1≤kK x∧kK x≤8:=by unfold gA kK;omega
theorem rS (x:mj):gA x*kK x≤64:=by obtain⟨_,h1,_,h2⟩:=sR x;exact Nat.mul_le_mul h1 h2
theorem Ig (x:mj): -2≤B2 x∧B2 x≤2∧ -2≤Cb x∧Cb x≤2:=by unfold B2 Cb;omega
def oq (x:mj) (n p:Nat):Int:=((p%gA x:Nat):Int)-(n:Int)*B2 x
def nB (x:mj) (n p:Nat):Int:=((p / gA x:Nat):Int)-(n:Int)*Cb x
def wR (x:mj) (n p:Nat):Bool:=if oq x n p<0∨(gA x:Int)≤oq x n p∨nB x n p<0∨(kK x:Int)≤nB x n p then false else x.ins.getD ((nB x n p).toNat*gA x+(oq x n p).toNat) false
def ZA (x:mj) (n p:Nat):Nat:=vAt x.db 4 (n*gA x*kK x+p)
def xq (x:mj) (n p:Nat):Span:=if ZA x n p=0 then⟨2,8⟩ else if wR x n p=true then⟨5,9⟩ else⟨0,3⟩
def EH (x:mj) (n k:Nat):List Span:=(br k).map (xq x n)
def fG (x:mj) (n:Nat):List Span:=EH x n (gA x*kK x)
theorem RS {x:mj} {n k:Nat}:EH x n (k+1)=EH x n k++[xq x n k]:=by unfold EH;rw[fA,bj];rfl
theorem IF {x:mj} {n k:Nat}:(EH x n k).length=k:=by unfold EH;simp
theorem al8 {n:Nat} (h:n≤65535):IntKind.wrap .i64 ((n:Nat):Int)=((n:Nat):Int):=wi (by omega) (by omega)
theorem aiM {l:List Bool} {k:Nat} (h:k<l.length):l[k]? =some (l.getD k false):=by rw[av,af h];rfl
theorem ahK (x:mj) {n p:Nat} (hn:n≤2) (hp:p<gA x*kK x):(0≤((p%gA x:Nat):Int)∧((p%gA x:Nat):Int)≤7)∧(0≤((p / gA x:Nat):Int)∧((p / gA x:Nat):Int)≤7)∧(-4≤(n:Int)*B2 x∧(n:Int)*B2 x≤4)∧(-4≤(n:Int)*Cb x∧(n:Int)*Cb x≤4):=by
 obtain⟨h1,h2,h3,h4⟩:=sR x
 obtain⟨q1,q2,q3,q4⟩:=Ig x
 have e1:p%gA x<gA x:=Nat.mod_lt _ (by omega)
 have e2:p / gA x<kK x:=Nat.div_lt_of_lt_mul hp
 have e3:∀z:Int, -2≤z→z≤2→ -4≤(n:Int)*z∧(n:Int)*z≤4:=fun z hz1 hz2=>by
  have:n=0∨n=1∨n=2:=by omega
  rcases this with r|r|r<;>subst r<;>simp<;>omega
 have e4:p%gA x≤7:=by omega
 have e5:p / gA x≤7:=by omega
 exact⟨⟨dD _,by exact_mod_cast e4⟩,⟨dD _,by exact_mod_cast e5⟩,e3 _ q1 q2,e3 _ q3 q4⟩
theorem x7 (x:mj) (w:World) (hk:MvK x):
 Calls ae 22 #[x.V] w fun e w'=>e= .returned (.int .i64 (iH x:Int))∧St (bs w) [] w':=by
 have hks:=hk.sec
 refine enter (vs:=[_]) (env:=[(0,_)]) Tryz.func22 rfl rfl rfl rfl ?_
 refine VC.q (aD rfl<|cf (C:=#[_,_,_,_,_,_,_]) rfl rfl fun b1=>VO.a rfl<|VO.n<|VC.q (VO.f (r:=6) aih rfl<|VO.c 0 O28 rfl rfl ⟨_,rfl⟩ rfl<|ah (LO.cv ⟨_,s8⟩ cM (.r rfl) (al8 hks)) rfl<|ah (dy (kj (.r rfl) (.r rfl) (by omega)) (congrArg (bX .i64) (x9 (m:=500)))) rfl<|ah (dy (LO.add (.r rfl) (.r rfl) (wi (by omega) (by omega))) (congrArg (bX .i64) (show(100:Int)+((x.sec%500:Nat):Int)=((iH x:Nat):Int) by unfold iH;push_cast;rfl))) rfl<|VO.a rfl<|VO.n<|aP (VE.s rfl rfl (fun w hw=>?_))))
 exact⟨rfl,hw.nil⟩
theorem vf (x:mj) (w:World) (hk:MvK x):
 Calls ae 31 #[x.V] w fun e w'=>e= .returned (uk (gw x))∧St (bs w) [] w':=by
 have hkw:=hk.wi
 have hkh:=hk.hi
 refine enter (vs:=[_]) (env:=[(0,_)]) Tryz.func31 rfl rfl rfl rfl ?_
 refine VC.q (aD rfl<|cf (C:=#[_,_,_,_,_,_,_]) rfl rfl fun b1=>aD rfl<|bI (C:=#[_,_,_,_,_]) Z88 rfl fun b2=>VO.n<|VC.q (VO.f (r:=0) ahq rfl<|VO.c 1 O5 rfl rfl ⟨_,rfl⟩ rfl<|ah (LO.cv ⟨_,gj⟩ cM (.r rfl) (cv8 hkw)) rfl<|ah (dy (kj (.r rfl) (.r rfl) (by omega)) (congrArg (bX .i64) (x9 (m:=8)))) rfl<|ah (dy (LO.add (.r rfl) (.r rfl) (wi (by omega) (by omega))) (congrArg (bX .i64) (show(1:Int)+((x.wi%8:Nat):Int)=((gA x:Nat):Int) by unfold gA;push_cast;rfl))) rfl<|VO.f (r:=1) ahP rfl<|VO.c 1 O5 rfl rfl ⟨_,rfl⟩ rfl<|ah (LO.cv ⟨_,gj⟩ cM (.r rfl) (cv8 hkh)) rfl<|ah (dy (kj (.r rfl) (.r rfl) (by omega)) (congrArg (bX .i64) (x9 (m:=8)))) rfl<|ah (dy (LO.add (.r rfl) (.r rfl) (wi (by omega) (by omega))) (congrArg (bX .i64) (show(1:Int)+((x.hi%8:Nat):Int)=((kK x:Nat):Int) by unfold kK;push_cast;rfl))) rfl<|ah (LO.bd (ps:=[(_,_),(_,_),(_,_)]) (vs:=[(_,_),(_,_),(_,_)]) (C:=[_,_,_,_,_]) B88 ⟨(.r rfl),(.r rfl),(.r rfl),trivial⟩ rfl ⟨_,[_],[_,_,_,_,_],rfl,rfl,rfl,rfl,⟨_,[_],[_,_,_,_,_],rfl,rfl,rfl,rfl,⟨_,[_],[_,_,_,_,_],rfl,rfl,rfl,rfl,rfl⟩⟩⟩) rfl<|bU<|bl 0 (vs:=[_,_,_,_,_]) (C':=[_,_,_,_,_]) (L':=[_,_]) N88 rfl rfl rfl rfl rfl rfl rfl rfl<|VO.n<|aP (dh (vs:=[_]) rfl ⟨RV.agg (vs:=[_,_,_,_,_]) vS rfl (ax 0 rfl ⟨_,rfl⟩) rfl,trivial⟩ (fun w hw=>?_))))
 exact⟨rfl,hw.nil⟩
theorem abi:bV ae 84 3 3:=⟨_,_,iU,rfl,rfl,0,by kernel_rfl⟩
theorem aby:bV ae 84 4 4:=⟨_,_,iU,rfl,rfl,0,by kernel_rfl⟩
theorem VR:bV ae 84 2 2:=⟨_,_,iU,rfl,rfl,0,by kernel_rfl⟩
theorem O82:ig ae 82:=⟨⟨_,pq,rfl⟩,by kernel_rfl⟩
theorem ahM {x:mj} {p:Nat}:((p:Int)).tmod (gA x:Int)=((p%gA x:Nat):Int):=rfl
theorem Tm {x:mj} {p:Nat}:((p:Int)).tdiv (gA x:Int)=((p / gA x:Nat):Int):=rfl
theorem aln {x:mj} {n p:Nat} (h:¬(oq x n p<0∨(gA x:Int)≤oq x n p∨nB x n p<0∨(kK x:Int)≤nB x n p)):((nB x n p).toNat*gA x+(oq x n p).toNat:Nat)<gA x*kK x∧(((nB x n p).toNat*gA x+(oq x n p).toNat:Nat):Int)=nB x n p*(gA x:Int)+oq x n p:=by
 have hu:(oq x n p).toNat<gA x:=by omega
 have hv:(nB x n p).toNat<kK x:=by omega
 constructor
 ·calc (nB x n p).toNat*gA x+(oq x n p).toNat<(nB x n p).toNat*gA x+gA x:=by omega
   _=((nB x n p).toNat+1)*gA x:=by rw[fF,Nat.one_mul]
   _≤kK x*gA x:=gO _ hv
   _=gA x*kK x:=gX _ _
 ·rw[me,Int.natCast_mul,iv (by omega),iv (by omega)]
theorem aiL {l:List Bool} {k:Nat}:(decide ((k:Int)<(l.length:Int))&&l.getD k false)=l.getD k false:=by
 by_cases h:k<l.length
 ·rw[decide_eq_true (by omega)];rfl
 ·rw[av,List.getElem?_eq_none (by omega),Bool.and_comm];rfl
theorem ahn {x:mj} {n p:Nat} (h:oq x n p<0∨(gA x:Int)≤oq x n p∨nB x n p<0∨(kK x:Int)≤nB x n p):wR x n p=false:=by unfold wR;rw[if_pos h]
theorem aiI {x:mj} {n p:Nat} (h:¬(oq x n p<0∨(gA x:Int)≤oq x n p∨nB x n p<0∨(kK x:Int)≤nB x n p)):wR x n p=x.ins.getD ((nB x n p).toNat*gA x+(oq x n p).toNat) false:=by unfold wR;rw[if_neg h]
theorem GI (x:mj) (p n:Nat) (w:World) (hx:YB w x) (hk:MvK x) (hn:n≤2) (hp:p<gA x*kK x):
 Calls ae 30 #[x.V,.agg #[.int .i64 0,.int .i64 0,.int .i64 1000,.int .i64 (gA x:Int),.int .i64 (kK x:Int)],.int .i64 (p:Int),.int .i64 (n:Int)] w fun e w'=>e= .returned (.bool (wR x n p))∧St (bs w) [] w':=by
 have hkx:=hk.xx
 have hky:=hk.yy
 obtain⟨hw1,hw2,hh1,hh2⟩:=sR x
 have har:=rS x
 obtain⟨⟨hb1,hb2⟩,⟨hb3,hb4⟩,⟨hb5,hb6⟩,hb7,hb8⟩:=ahK x hn hp
 obtain⟨hq1,hq2,hq3,hq4⟩:=Ig x
 have hil:=hk.il
 have hou: -4≤oq x n p∧oq x n p≤11:=by unfold oq;omega
 have hov: -4≤nB x n p∧nB x n p≤11:=by unfold nB;omega
 generalize hmk:(nB x n p).toNat*gA x+(oq x n p).toNat=mk_
 refine enter (vs:=[_,_,_,_]) (env:=[(0,_),(1,_),(2,_),(3,_)]) Tryz.func30 rfl rfl rfl rfl ?_
 refine VC.q (aD rfl<|cf (C:=#[_,_,_,_,_,_,_]) rfl rfl fun b1=>aD rfl<|cf (C:=#[_,_,_,_,_]) rfl rfl fun b2=>VO.a rfl<|VO.n<|ak<|VC.draw mixed (LL.m rfl<|aV (aE (r:=3) jD (.r rfl) rfl) rfl<|aV (aB O3 (.r rfl) (ax 0 rfl ⟨_,rfl⟩)) rfl<|aV (dy (kj (.r rfl) (.r rfl) (by omega)) (congrArg (bX .i64) (ahM))) rfl<|LL.m rfl<|aV (aE (r:=3) abi (.r rfl) rfl) rfl<|aV (aB O5 (.r rfl) (ax 1 rfl ⟨_,rfl⟩)) rfl<|aV (LO.cv ⟨_,gj⟩ cM (.r rfl) (cv8 hkx)) rfl<|aV (dy (kj (.r rfl) (.r rfl) (by omega)) (congrArg (bX .i64) (x9 (m:=5)))) rfl<|aV (dy (dv (.r rfl) (.r rfl) (wi (by omega) (by omega))) (congrArg (bX .i64) (show _=B2 x from rfl))) rfl<|aV (gG (.r rfl) (.r rfl) (wi (by omega) (by omega))) rfl<|aV (dy (dv (.r rfl) (.r rfl) (wi (by omega) (by omega))) (congrArg (bX .i64) (show _=oq x n p from rfl))) rfl<|LL.m rfl<|aV (aE (r:=3) jD (.r rfl) rfl) rfl<|aV (aB O3 (.r rfl) (ax 0 rfl ⟨_,rfl⟩)) rfl<|aV (dy (LO.quo (.r rfl) (.r rfl) (by omega) (wi (by rw[Tm];omega) (by rw[Tm];omega))) (congrArg (bX .i64) (Tm))) rfl<|LL.m rfl<|aV (aE (r:=4) aby (.r rfl) rfl) rfl<|aV (aB O5 (.r rfl) (ax 1 rfl ⟨_,rfl⟩)) rfl<|aV (LO.cv ⟨_,gj⟩ cM (.r rfl) (cv8 hky)) rfl<|aV (dy (kj (.r rfl) (.r rfl) (by omega)) (congrArg (bX .i64) (x9 (m:=5)))) rfl<|aV (dy (dv (.r rfl) (.r rfl) (wi (by omega) (by omega))) (congrArg (bX .i64) (show _=Cb x from rfl))) rfl<|aV (gG (.r rfl) (.r rfl) (wi (by omega) (by omega))) rfl<|aV (dy (dv (.r rfl) (.r rfl) (wi (by omega) (by omega))) (congrArg (bX .i64) (show _=nB x n p from rfl))) rfl<|aV (LO.as (.r rfl)) rfl<|aV (LO.as (.r rfl)) rfl<|LL.nil) (by kernel_rfl)<|ag<|ak ?_)
 refine VC.q (VO.m rfl<|VO.t rfl<|VO.m rfl<|VO.gf rfl (fun hg=>bJ (.r rfl))<|VO.gf rfl (fun hg=>aE (r:=3) jD (.r rfl) rfl)<|VO.gf rfl (fun hg=>aB O3 (.g hg rfl) (ax 0 rfl ⟨_,rfl⟩))<|VO.gf rfl (fun hg=>lr (.g hg rfl) (.g hg rfl))<|ah (dO (.r rfl) (.r rfl) rfl rfl) rfl<|VO.m rfl<|VO.gf rfl (fun hg=>bJ (.r rfl))<|VO.gf rfl (fun hg=>LO.lt (.g hg rfl) (.r rfl))<|ah (dO (.r rfl) (.r rfl) rfl rfl) rfl<|VO.m rfl<|VO.gf rfl (fun hg=>bJ (.r rfl))<|VO.gf rfl (fun hg=>aE (r:=4) qH (.r rfl) rfl)<|VO.gf rfl (fun hg=>aB O3 (.g hg rfl) (ax 0 rfl ⟨_,rfl⟩))<|VO.gf rfl (fun hg=>lr (.g hg rfl) (.g hg rfl))<|ah (dO (.r rfl) (.r rfl) rfl rfl) rfl<|VO.n<|ay rfl (fun h53=>?_) (fun h53=>?_))
 ·
  have hc:oq x n p<0∨(gA x:Int)≤oq x n p∨nB x n p<0∨(kK x:Int)≤nB x n p:=by omega
  refine VC.q (VO.a rfl<|VO.n<|aP (a8 (VE.s rfl rfl (fun w hw=>?_))))
  exact⟨by rw[ahn hc];rfl,hw.nil⟩
 ·
  have hc:¬(oq x n p<0∨(gA x:Int)≤oq x n p∨nB x n p<0∨(kK x:Int)≤nB x n p):=by omega
  obtain⟨hk1,hk2⟩:=aln hc
  rw[hmk]at hk1 hk2
  refine aC (ag<|VC.q (VO.m rfl<|VO.f (r:=3) jD rfl<|VO.c 0 O3 rfl rfl ⟨_,rfl⟩ rfl<|ah (gG (.r rfl) (.r rfl) (wi (by omega) (by omega))) rfl<|VO.m rfl<|ah (dy (LO.add (.r rfl) (.r rfl) (wi (by omega) (by omega))) (congrArg (bX .i64) (hk2.symm))) rfl<|VO.a rfl<|VO.n<|VC.q (VO.m rfl<|VO.f (r:=2) VR rfl<|VO.c 1 O82 rfl rfl ⟨_,rfl⟩ rfl<|ah (bW S82 (.r rfl) rfl) rfl<|VO.t rfl<|VO.m rfl<|VO.gt rfl (fun hg=>aE (r:=2) VR (.r rfl) rfl)<|VO.gt rfl (fun hg=>aB O82 (.g hg rfl) (ax 1 rfl ⟨_,rfl⟩))<|VO.gt rfl (fun hg=>bJ (.r rfl))<|VO.gt rfl (fun hg=>cw S82 N4 (hx.ins.sm) (.g hg rfl) (.g hg rfl) rfl (by have:=of_decide_eq_true hg;omega))<|VO.gt rfl (fun hg=>aB O4 (.g hg rfl) (fun w hw=>bq (off:=0) ((fun w3 h3=>gB (hx.keep w3 h3).ins (aiM (k:=mk_) (by have:=of_decide_eq_true hg;omega))) w hw) ⟨_,rfl⟩))<|ah (dJ (.r rfl) rfl rfl (.r rfl)) rfl<|VO.a rfl<|VO.n ?_)))
  refine aP (VE.s rfl rfl (fun w hw=>?_))
  exact⟨by rw[aiI hc,hmk,aiL];rfl,hw.nil⟩
section
variable {x:mj} {n p q:Nat}
theorem Da (hp:p<gA x*kK x):(fG x n).getD p ⟨0,0⟩=xq x n p:=by
 unfold fG EH
 rw[av,aw,eu hp];rfl
theorem CO (hp:p<gA x*kK x) (h:wR x n p=true):ga (fG x n) 5 p=true:=by
 unfold ga
 rw[Da hp]
 unfold xq
 split
 ·rfl
 ·first |rfl|(rw[if_pos h];rfl)
theorem Jr (hp:p<gA x*kK x) (h:yf (fG x n) 5 p=true):wR x n p=true:=by
 unfold yf at h
 rw[Da hp]at h
 unfold xq at h
 split at h
 ·exact absurd h (by decide)
 ·split at h
  ·assumption
  ·exact absurd h (by decide)
theorem CJ (hp:p<gA x*kK x) (h:yf (fG x n) 5 p=true):ga (fG x n) 5 p=true:=CO hp (Jr hp h)
theorem aa0 (h:wz (gA x) (kK x) (B2 x) (Cb x) p q):wR x (n+1) q=wR x n p:=by
 have hu:=h.hu;have hv:=h.hv
 have e1:oq x (n+1) q=oq x n p:=by unfold oq;rw[hu,me,Int.add_mul];omega
 have e2:nB x (n+1) q=nB x n p:=by unfold nB;rw[hv,me,Int.add_mul];omega
 unfold wR;rw[e1,e2]
def trM (x:mj) (n:Nat):List Span:=(br (gA x*kK x)).map fun p=>if wR x n p=true then⟨5,5⟩ else⟨0,0⟩
theorem Gq (hp:p<gA x*kK x):(trM x n).getD p ⟨0,0⟩=if wR x n p=true then⟨5,5⟩ else⟨0,0⟩:=by
 unfold trM
 rw[av,aw,eu hp];rfl
theorem Hg (hp:p<gA x*kK x):5≤((trM x n).getD p ⟨0,0⟩).lo↔wR x n p=true:=by
 rw[Gq hp];split
 ·rename_i h;exact⟨fun _=>h,fun _=>Int.le_refl _⟩
 ·rename_i h;exact⟨fun z=>absurd z (by decide),fun z=>absurd z h⟩
theorem adX:DrK (gA x) (kK x) (trM x n) (trM x (n+1)) (fG x n) (fG x (n+1)) (B2 x) (Cb x) 5 where
 mv:=fun p q h=>by rw[Gq h.hq,Gq h.hp,aa0 h]
 fa:=fun p hp=>⟨fun h=>CO hp ((Hg hp).1 h),fun h=>(Hg hp).2 (Jr hp h)⟩
 sb:=fun p hp=>⟨fun h=>CO hp ((Hg hp).1 h),fun h=>(Hg hp).2 (Jr hp h)⟩
theorem Bf:gW (gw x)=gA x∧gH (gw x)=kK x:=⟨jO _,jO _⟩
theorem Y6 {l:List jS} {e:jS} {i j:Nat} (hev:UN (gW (gw x)) (gH (gw x)) 2 (pF (gW (gw x)) (gH (gw x)) (ga (fG x n) 5)) (pF (gW (gw x)) (gH (gw x)) (ga (fG x (n+1)) 5)) (nP (gw x) (fG x n) 5) (nP (gw x) (fG x (n+1)) 5) l) (he:e∈l) (hf:e.f=[i]) (ht:e.t=[j]):
  (⟨B2 x,Cb x⟩:Mv)∈jy (gw x) (fG x n) (fG x (n+1)) 5 i j 2:=by
 refine DrE.mem (fs:=trM x n) (ss:=trM x (n+1)) (l:=l) ⟨?_,hev,Ig x,?_,?_⟩ he hf ht
 ·rw[Bf.1,Bf.2];exact adX
 ·rw[Bf.1,Bf.2];exact fun p hp h=>CJ hp h
 ·rw[Bf.1,Bf.2];exact fun p hp h=>CJ hp h
end
theorem Y1:Ju ae 260:=⟨3,4,.i64,sj,cM,by unfold cj;kernel_rfl⟩
theorem ams:ef ae 151:=⟨_,Tryz.func151,by decide,rfl⟩
theorem amx:ef ae 150:=⟨_,Tryz.func150,by decide,rfl⟩
theorem Zz (b:Nat) (h:qt) (la:Int) (q:RL) (pt:Option Addr) (ct:Nat) (kd:Nat→Int) (tk:List dA) (w:World) (hb:fk w ⟨b,0,none⟩ (C3 h la q pt tk.length ct kd)) (htk:RO 6 dA.cells w pt tk) (n:Nat) (t:dA) (hnt:tk[n]? =some t):
 Calls ae 138 #[.pointer (some ⟨b,0,none⟩),.int .i64 (n:Int)] w fun e w'=>e= .returned (.tuple #[tkV t,.int .i64 0])∧St (bs w) [] w':=by
 have hnl:=(aj.1 hnt).1
 refine enter (vs:=[_,_]) (env:=[(0,_),(1,_)]) Tryz.func138 rfl rfl rfl rfl ?_
 refine VC.q (aD rfl<|bI (C:=#[_,_,_,_,_,_]) Ic rfl fun b1=>VO.a rfl<|VO.n<|ak<|aG<|VC.q (VO.m rfl<|ah (bD (xs:=[_]) (vs:=[_]) MF ⟨(.r rfl),trivial⟩ (fun w2 hw=>tD b h la q pt tk.length ct kd w2 (aW hb w2 hw))) rfl<|ah (LO.not (.r rfl)) rfl<|VO.a rfl<|aI ?_))
 refine ag<|ay rfl (fun h6=>?_) (fun h6=>?_)
 · (exfalso;exact h6 rfl)
 ·
  refine VC.q (VO.m rfl<|VO.t rfl<|VO.m rfl<|VO.gf rfl (fun hg=>bJ (.r rfl))<|VO.gf rfl (fun hg=>bJ (.r rfl))<|VO.gf rfl (fun hg=>bH (.g hg rfl))<|VO.gf rfl (fun hg=>aE (r:=9) qq (.g hg rfl) rfl)<|VO.gf rfl (fun hg=>aB Dl (.g hg rfl) (aW (aU (off:=9) hb ⟨_,rfl⟩)))<|VO.gf rfl (fun hg=>bW tv (.g hg rfl) rfl)<|VO.gf rfl (fun hg=>lr (.g hg rfl) (.g hg rfl))<|ah (dO (.r rfl) (.r rfl) rfl rfl) rfl<|VO.a rfl<|VO.n<|ay rfl (fun h11=>?_) (fun h11=>?_))
  · (exfalso;omega)
  ·
   refine aC (bB (ag<|VC.q (VO.m rfl<|ah (bH (.r rfl)) rfl<|VO.f (r:=9) qq rfl<|ah (aB Dl (.r rfl) (aW (aU (off:=9) hb ⟨_,rfl⟩))) rfl<|VO.m rfl<|ah (cw tv wH htk.sm (.r rfl) (.r rfl) rfl (by have:=(aj.1 hnt).1;omega)) rfl<|ah (aM (vs:=[_,_,_,_,_,_]) NA (.r rfl) (fun w hw=>bq (off:=0) ((fun w3 h3=>gB (htk.keep w3 h3) hnt) w hw) ⟨_,rfl⟩) rfl) rfl<|bU<|bl 0 (vs:=[_,_,_,_,_,_]) (C':=[_,_,_,_,_,_]) (L':=[_]) wH rfl rfl rfl rfl rfl rfl rfl rfl<|VO.a rfl<|VO.n<|aP (dh (vs:=[_,_]) rfl ⟨RV.agg (vs:=[_,_,_,_,_,_]) NA rfl (ax 0 rfl ⟨_,rfl⟩) rfl,rfl,trivial⟩ (fun w hw=>?_)))))
   exact⟨rfl,hw.nil⟩
theorem aec (b:Nat) (h:qt) (la:Int) (q:RL) (pt:Option Addr) (ct:Nat) (kd:Nat→Int) (tk:List dA) (w:World) (hb:fk w ⟨b,0,none⟩ (C3 h la q pt tk.length ct kd)) (n:Int) (hno:n<0∨(tk.length:Int)≤n):
 Calls ae 138 #[.pointer (some ⟨b,0,none⟩),.int .i64 n] w fun e w'=>e= .returned (.tuple #[.agg #[.int .i64 0,.int .i64 0,.slice none 0 0,.int .i64 0,.slice none 0 0,.slice none 0 0],.int .i64 4])∧St (bs w) [] w':=by
 refine enter (vs:=[_,_]) (env:=[(0,_),(1,_)]) Tryz.func138 rfl rfl rfl rfl ?_
 refine VC.q (aD rfl<|bI (C:=#[_,_,_,_,_,_]) Ic rfl fun b1=>VO.a rfl<|VO.n<|ak<|aG<|VC.q (VO.m rfl<|ah (bD (xs:=[_]) (vs:=[_]) MF ⟨(.r rfl),trivial⟩ (fun w2 hw=>tD b h la q pt tk.length ct kd w2 (aW hb w2 hw))) rfl<|ah (LO.not (.r rfl)) rfl<|VO.a rfl<|aI ?_))
 refine ag<|ay rfl (fun h6=>?_) (fun h6=>?_)
 · (exfalso;exact h6 rfl)
 ·
  refine VC.q (VO.m rfl<|VO.t rfl<|VO.m rfl<|VO.gf rfl (fun hg=>bJ (.r rfl))<|VO.gf rfl (fun hg=>bJ (.r rfl))<|VO.gf rfl (fun hg=>bH (.g hg rfl))<|VO.gf rfl (fun hg=>aE (r:=9) qq (.g hg rfl) rfl)<|VO.gf rfl (fun hg=>aB Dl (.g hg rfl) (aW (aU (off:=9) hb ⟨_,rfl⟩)))<|VO.gf rfl (fun hg=>bW tv (.g hg rfl) rfl)<|VO.gf rfl (fun hg=>lr (.g hg rfl) (.g hg rfl))<|ah (dO (.r rfl) (.r rfl) rfl rfl) rfl<|VO.a rfl<|VO.n<|ay rfl (fun h11=>?_) (fun h11=>?_))
  ·
   refine VC.q (ah (LO.bd (ps:=[]) (vs:=[]) (C:=[_,_,_,_,_,_]) aix trivial rfl rfl) rfl<|bU<|bl 0 (vs:=[_,_,_,_,_,_]) (C':=[_,_,_,_,_,_]) (L':=[_]) wH rfl rfl rfl rfl rfl rfl rfl rfl<|VO.a rfl<|VO.n<|aP (cI (a8 (dh (vs:=[_,_]) rfl ⟨RV.agg (vs:=[_,_,_,_,_,_]) NA rfl (ax 0 rfl ⟨_,rfl⟩) rfl,rfl,trivial⟩ (fun w hw=>?_)))))
   exact⟨rfl,hw.nil⟩
  · (exfalso;omega)
end Go.Proofs.YtffbohecdocajaaGreat
namespace Go.SL
set_option linter.unusedVariables false
theorem St.aez {β:Bs} {L Rs rs:List cq} {w:World} (h:St β (rs++vD Rs::L) w):St β (vD (Rs++rs)::L) w:=by
 have h1:=(h.perm (L':=vD Rs::(rs++L)) jm).uQ
 rw[←dp]at h1
 exact h1.bS
theorem St.G5 {β:Bs} {L:List cq} {w:World} (h:St β L w):St β (vD []::L) w:=fH (Rs:=[]) h
end Go.SL
namespace Go.Proofs.YtffbohecdocajaaGreat
open Go.SL Go.Proofs Go.qO Go.Cell
set_option linter.unusedVariables false
section
variable {W H p i k:Nat} {vs:List Span} {lv:Int} {l:List Nat} {w:World}
structure AL (w:World) (p:Option Addr) (l:List eC):Prop where
 ar:RO 8 eC.cells w p l
 px:∀a,a∈l→RO 1 nC w a.px.p a.px.l
 kr:∀a,a∈l→RR 1 nC w a.kp a.kr
theorem jT {α:Type} {f:α→List Value} {E z cap:Nat} {p:Option Addr} {l:List α} (h:(own E z p cap (l.map f)).inv w):RO z f w p l:=eI h
end
structure AbY where
 l:List eC
 p:Option Addr
 c:Nat
 R:List cq
structure ALB (l:List eC):Prop where
 n:l.length≤4096
 px:∀a,a∈l→a.px.l.length≤4096
 kr:∀a,a∈l→a.kr.length≤4096
 kl:∀a,a∈l→∀k,k∈a.kr→k.l.length≤4096
structure AbP (g:cU) (vs:List Span) (lv:Int) (y:AbY):Prop where
 m:y.l.map eC.m=if nF g vs lv=0 then mq (gW g) (gH g) vs lv else[]
 rd:∀w:World,(∀r,r∈y.R→r.inv w)→AL w y.p y.l
 bd:ALB y.l
theorem yL {W H:Nat} {S:Nat→Bool} {l:List Nat} (h:l∈eU W H S):l.length≤W*H:=by
 obtain⟨p,hp,hs,rfl⟩:=kS (p:=W*H) h
 have hn:(lR W H S p).Nodup:=(lS hp).imp fun h=>Nat.ne_of_lt h
 have:=length_le_of_subset (m:=br (W*H)) hn (fun x hx=>bf.2 (uW hp hx))
 simpa using this
theorem Un {W H:Nat} {vs:List Span} {lv:Int} {l:List eC} (hW:W*H≤4096) (h:l.map eC.m=mq W H vs lv):ALB l:=by
 have hmem:∀a,a∈l→∃pl,pl∈eU W H (ga vs lv)∧a.m=Fa W H vs lv pl:=fun a ha=>by
  have:a.m∈mq W H vs lv:=by rw[←h];exact bE ha
  obtain⟨pl,h1,h2⟩:=bQ.1 this
  exact⟨pl,h1,h2.symm⟩
 have hk:∀a,a∈l→∃pl,a.kr.map eB.l=(eU W H (yf vs lv)).filter (fun k=>decide (k.headD 0∈pl)):=fun a ha=>by
  obtain⟨pl,_,h2⟩:=hmem a ha
  exact⟨pl,congrArg yA.ks h2⟩
 refine⟨?_,fun a ha=>?_,fun a ha=>?_,fun a ha k hk2=>?_⟩
 ·have:=congrArg fT h
  unfold mq at this
  rw[aq,aq]at this
  have:=lF (W:=W) (H:=H) (S:=ga vs lv) (p:=W*H)
  unfold eU at*
  omega
 ·obtain⟨pl,h1,h2⟩:=hmem a ha
  have:a.px.l=pl:=congrArg yA.px h2
  rw[this]
  have:=yL h1;omega
 ·obtain⟨pl,h1⟩:=hk a ha
  have h2:=congrArg fT h1
  rw[aq]at h2
  have h3:=cH (fun k=>decide (k.headD 0∈pl)) (eU W H (yf vs lv))
  have h4:=lF (W:=W) (H:=H) (S:=yf vs lv) (p:=W*H)
  unfold eU at*
  omega
 ·obtain⟨pl,h1⟩:=hk a ha
  have:k.l∈(eU W H (yf vs lv)).filter (fun k=>decide (k.headD 0∈pl)):=by rw[←h1];exact bE hk2
  have:=yL (bK.1 this).1
  omega
theorem ZW:ALB []:=⟨bG _,by simp,by simp,by simp⟩
theorem aeh (w:World):AL w none []:=⟨⟨by simp,fun _=>rfl,fun h=>absurd rfl h⟩,by simp,by simp⟩
theorem AL.agM {w:World} {y:qZ} {of:List Int} {W H:Nat} {vs:List Span} {lv:Int} (hp:HT W H vs lv y) (h:∀r,r∈y.R of→r.inv w):AL w y.p y.l where
 ar:=jT (h (own 160 8 y.p y.c (y.l.map eC.cells)) (by unfold qZ.R;simp))
 px:=fun a ha=>by
  have h1:=h (ri 3 1 nC y.rs) (by unfold qZ.R;simp)
  have h2:a.px∈y.rs:=by rw[←hp.px];exact bE ha
  exact eI (h1 _ (bE (f:=fun x:eB Nat=>own 3 1 x.p x.c (x.l.map nC)) h2))
 kr:=fun a ha=>by
  have h1:=(h (bS (y.l.map eC.kR)) (by unfold qZ.R;simp)).1 _ (bE ha)
  have h2:=h (ri 3 1 nC y.ks) (by unfold qZ.R;simp)
  exact⟨eI h1,fun x hx=>by
   have h3:=h2 _ (bE (f:=fun x:eB Nat=>own 3 1 x.p x.c (x.l.map nC)) (hp.kr a ha x hx))
   refine⟨?_,eI h3⟩
   have:=h3.1
   rwa [aq]at this⟩
theorem Zf {g:cU} {vs:List Span} {lv:Int} (h:nF g vs lv=0):gW g*gH g≤4096:=qN (Co h).1
theorem UA {β:Bs} {L:List cq} {w:World} (h:St β L w):St β [bS L] w:=fH (Rs:=L) (L:=[]) (by rw[c9];exact h)
theorem Yo (g:cU) (vs:List Span) (pv:Option Addr) (cv:Nat) (lv:Int) (w:World) (hv:lP w pv vs):
 Calls ae 43 #[vm g pv vs.length cv,.int .i64 lv] w fun e w'=>∃y:AbY,AbP g vs lv y∧e= .returned (.tuple #[.slice y.p y.l.length y.c,.int .i64 (nF g vs lv)])∧St (bs w) [bS y.R] w':=by
 by_cases h:nF g vs lv=0
 ·refine(Wu g vs pv cv lv w hv h).mono fun e w' ⟨y,h1,h2,h3⟩=>⟨⟨y.l,y.p,y.c,y.R (pF (gW g) (gH g) (ga vs lv))⟩,⟨by rw[if_pos h];exact h1.m,fun w k=>AL.agM h1 k,Un (Zf h) h1.m⟩,by rw[h2,h],UA h3⟩
 ·refine(XY g vs pv cv lv w hv h).mono fun e w' ⟨h2,h3⟩=>⟨⟨[],none,0,[]⟩,⟨by rw[if_neg h];rfl,fun w k=>aeh w,ZW⟩,h2,UA h3⟩
theorem abq {g:cU} {vs:List Span} {lv:Int} (hW:gW g*gH g≤4096):nP g vs lv≤4096:=by
 have:=lF (W:=gW g) (H:=gH g) (S:=ga vs lv) (p:=gW g*gH g)
 unfold nP eU;omega
theorem YF {w:World} {T:Nat} {l:List dQ} {p:Option Addr} {c:Nat} (h:∀r,r∈[own T 3 p c (l.map dQ.cells),bS (l.map dQ.fR),bS (l.map dQ.tR)]→r.inv w):EvI w p l:=
 ⟨jT (h (own T 3 p c (l.map dQ.cells)) (by simp)),fun e he=>jT ((h (bS (l.map dQ.fR)) (by simp)).1 _ (bE (f:=dQ.fR) he)),fun e he=>jT ((h (bS (l.map dQ.tR)) (by simp)).1 _ (bE (f:=dQ.tR) he))⟩
theorem Pn (w:World):EvI w none []:=⟨⟨by simp,fun _=>rfl,fun h=>absurd rfl h⟩,by simp,by simp⟩
theorem GH {Rs:List cq}:lu [bS Rs]=lu Rs:=by
 funext k
 refine propext ⟨fun h=>?_,fun h=>?_⟩
 ·obtain⟨r,hr,hk⟩:=tz.1 h
  have:=bT.1 hr
  subst this
  obtain⟨s,hs,hk⟩:=hk
  exact tz.2 ⟨s,hs,hk⟩
 ·obtain⟨s,hs,hk⟩:=tz.1 h
  exact tz.2 ⟨bS Rs,bT.2 rfl,⟨s,hs,hk⟩⟩
structure rk where
 la:Int
 pm:Option Addr
 cm:Nat
 ys:List qZ
 pt:Option Addr
 ct:Nat
 kd:Nat→Int
 tk:List dA
 of:Nat×Nat→Option Nat
 E:List (List jS)
 Ms:List Nat
 yP:qZ
 vP:List Span
 X:List cq
abbrev rk.F (b:Nat) (h:qt) (s:rk):List cq:=yi b h s.la s.pm s.cm s.ys s.pt s.ct s.kd s.tk s.of
def bk0 (h:qt):rk:=⟨-1,none,0,[],none,0,fun _=>0,[],fun _=>none,[],[],⟨[],none,0,[],none,0,[],none,0,none,0,[],none,0⟩,[],[]⟩
theorem Pm {g:cU} {vs:List Span} {lv:Int} {y:qZ} (h:HT (gW g) (gH g) vs lv y):y.l.length=nP g vs lv:=by
 have:=congrArg fT h.m
 rw[aq]at this
 rw[this];unfold mq nP;rw[aq]
theorem rr {l:List Nat} {n i:Nat} (h:i<l.length):(l++[n]).getD i 0=l.getD i 0:=by
 rw[av,av,aJ h]
theorem VW {E:List (List jS)} {Ms:List Nat} {jz:List jS} {m n:Nat} (h:Hj E Ms) (hN:Ms.length=n+1) (hE:E.length=Ms.length) (hg:iq (Ms.getD n 0) m jz):Hj (E++[jz]) (Ms++[m]):=⟨fun i hi=>by
 rw[aZ,cu]at hi
 by_cases e:i=n
 ·subst e
  rw[rr (by omega),show(Ms++[m]).getD (i+1) 0=m from by rw[←hN];exact lJ,show(E++[jz]).getD (i+1) []=jz from by rw[←hN, ←hE];exact lJ]
  exact hg
 ·rw[rr (by omega),rr (by omega),qX (by omega)]
  exact h.g i (by omega)⟩
theorem leftOf {β:Bs} {A B:List cq} {w:World} (h:St β (A++B) w):St β A w:=by
 exact h.map (fun j=>j) (fun a b hab _ _=>hab) (fun j r hr=>.inr (by rw[aJ (aj.1 hr).1];exact hr))
section
variable {E:List (List jS)} {Ms:List Nat} {tk:List jf} {of:Nat×Nat→Option Nat} {t:jf} {n k j:Nat}
theorem Ys (h:tB E Ms tk of) (k:Nat):(nxP tk k).length≤tk.length:=by
 unfold nxP
 by_cases hk:k<tk.length
 ·obtain⟨t,ht⟩:=abp hk
  rw[Pg ht,h.q.pa k t ht]
  refine Nat.le_trans (cH _ _) (by simp)
 ·rw[Pc (by omega)];exact bG _
theorem XK (h:tB E Ms tk of) (k:Nat):(nxC tk k).length≤tk.length:=by
 unfold nxC
 by_cases hk:k<tk.length
 ·obtain⟨t,ht⟩:=abp hk
  rw[Pg ht,h.q.ch k t ht]
  refine Nat.le_trans (cH _ _) (by simp)
 ·rw[Pc (by omega)];exact bG _
end
theorem anm {tk:List dA} {k:Nat} {t:dA} (h:tk[k]? =some t):(tk.map qe).getD k zT=t.m:=Pg (by rw[aw,h];rfl)
structure ML (w:World) (b:Nat) (h:qt) (s:rk):Prop where
 c:fk w ⟨b,0,none⟩ (C3 h s.la ⟨s.pm,s.ys.length,s.cm⟩ s.pt s.tk.length s.ct s.kd)
 tk:RO 6 dA.cells w s.pt s.tk
 ti:∀t,t∈s.tk→TkI w t
 of:(kM M0 Ey h.bm (BF s.of)).inv w
theorem ML.keep {w0:World} {b:Nat} {h:qt} {s:rk} (k:ML w0 b h s) {L:List cq}:∀w,St (bs w0) L w→ML w b h s:=fun w hw=>⟨aW k.c w hw,k.tk.keep w hw,fun t ht=>(k.ti t ht).keep w hw,sQ k.of w hw⟩
def trk (t:jf) (p:Option Addr) (c:Nat):dA:=⟨t.bg,t.fr,p,c,t.ar,t.en,none,0,[],none,0,[]⟩
def cK (l:List jS) (j:Int):Int:=((l.filter fun e=>decide (e.kd=j)).length:Int)
def erT (N:Nat) (n:Int):Int:=if 0≤n∧n<(N:Int) then 0 else 4
theorem abt {N:Nat} {n:Int} (q:0≤n∧n<(N:Int)):erT N n=0:=if_pos q
theorem ahQ {N:Nat} {n:Int} (q:¬(0≤n∧n<(N:Int))):erT N n=4:=if_neg q
structure BkT (s:rk) (tkm:List jf):Prop where
 m:s.tk.map qe=tkm
 I:tB s.E s.Ms tkm s.of
 len:s.tk.length≤30000
theorem MP:bV ae 204 1 1:=⟨_,_,Tryz.underlying204,rfl,rfl,0,by kernel_rfl⟩
theorem MX:dF ae 205 208:=Tryz.underlying205
theorem amR:cj ae 208 (.slice none 0 0):=by unfold cj;kernel_rfl
theorem ZX:(ae.info? 208).map (·.size)=some 1:=by kernel_rfl
theorem alH:jW ae 208 1 24 (.slice none 0 0):=⟨by kernel_rfl,by kernel_rfl,by unfold cj;kernel_rfl,rfl,by decide⟩
structure BkW (w:World) (h:qt) (s:rk) (V:List (List Span)):Prop where
 mp:RO 7 (spC h.g) w s.pm s.ys
 sp:∀(n:Nat) (y:qZ),s.ys[n]? =some y→Ex w y (pF (gW h.g) (gH h.g) (ga (V.getD n []) h.lv))
theorem BkW.keep {w0:World} {h:qt} {s:rk} {V:List (List Span)} (k:BkW w0 h s V) {L:List cq}:∀w,St (bs w0) L w→BkW w h s V:=fun w hw=>⟨k.mp.keep w hw,fun n y hy=>(k.sp n y hy).keep w hw⟩
structure BkA (h:qt) (s:rk) (V:List (List Span)) (r:Nat):Prop where
 g:cF h.g
 n:s.ys.length=s.Ms.length
 ar:∀(n:Nat) (y:qZ),s.ys[n]? =some y→HT (gW h.g) (gH h.g) (V.getD n []) h.lv y∧y.l.length=s.Ms.getD n 0
 rc:h.rc=(r:Int)
 r8:r≤8
 ms:s.Ms.length≤1000
def Rv (h:qt) (r:Nat) (V:List (List Span)) (t:jf) (k:Nat):List Mv:=jy h.g (V.getD (t.fr+k) []) (V.getD (t.fr+k+1) []) h.lv (t.ar.getD k 0) (t.ar.getD (k+1) 0) r
def IY (h:qt) (r:Nat) (V:List (List Span)) (t:jf) (n:Nat):List (List Mv):=(br n).map (Rv h r V t)
theorem ac2 {h:qt} {r:Nat} {V:List (List Span)} {t:jf} {n:Nat}:IY h r V t (n+1)=IY h r V t n++[Rv h r V t n]:=by unfold IY;rw[fA,bj];rfl
theorem YQ {h:qt} {r:Nat} {V:List (List Span)} {t:jf} {k a b:Nat} (ha:t.ar[k]? =some a) (hb:t.ar[k+1]? =some b):Rv h r V t k=jy h.g (V.getD (t.fr+k) []) (V.getD (t.fr+k+1) []) h.lv a b r:=by
 unfold Rv;rw[ov ha,ov hb]
structure StY where
 rs:List (eB Mv)
 p:Option Addr
 c:Nat
theorem ZR (g:cU) (ya yb:qZ) (v1 v2:List Span) (lv rc:Int) (i j r:Nat) (hrc:rc=(r:Int)) (aa bb:eC) (hia:ya.l[i]? =some aa) (hjb:yb.l[j]? =some bb) (w:World) (hg:cF g) (h1:HT (gW g) (gH g) v1 lv ya) (h2:HT (gW g) (gH g) v2 lv yb) (ha:Ex w ya (pF (gW g) (gH g) (ga v1 lv))) (hb:Ex w yb (pF (gW g) (gH g) (ga v2 lv))) (hr:r≤8):
  Calls ae 139 #[ZO g ya,.int .i64 (i:Int),ZO g yb,.int .i64 (j:Int),.int .i64 rc] w fun e w'=>∃y:SlY,True∧e= .returned (.slice y.p (jy g v1 v2 lv i j r).length y.c)∧St (bs w) [own 210 2 y.p y.c ((jy g v1 v2 lv i j r).map kD)] w':=by
 subst hrc
 have em:jy g v1 v2 lv i j r=tL (gW g) (gH g) (aa.kr.map eB.l) (bb.kr.map eB.l) (pF (gW g) (gH g) (ga v1 lv)) (pF (gW g) (gH g) (ga v2 lv)) i j r:=by unfold jy;rw[Pq h1 hia,Pq h2 hjb]
 rw[em]
 exact Zq g ya yb _ _ i j r aa bb hia hjb w hg ha hb v7 v7 (FK h1 (al hia)) (FK h2 (al hjb)) hr
theorem Vi (b:Nat) (h:qt) (s:rk) (V:List (List Span)) (r n:Nat) (t:dA) (w:World) (hb:ML w b h s) (hW:BkW w h s V) (hA:BkA h s V r) (hI:tB s.E s.Ms (s.tk.map qe) s.of) (hnt:s.tk[n]? =some t):
 Calls ae 66 #[.pointer (some ⟨b,0,none⟩),.int .i64 (n:Int)] w fun e w'=>∃y:StY,y.rs.map eB.l=IY h r V t.m (t.ar.length-1)∧e= .returned (.tuple #[.slice y.p y.rs.length y.c,.int .i64 0])∧St (bs w) [own 208 1 y.p y.c (y.rs.map sw),ri 210 2 kD y.rs] w':=by
 have htm:t∈s.tk:=al hnt
 have htm2:t.m∈s.tk.map qe:=bE htm
 obtain⟨hp1,hp2,hp3⟩:=hI.pos htm2
 have hp1:0<t.ar.length:=hp1
 have hp2:t.fr+t.ar.length≤s.Ms.length:=hp2
 have hms:=hA.ms
 have hyn:=hA.n
 have hr8:=hA.r8
 have hti:=hb.ti t htm
 refine enter (vs:=[_,_]) (env:=[(0,_),(1,_)]) D7 rfl rfl rfl rfl ?_
 refine VC.q (VO.a rfl<|VO.a rfl<|VO.n<|VC.q (VO.m rfl<|VO.m rfl<|ah (bD (xs:=[_,_]) (vs:=[_,_]) air ⟨(.r rfl),(.r rfl),trivial⟩ (fun w2 hw=>Zz b h s.la ⟨s.pm,s.ys.length,s.cm⟩ s.pt s.ct s.kd s.tk w2 (hb.keep w2 hw).c (hb.keep w2 hw).tk n t hnt)) rfl<|VO.m rfl<|ah (bN (.r rfl) rfl) rfl<|ah (bN (.r rfl) rfl) rfl<|aD rfl<|bI (C:=#[_,_,_,_,_,_]) Ic rfl fun b1=>bU<|bl 0 (vs:=[_,_,_,_,_,_]) (C':=[_,_,_,_,_,_]) (L':=[_]) wH rfl rfl rfl rfl rfl rfl rfl rfl<|VO.a rfl<|VO.n<|ak ?_))
 refine VC.q (VO.m rfl<|VO.u rfl<|VO.n<|ay rfl (fun h17=>?_) (fun h17=>?_))
 · (exfalso;exact h17 rfl)
 ·
  refine aC (ag<|VC.q (VO.a rfl<|VO.n<|ak<|VC.q (VO.a rfl<|aI ?_)))
  refine ag<|aG<|bY (α:=Nat×(List (eB Mv))×(Option Addr)×Nat) 0 (fun gx=>[(8,.slice gx.2.2.1 gx.2.1.length gx.2.2.2),(9,.int .i64 ((gx.1+1:Nat):Int))]) [(0,_),(6,_)] (fun gx=>[own 208 1 gx.2.2.1 gx.2.2.2 (gx.2.1.map sw),ri 210 2 kD gx.2.1]) (fun gx=>gx.1+1≤t.ar.length∧gx.2.1.map eB.l=IY h r V t.m gx.1) (fun gx=>t.ar.length-gx.1) (0,[],none,0) (by exact⟨by omega,rfl⟩) (.c4 rfl rfl rfl rfl .nil) (fun _ h=>((h.yF 210 2 kD).fX 208 1)) ?_
  rintro ⟨k,rs,po,co⟩ ⟨hk,hrs⟩
  show VC _ _ _ _ _ ([(8,.slice po rs.length co),(9,.int .i64 ((k+1:Nat):Int))]++_) ([own 208 1 po co (rs.map sw),ri 210 2 kD rs]++_) _ _
  dsimp only at hk hrs
  have hrl:rs.length=k:=by have z:=congrArg fT hrs;rw[aq]at z;rw[z];unfold IY;rw[aq,List.length_range]
  refine ak<|VC.q (VO.m rfl<|VO.f (r:=2) xv rfl<|VO.c 2 ij rfl rfl ⟨_,rfl⟩ rfl<|ah (bW ei (.r rfl) rfl) rfl<|VO.t rfl<|VO.n<|ay rfl (fun h23=>?_) (fun h23=>?_))
  ·
   obtain⟨a1,ha1⟩:=gE (l:=t.ar) (n:=k) (by omega)
   obtain⟨a2,ha2⟩:=gE (l:=t.ar) (n:=k+1) (by omega)
   obtain⟨ya,hya⟩:=gE (l:=s.ys) (n:=t.fr+k) (by omega)
   obtain⟨yb,hyb⟩:=gE (l:=s.ys) (n:=t.fr+k+1) (by omega)
   have hr1:a1<ya.l.length:=by rw[(hA.ar _ ya hya).2];exact hI.q.pM t.m htm2 k a1 ha1
   have hr2:a2<yb.l.length:=by rw[(hA.ar _ yb hyb).2];exact hI.q.pM t.m htm2 (k+1) a2 ha2
   obtain⟨aa,haa⟩:=gE (l:=ya.l) (n:=a1) hr1
   obtain⟨bb,hbb⟩:=gE (l:=yb.l) (n:=a2) hr2
   refine aC (ag<|ak<|aG<|VC.gu [[0,1,2],[0,1,2],[0,1,2],[1,2],[1,2]] [some 2,some 0,some 0,some 0,some 0,some 0,some 0,some 0,some 0,some 0,some 0,some 0,some 0,some 0,some 0,some 0,some 0,some 0,some 0,some 0,some 0,some 0,some 0,some 0,some 0,some 0,some 0,some 0,some 0,some 0,some 0,some 0,some 0,some 0,some 0,some 0,some 0,none,none,none,none] mixed (by kernel_rfl) rfl (LX.m rfl<|LX.m rfl<|aA (fun _ hJ=>bH (.r rfl)) rfl<|aA (fun _ hJ=>aE (r:=8) oX (.r rfl) rfl) rfl<|aA (fun _ hJ=>aB CQ (.r rfl) (aW (aU (off:=8) hb.c ⟨_,rfl⟩))) rfl<|aA (fun _ hJ=>aE (r:=1) MP (.r rfl) rfl) rfl<|aA (fun _ hJ=>aB O3 (.r rfl) (fun _ hw=>aX (hJ _ hw) 2 rfl ⟨_,rfl⟩)) rfl<|LX.m rfl<|aA (fun _ hJ=>LO.add (.r rfl) (.r rfl) (wi (by omega) (by omega))) rfl<|aA (fun _ hJ=>dv (.r rfl) (.r rfl) (wi (by omega) (by omega))) rfl<|aA (fun _ hJ=>cw xz GA hW.mp.sm (.r rfl) (.r rfl) (j:=t.fr+k) (by omega) (by omega)) rfl<|aA (fun _ hJ=>aM (vs:=[_,_,_,_,_,_,_]) Gt (.r rfl) (fun w hw=>bq (off:=0) ((fun w3 h3=>gB (hW.keep w3 h3).mp hya) w (hJ _ hw)) ⟨_,rfl⟩) rfl) rfl<|aA (fun _ hJ=>aE (r:=2) xv (.r rfl) rfl) rfl<|aA (fun _ hJ=>aB ij (.r rfl) (fun _ hw=>aX (hJ _ hw) 2 rfl ⟨_,rfl⟩)) rfl<|LX.m rfl<|aA (fun _ hJ=>dv (.r rfl) (.r rfl) (wi (by omega) (by omega))) rfl<|aA (fun _ hJ=>cw ei N3 hti.a.sm (.r rfl) (.r rfl) (j:=k) (by omega) (by omega)) rfl<|aA (fun _ hJ=>aB O3 (.r rfl) (fun w hw=>bq (off:=0) ((fun w3 h3=>gB (((hb.keep w3 h3).ti t htm).a) ha1) w (hJ _ hw)) ⟨_,rfl⟩)) rfl<|LX.m rfl<|aA (fun _ hJ=>bH (.r rfl)) rfl<|aA (fun _ hJ=>aE (r:=8) oX (.r rfl) rfl) rfl<|aA (fun _ hJ=>aB CQ (.r rfl) (aW (aU (off:=8) hb.c ⟨_,rfl⟩))) rfl<|aA (fun _ hJ=>aE (r:=1) MP (.r rfl) rfl) rfl<|aA (fun _ hJ=>aB O3 (.r rfl) (fun _ hw=>aX (hJ _ hw) 2 rfl ⟨_,rfl⟩)) rfl<|LX.m rfl<|aA (fun _ hJ=>LO.add (.r rfl) (.r rfl) (wi (by omega) (by omega))) rfl<|aA (fun _ hJ=>cw xz GA hW.mp.sm (.r rfl) (.r rfl) (j:=t.fr+k+1) (by omega) (by omega)) rfl<|aA (fun _ hJ=>aM (vs:=[_,_,_,_,_,_,_]) Gt (.r rfl) (fun w hw=>bq (off:=0) ((fun w3 h3=>gB (hW.keep w3 h3).mp hyb) w (hJ _ hw)) ⟨_,rfl⟩) rfl) rfl<|aA (fun _ hJ=>aE (r:=2) xv (.r rfl) rfl) rfl<|aA (fun _ hJ=>aB ij (.r rfl) (fun _ hw=>aX (hJ _ hw) 2 rfl ⟨_,rfl⟩)) rfl<|LX.m rfl<|aA (fun _ hJ=>cw ei N3 hti.a.sm (.r rfl) (.r rfl) (j:=k+1) (by omega) (by omega)) rfl<|aA (fun _ hJ=>aB O3 (.r rfl) (fun w hw=>bq (off:=0) ((fun w3 h3=>gB (((hb.keep w3 h3).ti t htm).a) ha2) w (hJ _ hw)) ⟨_,rfl⟩)) rfl<|LX.m rfl<|aA (fun _ hJ=>bH (.r rfl)) rfl<|aA (fun _ hJ=>aE (r:=6) Va (.r rfl) rfl) rfl<|aA (fun _ hJ=>aB O3 (.r rfl) (aW (aU (off:=6) hb.c ⟨_,rfl⟩))) rfl<|LX.s<|LX.s<|LX.s<|LX.s<|LX.nil) (au<|au<|au<|au<|au<|au<|au<|au<|au<|au<|au<|au<|au<|au<|au<|au<|au<|au<|au<|au<|au<|au<|au<|au<|au<|au<|au<|au<|au<|au<|au<|au<|au<|au<|au<|au<|au<|HX.h rfl<|cz (xs:=[_,_,_,_,_]) (vs:=[_,_,_,_,_]) alW ⟨(.r rfl),(.r rfl),(.r rfl),(.r rfl),(.r rfl),trivial⟩ (fun w2 hw=>ZR h.g ya yb (V.getD (t.fr+k) []) (V.getD (t.fr+k+1) []) h.lv h.rc a1 a2 r hA.rc aa bb haa hbb w2 hA.g (hA.ar _ ya hya).1 (hA.ar _ yb hyb).1 ((hW.keep w2 hw).sp _ ya hya) ((hW.keep w2 hw).sp _ yb hyb) hr8) fun ym _=>⟨fun _ hw=>hw.fO [1,2,3] rfl,HX.h rfl<|HO.bs (ps:=[(_,_)]) (vs:=[(_,_)]) (Z:=[_]) (C:=[_]) MX amR ZX ⟨(.r rfl),trivial⟩ rfl rfl rfl rfl ⟨_,[_],[_],rfl,rfl,rfl,rfl,rfl⟩ fun b8=>⟨fun _ hw=>hw.fO [2,3,4] rfl,HX.h rfl<|HO.kT ((⟨ym.p,ym.c,jy h.g (V.getD (t.fr+k) []) (V.getD (t.fr+k+1) []) h.lv a1 a2 r⟩:eB Mv)) 2 0 (fun R=>[_,_,R,_,_]) MX MX alH (.r rfl) (.r rfl) rfl rfl rfl rfl rfl rfl rfl (fun _=>rfl) rfl (by omega) fun p39 c39=>⟨fun _ hw=>hw.fO [3,4] rfl,HX.h rfl<|aO (LO.as (.r rfl))<|⟨fun _ hw=>hw.fO [3,4] rfl,HX.nil ?_⟩⟩⟩⟩))
   refine bB (ag<|aF (VO.m rfl<|VO.p rfl rfl (by omega) (by omega) rfl<|VO.a rfl<|aI<|bn fun a w ha hw=>⟨(k+1,(rs++[(⟨ym.p,ym.c,jy h.g (V.getD (t.fr+k) []) (V.getD (t.fr+k+1) []) h.lv a1 a2 r⟩:eB Mv)]),p39,c39),⟨by dsimp only;omega,by dsimp only;rw[bj,hrs,ac2,YQ (t:=t.m) ha1 ha2];rfl⟩,(by dsimp only;omega),ha.sub (.c4 rfl rfl rfl rfl .nil),(by dsimp only;exact bM (L1:=[_,_,_]) [1,0,2] rfl rfl _ (St.Nx (E:=210) (z:=2) (f:=kD) (rs:=rs) (x:=⟨ym.p,ym.c,jy h.g (V.getD (t.fr+k) []) (V.getD (t.fr+k+1) []) h.lv a1 a2 r⟩) (bM (L1:=own 210 2 ym.p ym.c ((jy h.g (V.getD (t.fr+k) []) (V.getD (t.fr+k+1) []) h.lv a1 a2 r).map kD)::ri 210 2 kD rs::[_,_]) [1,3,2,4] rfl rfl _ hw)))⟩))
  ·
   have hke:k=t.ar.length-1:=by omega
   subst hke
   refine ca (aL (aL (cD (ag<|VC.q (VO.m rfl<|VO.a rfl<|VO.a rfl<|VO.n<|aP (dh (vs:=[_,_]) rfl ⟨rfl,rfl,trivial⟩ (fun w hw=>?_)))))))
   exact⟨⟨rs,po,co⟩,hrs,rfl,bM [0,1] rfl rfl _ hw⟩
theorem ZB (b:Nat) (h:qt) (s:rk) (n:Int) (w:World) (hb:ML w b h s) (hno:n<0∨(s.tk.length:Int)≤n):
 Calls ae 66 #[.pointer (some ⟨b,0,none⟩),.int .i64 n] w fun e w'=>e= .returned (.tuple #[.slice none 0 0,.int .i64 4])∧St (bs w) [] w':=by
 refine enter (vs:=[_,_]) (env:=[(0,_),(1,_)]) D7 rfl rfl rfl rfl ?_
 refine VC.q (VO.a rfl<|VO.a rfl<|VO.n<|VC.q (VO.m rfl<|VO.m rfl<|ah (bD (xs:=[_,_]) (vs:=[_,_]) air ⟨(.r rfl),(.r rfl),trivial⟩ (fun w2 hw=>aec b h s.la ⟨s.pm,s.ys.length,s.cm⟩ s.pt s.ct s.kd s.tk w2 (hb.keep w2 hw).c n hno)) rfl<|VO.m rfl<|ah (bN (.r rfl) rfl) rfl<|ah (bN (.r rfl) rfl) rfl<|aD rfl<|bI (C:=#[_,_,_,_,_,_]) Ic rfl fun b1=>bU<|bl 0 (vs:=[_,_,_,_,_,_]) (C':=[_,_,_,_,_,_]) (L':=[_]) wH rfl rfl rfl rfl rfl rfl rfl rfl<|VO.a rfl<|VO.n<|ak ?_))
 refine VC.q (VO.m rfl<|VO.u rfl<|VO.n<|ay rfl (fun h17=>?_) (fun h17=>?_))
 ·
  refine VC.q (VO.m rfl<|VO.a rfl<|VO.a rfl<|VO.n<|aP (a8 (dh (vs:=[_,_]) rfl ⟨rfl,rfl,trivial⟩ (fun w hw=>?_))))
  exact⟨rfl,hw.nil⟩
 · (exfalso;exact h17 (by decide))
def stX (h:qt) (r:Nat) (V:List (List Span)) (tkm:List jf) (n:Int):List (List Mv):=if 0≤n∧n<(tkm.length:Int) then IY h r V (tkm.getD n.toNat zT) ((tkm.getD n.toNat zT).ar.length-1) else[]
theorem abn {h:qt} {r:Nat} {V:List (List Span)} {tkm:List jf} {k:Nat} (q:k<tkm.length):stX h r V tkm (k:Int)=IY h r V (tkm.getD k zT) ((tkm.getD k zT).ar.length-1):=by
 unfold stX;rw[if_pos (by omega)];rfl
theorem aiV {h:qt} {r:Nat} {V:List (List Span)} {tkm:List jf} {n:Int} (q:¬(0≤n∧n<(tkm.length:Int))):stX h r V tkm n=[]:=if_neg q
theorem ZT (b:Nat) (h:qt) (s:rk) (V:List (List Span)) (r:Nat) (tkm:List jf) (hT:BkT s tkm) (n:Int) (w:World) (hb:ML w b h s) (hW:BkW w h s V) (hA:BkA h s V r):
  Calls ae 66 #[.pointer (some ⟨b,0,none⟩),.int .i64 n] w fun e w'=>∃y:StY,y.rs.map eB.l=stX h r V tkm n∧e= .returned (.tuple #[.slice y.p y.rs.length y.c,.int .i64 (erT tkm.length n)])∧St (bs w) [own 208 1 y.p y.c (y.rs.map sw),ri 210 2 kD y.rs] w':=by
 have hl:s.tk.length=tkm.length:=by rw[←hT.m,aq]
 by_cases q:0≤n∧n<(tkm.length:Int)
 ·obtain⟨k,rfl⟩:∃k:Nat,n=k:=⟨n.toNat,by omega⟩
  obtain⟨t,ht⟩:=gE (l:=s.tk) (n:=k) (by omega)
  have hI:=hT.I
  rw[←hT.m]at hI
  rw[abt q,abn (by omega)]
  have e:tkm.getD k zT=t.m:=by rw[←hT.m];exact anm ht
  rw[e]
  exact Vi b h s V r k t w hb hW hA hI ht
 ·refine(ZB b h s n w hb (by omega)).mono fun e w' ⟨h1,h2⟩=>⟨⟨[],none,0⟩,?_,?_,(h2.yF 210 2 kD).fX 208 1⟩
  ·rw[aiV q];rfl
  ·rw[h1,ahQ q];rfl
theorem C66:ef ae 66:=⟨_,D7,by decide,rfl⟩
theorem ae5:ig ae 208:=⟨⟨_,Tryz.underlying208,rfl⟩,by kernel_rfl⟩
theorem akV {E:List (List jS)} {Ms:List Nat} {tkm:List jf} {of:Nat×Nat→Option Nat} (hI:tB E Ms tkm of) (hms:Ms.length≤1000) (hl:tkm.length≤30000) {t:jf} (ht:t∈tkm):t.ar.length≤1000000∧t.pa.length≤1000000∧t.ch.length≤1000000:=by
 obtain⟨k,hk,rfl⟩:=List.getElem_of_mem ht
 obtain⟨h1,h2,h3⟩:=hI.pos ht
 have h4:=hI.q.pa k _ (af hk)
 have h5:=hI.q.ch k _ (af hk)
 have h6:=Ys hI k
 have h7:=XK hI k
 unfold nxP at h6;unfold nxC at h7
 rw[Pg (af hk)]at h6 h7
 omega
theorem TkB.of {E:List (List jS)} {Ms:List Nat} {tk:List dA} {of:Nat×Nat→Option Nat} (hI:tB E Ms (tk.map qe) of) (hms:Ms.length≤1000) (hl:tk.length≤30000):∀t,t∈tk→TkB t:=fun t ht=>by
 obtain⟨h1,h2,h3⟩:=akV hI hms (by rw[aq];exact hl) (bE ht)
 exact⟨by have:t.ar.length≤1000000:=h1;omega,by have:t.pa.length≤1000000:=h2;omega,by have:t.ch.length≤1000000:=h3;omega⟩
theorem T7 {β:Bs} {R A B:List cq} {w:World} (h:St β (R++A++B) w):St β (R++[bS A,bS B]) w:=by
 have h1:St β (B++(R++A)) w:=h.perm (iT)
 have h2:=fH (Rs:=B) (L:=R++A) h1
 have h3:St β (A++(R++[bS B])) w:=h2.perm (by
  have p1:(bS B::(R++A)).Perm ((R++A)++[bS B]):=(iT (l₁:=[bS B]) (l₂:=R++A))
  have p2:((R++A)++[bS B]).Perm (A++(R++[bS B])):=by
   rw[←dp]
   exact List.Perm.append_right _ iT
  exact p1.trans p2)
 have h4:=fH (Rs:=A) (L:=R++[bS B]) h3
 exact h4.perm (by
  have p1:(bS A::(R++[bS B])).Perm (R++(bS A::[bS B])):=jm.symm
  exact p1)
theorem Ux {l m:List jS} {j:Int}:cK (l++m) j=cK l j+cK m j:=by unfold cK;rw[List.filter_append,aZ];push_cast;rfl
theorem T5:∀{es:List jS} {kd:Nat→Int} {j:Nat},(∀e,e∈es→0≤e.kd)→CY kd es j=kd j+cK es j
 |[],kd,j,h=>by show kd j=kd j+0;omega
 |e::es,kd,j,h=>by
  have ih:=T5 (es:=es) (kd:=QT kd e.kd.toNat) (j:=j) (fun x hx=>h x (List.mem_cons_of_mem _ hx))
  have h0:=h e List.mem_cons_self
  have e1:CY kd (e::es) j=CY (QT kd e.kd.toNat) es j:=rfl
  have e2:cK (e::es) (j:Int)=cK [e] j+cK es j:=Ux (l:=[e])
  rw[e1,ih,e2]
  unfold QT cK
  by_cases q:j=e.kd.toNat
  ·rw[if_pos q,List.filter_cons_of_pos (by exact decide_eq_true (by omega))]
   show kd j+1+_=kd j+(((0+1:Nat):Int)+_);omega
  ·rw[if_neg q,List.filter_cons_of_neg (by rw[decide_eq_true_eq];omega)]
   show kd j+_=kd j+(((0:Nat):Int)+_);omega
structure BjP (h:qt) (r N:Nat) (s:rk) (V:List (List Span)):Prop where
 A:BkA h s V r
 I:tB s.E s.Ms (s.tk.map qe) s.of
 G:Hj s.E s.Ms
 n:s.Ms.length=N
 v:V.length=N
 mb:∀m,m∈s.Ms→m≤4096
 tk:s.tk.length≤4096*N
 kb:∀j,0≤s.kd j∧s.kd j≤10000*N
 K:∀j:Nat,2≤j→j≤7→s.kd j=cK s.E.flatten j
 la:N=0→s.la= -1
def nxS (N:Nat) (jz:List jS) (m:Nat) (tk:List jf) (of:Nat×Nat→Option Nat):List jf×(Nat×Nat→Option Nat):=
 if N=0 then kI 0 [] (tk,of) m else kI N jz (tk.map (kL N jz),wT (N-1) jz of) m
structure AjY where
 s:rk
 ev:List dQ
 p:Option Addr
 c:Nat
 X:List cq
 R:List cq
structure AjO (h:qt) (r N:Nat) (time:Int) (vs:List Span) (s:rk) (V:List (List Span)) (y:AjY):Prop where
 P:BjP h r (N+1) y.s (V++[vs])
 la:y.s.la=time
 ys:∃yN,y.s.ys=s.ys++[yN]∧∀w:World,(∀r,r∈y.X→r.inv w)→Ex w yN (pF (gW h.g) (gH h.g) (ga vs h.lv))
 E:y.s.E=s.E++[y.ev.map dZ]
 Ms:y.s.Ms=s.Ms++[nP h.g vs h.lv]
 ev0:N=0→y.ev=[]
 ev:∀n,N=n+1→UN (gW h.g) (gH h.g) r (pF (gW h.g) (gH h.g) (ga (V.getD n []) h.lv)) (pF (gW h.g) (gH h.g) (ga vs h.lv)) (nP h.g (V.getD n []) h.lv) (nP h.g vs h.lv) (y.ev.map dZ)
 tk:(y.s.tk.map qe,y.s.of)=nxS N (y.ev.map dZ) (nP h.g vs h.lv) (s.tk.map qe) s.of
 kd:y.s.kd=CY s.kd (y.ev.map dZ)
structure AjP (h:qt) (r N:Nat) (time:Int) (g:cU) (vs:List Span) (s:rk) (V:List (List Span)) (y:AjY):Prop where
 rd:∀w:World,(∀r,r∈y.R→r.inv w)→EvI w y.p y.ev
 no:oU h s.la N time g vs≠0→y.s=s∧y.ev=[]
 ok:oU h s.la N time g vs=0→AjO h r N time vs s V y
theorem PM {β:Bs} {A B C:List cq} {w:World} (h:St β (A++B++C) w):St β [bS A,bS B,bS C] w:=fH (Rs:=A) (L:=[bS B,bS C]) (T7 h)
theorem VT {w:World} {y:qZ} {of:List Int} {W H:Nat} {vs:List Span} {lv:Int} (hp:HT W H vs lv y) (k:∀r,r∈y.R of→r.inv w):Ex w y of where
 ar:=jT (k (own 160 8 y.p y.c (y.l.map eC.cells)) (by unfold qZ.R;simp))
 kr:=fun a ha=>⟨eI ((k (bS (y.l.map eC.kR)) (by unfold qZ.R;simp)).1 _ (bE (f:=eC.kR) ha)),fun x hx=>by
  have h:=k (ri 3 1 nC y.ks) (by unfold qZ.R;simp) _ (bE (f:=fun x:eB Nat=>own 3 1 x.p x.c (x.l.map nC)) (hp.kr a ha x hx))
  refine⟨?_,eI h⟩
  have:=h.1
  rwa [aq]at this⟩
 of:=jT (k (own 3 1 y.po y.co (of.map iC)) (by unfold qZ.R;simp))
theorem afc {V:List (List Span)} {vs:List Span} {n:Nat} (h:n<V.length):(V++[vs]).getD n []=V.getD n []:=qX h
theorem aeN {V:List (List Span)} {vs:List Span} {n:Nat} (h:n=V.length):(V++[vs]).getD n []=vs:=by subst h;exact lJ
theorem BkA.add {h:qt} {s s2:rk} {V:List (List Span)} {vs:List Span} {r:Nat} {yN:qZ} (hA:BkA h s V r) (hv:V.length=s.Ms.length) (e1:s2.ys=s.ys++[yN]) (e2:s2.Ms=s.Ms++[nP h.g vs h.lv]) (hy:HT (gW h.g) (gH h.g) vs h.lv yN) (hN:s.Ms.length≤999):BkA h s2 (V++[vs]) r:=by
 refine⟨hA.g,by rw[e1,e2,aZ,aZ,hA.n];rfl,fun n y hn=>?_,hA.rc,hA.r8,by rw[e2,aZ];show _+1≤1000;omega⟩
 rw[e1]at hn
 rw[e2]
 have hl:=(aj.1 hn).1
 rw[aZ,cu,hA.n]at hl
 by_cases q:n<s.Ms.length
 ·rw[aJ (by rw[hA.n];exact q)]at hn
  rw[afc (by omega),rr q]
  exact hA.ar n y hn
 ·have e:n=s.Ms.length:=by omega
  subst e
  rw[aY (by rw[hA.n];exact bA _),hA.n,Nat.sub_self]at hn
  have:=gV hn
  subst this
  rw[aeN hv.symm,lJ]
  exact⟨hy,Pm hy⟩
theorem aiP (b:Nat) (h:qt) (s:rk) (V:List (List Span)) (r N:Nat) (time:Int) (g:cU) (vs:List Span) (pv:Option Addr) (cv:Nat) (w:World) (hh:Has w [bS (s.F b h)]) (hvv:∀{L:List cq} {v:World},St ⟨w,lu [bS (s.F b h)]⟩ L v→lP v pv vs) (hsp:∀{L:List cq} {v:World},St ⟨w,lu [bS (s.F b h)]⟩ L v→∀(n:Nat) (y:qZ),s.ys[n]? =some y→Ex v y (pF (gW h.g) (gH h.g) (ga (V.getD n []) h.lv))) (hP:BjP h r N s V) (hN:N≤6) (hlv:1≤h.lv∧h.lv≤1073741824) (hb:fk w ⟨b,0,none⟩ (C3 h s.la ⟨s.pm,s.ys.length,s.cm⟩ s.pt s.tk.length s.ct s.kd)):
  Calls ae 63 #[.pointer (some ⟨b,0,none⟩),.int .i64 time,.agg #[.int .i64 g.x,.int .i64 g.y,.int .i64 g.size,.int .i64 g.wide,.int .i64 g.high,.slice pv vs.length cv]] w fun e w'=>∃y:AjY,AjP h r N time g vs s V y∧e= .returned (.tuple #[.slice y.p y.ev.length y.c,.int .i64 (oU h s.la N time g vs)])∧St ⟨w,lu [bS (s.F b h)]⟩ [bS (y.s.F b h),bS y.X,bS y.R] w':=by
 have hys:s.ys.length=N:=by rw[hP.A.n,hP.n]
 have hF:Has w (s.F b h):=by
  have z:=Has.aaY (R:=[]) hh
  rw[c9]at z
  exact z
 by_cases hok:oU h s.la N time g vs=0
 ·obtain⟨_,rfl,_⟩:=UC hok
  have hle:gW h.g*gH h.g≤4096:=qN hP.A.g
  have hnP:nP h.g vs h.lv≤4096:=abq hle
  have hfp:lu [bS (s.F b h)]=lu (s.F b h):=GH
  rw[hfp]at hvv hsp ⊢
  have htk:=hP.tk
  by_cases hN0:N=0
  ·subst hN0
   have hy0:s.ys=[]:=fJ hys
   have hMs:s.Ms=[]:=fJ hP.n
   have hE:s.E=[]:=fJ (by rw[hP.I.q.len,hMs];rfl)
   have hV:V=[]:=fJ hP.v
   have eF:s.F b h=yi b h s.la s.pm s.cm [] s.pt s.ct s.kd s.tk s.of:=by unfold rk.F;rw[hy0]
   refine(agv b h s.la s.pm s.cm s.pt s.ct s.kd s.tk s.of time vs pv cv w (by rw[←eF];exact hF) (fun hs=>hvv (by rw[eF];exact hs)) hok hlv (by omega)).mono fun e w' ⟨y,⟨h1,h2,h3⟩,h4,h5⟩=>?_
   have hn:=Pm h1
   have hi0:tB [] [] (s.tk.map qe) s.of:=by rw[←hE, ←hMs];exact hP.I
   have hq:=(j6.first (m:=y.yN.l.length) hi0).Gz (N:=0) rfl (fun z=>absurd z (Nat.lt_irrefl 0)) y.yN.l.length (bA _)
   rw[show([[]]:List (List jS)).getD 0 []=[]from rfl, ←h2]at hq
   have hinv:tB [[]] [y.yN.l.length] (y.tk.map qe) y.of:=j6.done (N:=0) hq rfl
   refine⟨⟨⟨time,y.pm,y.cm,[y.yN],y.pt,y.ct,s.kd,y.tk,y.of,[[]],[y.yN.l.length],y.yN,vs,[]⟩,[],none,0,y.yN.R (pF (gW h.g) (gH h.g) (ga vs h.lv)),[]⟩,⟨fun w k=>Pn w,fun z=>absurd hok z,fun _=>?_⟩,by rw[h4,hok];rfl,?_⟩
   ·refine⟨⟨?_,hinv,⟨fun n hn=>by have:n+1<1:=hn;omega⟩,rfl,by rw[hV];rfl,fun n hn=>by have:n=y.yN.l.length:=bT.1 hn;omega,by show y.tk.length≤_;omega,fun j=>by have:=hP.kb j;show 0≤s.kd j∧s.kd j≤_;omega,fun j j2 j7=>?_,fun z=>absurd z (pz 0)⟩,rfl,⟨y.yN,by rw[hy0];rfl,fun w k=>VT h1 k⟩,by rw[hE];rfl,by rw[hMs,hn];rfl,fun _=>rfl,fun n z=>by omega,by unfold nxS;rw[if_pos rfl, ←hn];exact h2,rfl⟩
    ·exact BkA.add hP.A (by rw[hV,hMs];rfl) (by rw[hy0];rfl) (by rw[hMs,hn];rfl) h1 (by rw[hMs];exact bG _)
    ·have:=hP.K j j2 j7
     rw[hE]at this
     exact this
   ·rw[←eF]at h5
    exact PM (C:=[]) (by rw[c9];exact h5)
  ·obtain⟨n,rfl⟩:∃n,N=n+1:=⟨N-1,by omega⟩
   obtain⟨yP,hyP⟩:=gE (l:=s.ys) (n:=n) (by omega)
   obtain⟨l2,l3⟩:=hP.A.ar n yP hyP
   refine(aiO b h s.la s.pm s.cm s.ys s.pt s.ct s.kd s.tk s.of time vs pv cv w hF hvv (by rw[hys];exact hok) hlv (by omega) n r hys (by omega) yP hyP (V.getD n []) l2 (fun hs=>hsp hs n yP hyP) s.E s.Ms hP.I hP.n l3.symm hP.A.rc hP.A.r8 (fun j=>by have:=hP.kb j;omega)).mono fun e w' ⟨y,hy,h4,h5⟩=>?_
   have hn:=Pm hy.ar
   have hnp:=Pm l2
   have hev:=hy.ev
   rw[hnp,hn]at hev
   have hg:=hev.I0
   have hgs:iq (s.Ms.getD n 0) (nP h.g vs h.lv) (y.ev.l.map dZ):=by rw[←l3,hnp];exact hg
   have hN2:(s.Ms++[nP h.g vs h.lv]).length=(n+1)+1:=by rw[aZ,hP.n];rfl
   have hEl:(s.E++[y.ev.l.map dZ]).getD (n+1) []=y.ev.l.map dZ:=by
    have e:n+1=s.E.length:=by rw[hP.I.q.len,hP.n]
    rw[e];exact lJ
   have hM1:(s.Ms++[nP h.g vs h.lv]).getD n 0=s.Ms.getD n 0:=rr (by rw[hP.n];omega)
   have hM2:(s.Ms++[nP h.g vs h.lv]).getD (n+1) 0=nP h.g vs h.lv:=by
    have e:n+1=s.Ms.length:=hP.n.symm
    rw[e];exact lJ
   have hq0:=j6.change (m:=nP h.g vs h.lv) hP.I hP.n hgs
   have hgb:0<n+1→iq ((s.Ms++[nP h.g vs h.lv]).getD (n+1-1) 0) ((s.Ms++[nP h.g vs h.lv]).getD (n+1) 0) ((s.E++[y.ev.l.map dZ]).getD (n+1) []):=fun _=>by
    rw[hM2,hEl,show n+1-1=n from rfl,hM1];exact hgs
   have hq:=hq0.Gz (N:=n+1) hN2 hgb (nP h.g vs h.lv) (by rw[hM2];exact bA _)
   rw[hEl]at hq
   have htrk:=hy.trk
   rw[hn]at htrk
   rw[←htrk]at hq
   have hinv:tB (s.E++[y.ev.l.map dZ]) (s.Ms++[nP h.g vs h.lv]) (y.tk.map qe) y.of:=j6.done (N:=n+1) (by rw[hM2];exact hq) hN2
   have hevl:=hg.adV
   rw[aq]at hevl
   have hnv:nP h.g (V.getD n []) h.lv≤4096:=abq hle
   have hyl:=hy.len
   have hk0:∀e,e∈y.ev.l.map dZ→0≤e.kd:=fun e he=>by rw[(hg.kd e he).1];have:=(Jt e.f.length e.t.length).1;omega
   refine⟨⟨⟨time,y.pm,y.cm,s.ys++[y.yN],y.pt,y.ct,y.kd,y.tk,y.of,s.E++[y.ev.l.map dZ],s.Ms++[nP h.g vs h.lv],y.yN,vs,[]⟩,y.ev.l,y.ev.p,y.ev.c,y.yN.R (pF (gW h.g) (gH h.g) (ga vs h.lv)),y.ev.R⟩,⟨fun w k=>YF k,fun z=>absurd hok z,fun _=>?_⟩,by rw[h4,hok],?_⟩
   ·refine⟨⟨?_,hinv,VW hP.G hP.n hP.I.q.len hgs,hN2,by rw[aZ,hP.v];rfl,fun k hk=>?_,by show y.tk.length≤_;omega,fun j=>?_,fun j j2 j7=>?_,fun z=>absurd z (pz _)⟩,rfl,⟨y.yN,rfl,fun w k=>VT hy.ar k⟩,rfl,rfl,fun z=>absurd z (pz n),fun m hm=>?_,?_,hy.kd⟩
    ·exact BkA.add hP.A (by rw[hP.v,hP.n]) rfl rfl hy.ar (by rw[hP.n];omega)
    ·rcases bZ.1 hk with z|z
     ·exact hP.mb k z
     ·have:=bT.1 z;omega
    ·have hz:=MS (es:=y.ev.l.map dZ) (kd:=s.kd) (B:=10000*((n+1:Nat):Int)) (fun j=>hP.kb j) j
     show 0≤y.kd j∧y.kd j≤_
     rw[hy.kd]
     rw[aq]at hz
     omega
    ·show y.kd j=_
     rw[hy.kd,T5 hk0,hP.K j j2 j7]
     show _=cK (s.E++[y.ev.l.map dZ]).flatten j
     rw[List.flatten_append,Ux]
     simp
    ·have:m=n:=by omega
     subst this
     exact hev
    ·unfold nxS
     rw[if_neg (pz n)]
     exact htrk
   ·exact PM (A:=yi b h time y.pm y.cm (s.ys++[y.yN]) y.pt y.ct y.kd y.tk y.of) (by rw[dp];exact h5)
 ·have hne:oU h s.la (⟨s.pm,s.ys.length,s.cm⟩:RL).nm time g vs≠0:=by show oU h s.la s.ys.length time g vs≠0;rw[hys];exact hok
  have hs0:Calls ae 63 #[.pointer (some ⟨b,0,none⟩),.int .i64 time,.agg #[.int .i64 g.x,.int .i64 g.y,.int .i64 g.size,.int .i64 g.wide,.int .i64 g.high,.slice pv vs.length cv]] w _:=aiB b h s.la ⟨s.pm,s.ys.length,s.cm⟩ s.pt s.tk.length s.ct s.kd time g vs pv cv w hb (hvv hh.enter) hne
  refine hs0.mono fun e w' ⟨h1,h2⟩=>⟨⟨s,[],none,0,[],[]⟩,⟨fun w k=>Pn w,fun _=>⟨rfl,rfl⟩,fun z=>absurd z hok⟩,?_,?_⟩
  ·rw[h1]
   show cW (.tuple #[.slice none 0 0,.int .i64 (oU h s.la s.ys.length time g vs)])=_
   rw[hys];rfl
  ·have h3:St ⟨w,lu [bS (s.F b h)]⟩ ([]++[bS (s.F b h)]) w':=hh.enter.call h2
   exact((fH (Rs:=[]) (fH (Rs:=[]) h3)).perm (by
    have:[bS [],bS [],bS (s.F b h)].Perm [bS (s.F b h),bS [],bS []]:=jm (l₁:=[_,_])
    exact this))
theorem ML.mkF {w:World} {b:Nat} {h:qt} {s:rk} (k:∀r,r∈s.F b h→r.inv w):ML w b h s where
 c:=by
  have z:=k (de b (.cells (C3 h s.la ⟨s.pm,s.ys.length,s.cm⟩ s.pt s.tk.length s.ct s.kd).toArray 345)) (by unfold rk.F yi;simp)
  have y:=iE z
  simpa using y
 tk:=jT (k (own 204 6 s.pt s.ct (s.tk.map dA.cells)) (by unfold rk.F yi;simp))
 ti:=fun t ht=>⟨jT ((k (bS (s.tk.map dA.aR)) (by unfold rk.F yi;simp)).1 _ (bE (f:=dA.aR) ht)),jT ((k (bS (s.tk.map dA.pR)) (by unfold rk.F yi;simp)).1 _ (bE (f:=dA.pR) ht)),jT ((k (bS (s.tk.map dA.cR)) (by unfold rk.F yi;simp)).1 _ (bE (f:=dA.cR) ht))⟩
 of:=k (kM M0 Ey h.bm (BF s.of)) (by unfold rk.F yi;simp)
theorem afb {w:World} {b:Nat} {h:qt} {s:rk} (k:∀r,r∈s.F b h→r.inv w):RO 7 (spC h.g) w s.pm s.ys:=jT (k (own 347 7 s.pm s.cm (s.ys.map (spC h.g))) (by unfold rk.F yi;simp))
theorem BjP.bk {h:qt} {r N:Nat} {s:rk} {V:List (List Span)} (hP:BjP h r N s V) (hN:N≤7):BkT s (s.tk.map qe):=⟨rfl,hP.I,by have:=hP.tk;omega⟩
theorem C65:ef ae 65:=⟨_,Tryz.func65,by decide,rfl⟩
theorem Re (g:cU) (lv rc:Int) (w:World) (hok:Dc g lv rc=0):Calls ae 62 #[uk g,.int .i64 lv,.int .i64 rc] w fun e w'=>∃y:Nat×Nat,True∧e= .returned (.tuple #[.pointer (some ⟨y.1,0,none⟩),.int .i64 0])∧St (bs w) [bS ((bk0 ⟨g,lv,rc,y.2⟩).F y.1 ⟨g,lv,rc,y.2⟩)] w':=by
 refine(My g lv rc w hok).mono fun e w' ⟨y,_,h2,h3⟩=>⟨y,trivial,h2,?_⟩
 have h1:=St.G5 (St.G5 ((St.G5 (h3.fX 204 6)).fX 347 7))
 have h4:=bM (L1:=[_,_,_,_,_,_,_]) [5,4,3,6,2,1,0] rfl rfl _ h1
 exact fH (Rs:=(bk0 ⟨g,lv,rc,y.2⟩).F y.1 ⟨g,lv,rc,y.2⟩) (L:=[]) (by rw[c9];exact h4)
end Go.Proofs.YtffbohecdocajaaGreat
namespace Go.Proofs.YtffbohecdocajaaGreat
open Go.SL Go.Proofs Go.qO
set_option linter.unusedVariables false
theorem TK:bV ae 214 0 0:=⟨_,_,sk,rfl,rfl,1,by kernel_rfl⟩
theorem Yx:ef ae 145:=⟨_,Tryz.func145,by decide,rfl⟩
theorem VJ:bV ae 214 1 2:=⟨_,_,sk,rfl,rfl,1,by kernel_rfl⟩
theorem aeV:ef ae 147:=⟨_,Tryz.func147,by decide,rfl⟩
theorem vk (n lo hi:Int) (w:World):
 Calls ae 86 #[.int .i64 n,.int .i64 lo,.int .i64 hi] w fun e w'=>e= .returned (.bool (decide (lo≤n)&&decide (n≤hi)))∧St (bs w) [] w':=by
 refine enter (vs:=[_,_,_]) (env:=[(0,_),(1,_),(2,_)]) Tryz.func86 rfl rfl rfl rfl ?_
 refine VC.q (VO.a rfl<|VO.n<|VC.q (VO.m rfl<|VO.m rfl<|ah (iI (.r rfl) (.r rfl)) rfl<|VO.m rfl<|VO.gt rfl (fun hg=>bJ (.r rfl))<|VO.gt rfl (fun hg=>bJ (.r rfl))<|VO.gt rfl (fun hg=>iI (.g hg rfl) (.g hg rfl))<|ah (dJ (.r rfl) rfl rfl (.r rfl)) rfl<|VO.a rfl<|VO.n<|aP (VE.s rfl rfl (fun w hw=>?_))))
 exact⟨rfl,hw.nil⟩
theorem yQ (s t lo hi:Int) (w:World):
 Calls ae 145 #[.agg #[.int .i64 s,.int .i64 t],.int .i64 lo,.int .i64 hi] w fun e w'=>e= .returned (.bool ((decide (lo≤s)&&decide (s≤t))&&decide (t≤hi)))∧St (bs w) [] w':=by
 refine enter (vs:=[_,_,_]) (env:=[(0,_),(1,_),(2,_)]) Tryz.func145 rfl rfl rfl rfl ?_
 refine VC.q (aD rfl<|cf (C:=#[_,_]) rfl rfl fun b1=>VO.a rfl<|VO.n<|VC.q (VO.m rfl<|VO.f (r:=0) rL rfl<|VO.c 0 O3 rfl rfl ⟨_,rfl⟩ rfl<|ah (iI (.r rfl) (.r rfl)) rfl<|VO.m rfl<|VO.gt rfl (fun hg=>aE (r:=0) rL (.r rfl) rfl)<|VO.gt rfl (fun hg=>aB O3 (.g hg rfl) (ax 0 rfl ⟨_,rfl⟩))<|VO.gt rfl (fun hg=>aE (r:=1) rR (.r rfl) rfl)<|VO.gt rfl (fun hg=>aB O3 (.g hg rfl) (ax 0 rfl ⟨_,rfl⟩))<|VO.gt rfl (fun hg=>iI (.g hg rfl) (.g hg rfl))<|ah (dJ (.r rfl) rfl rfl (.r rfl)) rfl<|VO.m rfl<|VO.gt rfl (fun hg=>aE (r:=1) rR (.r rfl) rfl)<|VO.gt rfl (fun hg=>aB O3 (.g hg rfl) (ax 0 rfl ⟨_,rfl⟩))<|VO.gt rfl (fun hg=>bJ (.r rfl))<|VO.gt rfl (fun hg=>iI (.g hg rfl) (.g hg rfl))<|ah (dJ (.r rfl) rfl rfl (.r rfl)) rfl<|VO.a rfl<|VO.n<|aP (VE.s rfl rfl (fun w hw=>?_))))
 exact⟨rfl,hw.nil⟩
theorem Ba (f:Au) (w:World):
 Calls ae 149 #[uo f] w fun e w'=>e= .returned (.int .i64 (yr f))∧St (bs w) [] w':=by
 refine enter (vs:=[_]) (env:=[(0,_)]) Tryz.func149 rfl rfl rfl rfl ?_
 refine VC.q (aD rfl<|cf (C:=#[_,_,_,_]) rfl rfl fun b1=>VO.a rfl<|VO.n<|ak<|VC.q (VO.f (r:=0) TK rfl<|ah (aM (vs:=[_,_]) xb (.r rfl) (ax 0 rfl ⟨_,rfl⟩) rfl) rfl<|ah (bD (xs:=[_,_,_]) (vs:=[_,_,_]) Yx ⟨(.r rfl),(.r rfl),(.r rfl),trivial⟩ (fun w _=>yQ _ _ _ _ w)) rfl<|ah (LO.not (.r rfl)) rfl<|VO.m rfl<|VO.gf rfl (fun hg=>aE (r:=2) VJ (.r rfl) rfl)<|VO.gf rfl (fun hg=>aM (vs:=[_,_]) xb (.g hg rfl) (ax 0 rfl ⟨_,rfl⟩) rfl)<|VO.gf rfl (fun hg=>bD (xs:=[_,_,_]) (vs:=[_,_,_]) Yx ⟨(.g hg rfl),(.r rfl),(.r rfl),trivial⟩ (fun w _=>yQ _ _ _ _ w))<|VO.gf rfl (fun hg=>LO.not (.g hg rfl))<|ah (dO (.r rfl) (.r rfl) rfl rfl) rfl<|VO.n ?_))
 refine ay rfl (fun h1=>?_) (fun h1=>?_)
 ·
  refine VC.q (VO.a rfl<|VO.n<|aP (a8 (VE.s rfl rfl (fun w hw=>?_))))
  exact⟨by simp only[gF,yr];first |rw[if_pos (by unfold im;omega)]|rw[if_neg (by unfold im;omega)],hw.nil⟩
 ·
  refine aC (ag<|VC.q (VO.a rfl<|VO.n<|aP (VE.s rfl rfl (fun w hw=>?_))))
  exact⟨by simp only[gF,yr];first |rw[if_pos (by unfold im;omega)]|rw[if_neg (by unfold im;omega)],hw.nil⟩
theorem Nq (a b:Int) (h1: -9223372036854775807≤a) (h2:a≤9223372036854775807) (hb:0<b) (w:World):
 Calls ae 147 #[.int .i64 a,.int .i64 b] w fun e w'=>e= .returned (.int .i64 (a / b))∧St (bs w) [] w':=by
 have ⟨q1,q2,q3,q4,q5⟩:=PB a b hb h1 h2
 refine enter (vs:=[_,_]) (env:=[(0,_),(1,_)]) Tryz.func147 rfl rfl rfl rfl ?_
 refine VC.q (VO.a rfl<|VO.n<|VC.q (VO.m rfl<|VO.m rfl<|ah (LO.quo (.r rfl) (.r rfl) (by omega) (wi (by omega) (by omega))) rfl<|VO.a rfl<|VO.n<|ak ?_))
 refine VC.q (VO.m rfl<|VO.m rfl<|ah (kj (.r rfl) (.r rfl) (by omega)) rfl<|VO.t rfl<|VO.n<|ay rfl (fun h1=>?_) (fun h1=>?_))
 ·
  refine aF (VO.m rfl<|ah (dv (.r rfl) (.r rfl) (wi (by omega) (by omega))) rfl<|VO.a rfl<|VO.n<|VC.q (VO.m rfl<|VO.a rfl<|VO.n<|aP (VE.s rfl rfl (fun w hw=>?_))))
  exact⟨by simp only[gF];congr 2;omega,hw.nil⟩
 ·
  refine aC (ag<|VC.q (VO.m rfl<|VO.a rfl<|VO.n<|aP (VE.s rfl rfl (fun w hw=>?_))))
  exact⟨by simp only[gF];congr 2;omega,hw.nil⟩
theorem ahv (a b:Int) (h1: -9223372036854775807≤a) (h2:a≤9223372036854775807) (hb:0<b) (w:World):
 Calls ae 148 #[.int .i64 a,.int .i64 b] w fun e w'=>e= .returned (.int .i64 (-(-a / b)))∧St (bs w) [] w':=by
 have ⟨q1,q2,q3,q4,q5⟩:=PB (-a) b hb (by omega) (by omega)
 have q6:=Zx (-a) b hb (by omega)
 refine enter (vs:=[_,_]) (env:=[(0,_),(1,_)]) Tryz.func148 rfl rfl rfl rfl ?_
 refine VC.q (VO.a rfl<|VO.n<|VC.q (VO.m rfl<|ah (LO.neg (.r rfl) (wi (by omega) (by omega))) rfl<|VO.m rfl<|ah (bD (xs:=[_,_]) (vs:=[_,_]) aeV ⟨(.r rfl),(.r rfl),trivial⟩ (fun w _=>Nq _ _ (by omega) (by omega) (by omega) w)) rfl<|ah (LO.neg (.r rfl) (wi (by omega) (by omega))) rfl<|VO.a rfl<|VO.n<|aP (VE.s rfl rfl (fun w hw=>?_))))
 exact⟨rfl,hw.nil⟩
theorem O0 (p:Option Addr) (l:List Int) (c:Nat) (w:World) (hn:l.length<1000000000000) (hl:Ints w p l):
 Calls ae 152 #[.slice p l.length c] w fun e w'=>∃b,True∧e= .returned (.map (some b))∧St (bs w) [oN b (fW l)] w':=by
 refine enter (vs:=[_]) (env:=[(0,_)]) Tryz.func152 rfl rfl rfl rfl ?_
 refine VC.q (VO.a rfl<|VO.n<|VC.q (aD rfl<|HO.ahE fun b1=>aD rfl<|aO (LO.as (.r rfl))<|VO.n<|ak ?_))
 refine VC.q (VO.m rfl<|ah (bW ei (.r rfl) rfl) rfl<|VO.m rfl<|VO.n<|aG<|bY 1 (fun j=>[(9,.int .i64 (j:Nat))]) [(3,_),(7,_),(8,_)] (fun j=>[oN b1 (fW (l.take j))]) (fun j=>j≤l.length) (fun j=>l.length-j) 0 (by omega) (.c4 rfl rfl rfl rfl .nil) (fun w h=>by rw[show fW (l.take 0)=fun _=>false from funext fun _=>by simp [fW]];exact h) ?_)
 rintro j hj
 refine VC.q (VO.t rfl<|VO.n<|ak<|ay rfl (fun h1=>?_) (fun h1=>?_))
 ·
  refine aC (ag<|ak<|aG<|VC.q (ah (cw ei N3 hl.some (.r rfl) (.r rfl) rfl (by omega)) rfl<|ah (aB O3 (.r rfl) (hl.at (j:=j) (by omega))) rfl<|VO.a rfl<|VO.n<|aF (VO.m rfl<|VO.m rfl<|bU<|HO.mu 0 (fun R=>[R]) Y1 (.r rfl) (.r rfl) (.r rfl) rfl (fun _=>rfl)<|aI ?_)))
  refine bB (ag<|aF (VO.p rfl rfl (by omega) (by omega) rfl<|VO.m rfl<|aI<|bn fun a w ha hw=>⟨j+1,by omega,by omega,ha.sub (.c4 rfl rfl rfl rfl .nil),by have e:=Rl l (j:=j) (by omega);rw[e];exact hw⟩))
 ·
  refine ca (aL (aL (cD (ag<|VC.q (VO.m rfl<|VO.a rfl<|VO.n<|aP (VE.s rfl rfl (fun w hw=>?_)))))))
  have e:l.take j=l:=dK (by omega)
  exact⟨b1,trivial,rfl,by rw[e]at hw;exact hw⟩
theorem UJ:bV ae 218 2 2:=⟨_,_,mC,rfl,rfl,3,by kernel_rfl⟩
theorem EA:jX ae 214 4:=⟨⟨_,sk,rfl⟩,by kernel_rfl⟩
theorem ahI:ef ae 149:=⟨_,Tryz.func149,by decide,rfl⟩
theorem U2:bV ae 218 3 6:=⟨_,_,mC,rfl,rfl,0,by kernel_rfl⟩
theorem C86:ef ae 86:=⟨_,Tryz.func86,by decide,rfl⟩
theorem xG:bV ae 218 1 1:=⟨_,_,mC,rfl,rfl,0,by kernel_rfl⟩
theorem XX:ef ae 152:=⟨_,Tryz.func152,by decide,rfl⟩
theorem CU:bV ae 218 0 0:=⟨_,_,mC,rfl,rfl,0,by kernel_rfl⟩
abbrev Ac (ps:Option Addr) (cs:Nat) (pm:Option Addr) (cm:Nat) (c:cZ):Value:=.agg #[.slice ps c.sure.length cs,.slice pm c.may.length cm,.int .i64 c.fh.a,.int .i64 c.fh.b,.int .i64 c.fh.c,.int .i64 c.fh.d,.int .i64 c.grow]
theorem yH (g:cU) (c:cZ) (ps pm:Option Addr) (cs cm:Nat) (w:World) (hns:c.sure.length<1000000000000) (hnm:c.may.length<1000000000000) (hs:Ints w ps c.sure) (hm:Ints w pm c.may):
 Calls ae 84 #[uk g,Ac ps cs pm cm c] w fun e w'=>e= .returned (.int .i64 (fy g c))∧St (bs w) [] w':=by
 refine enter (vs:=[_,_]) (env:=[(0,_),(1,_)]) Tryz.func84 rfl rfl rfl rfl ?_
 refine VC.q (aD rfl<|cf (C:=#[_,_,_,_,_]) rfl rfl fun b1=>aD rfl<|cf (C:=#[_,_,_,_,_,_,_]) rfl rfl fun b2=>VO.a rfl<|VO.n<|ak<|VC.q (ah (aM (vs:=[_,_,_,_,_]) vS (.r rfl) (ax 1 rfl ⟨_,rfl⟩) rfl) rfl<|ah (bD (xs:=[_]) (vs:=[_]) C83 ⟨(.r rfl),trivial⟩ (fun w _=>pT g w)) rfl<|VO.a rfl<|VO.n ?_))
 refine VC.q (VO.m rfl<|VO.u rfl<|VO.n<|ay rfl (fun h1=>?_) (fun h1=>?_))
 ·
  refine VC.q (VO.m rfl<|VO.a rfl<|VO.n<|aP (a8 (VE.s rfl rfl (fun w hw=>?_))))
  refine⟨?_,hw.nil⟩
  simp only[gF]
  congr 2
  first |exact Yq h1|exact XO hgo h2|exact XI hgo hfo h3|exact XH hgo hfo h3 h4|exact Zp hgo hfo h3 h4 hz h5 h6|exact X0 hgo hfo h3 h4 hz h5 h6 h7|exact ZK hgo hfo h3 h4 hm0 hz h8 h9|exact ZH hgo hfo h3 h4 hm0 hz h8 h9 h10|exact X4 hgo hfo h3 h4 hm0 hz h8
 ·
  have hgo:cF g:=we h1
  have har:=rP hgo
  refine aC (ag<|ak<|VC.q (VO.f (r:=2) UJ rfl<|ah (aM (vs:=[_,_,_,_]) EA (.r rfl) (ax 0 rfl ⟨_,rfl⟩) rfl) rfl<|ah (bD (xs:=[_]) (vs:=[_]) ahI ⟨(.r rfl),trivial⟩ (fun w _=>Ba c.fh w)) rfl<|VO.a rfl<|VO.n<|VC.q (VO.m rfl<|VO.u rfl<|aI ?_)))
  refine ag<|ay rfl (fun h2=>?_) (fun h2=>?_)
  ·
   refine VC.q (VO.m rfl<|VO.a rfl<|VO.n<|aP (a8 (VE.s rfl rfl (fun w hw=>?_))))
   refine⟨?_,hw.nil⟩
   simp only[gF]
   congr 2
   first |exact Yq h1|exact XO hgo h2|exact XI hgo hfo h3|exact XH hgo hfo h3 h4|exact Zp hgo hfo h3 h4 hz h5 h6|exact X0 hgo hfo h3 h4 hz h5 h6 h7|exact ZK hgo hfo h3 h4 hm0 hz h8 h9|exact ZH hgo hfo h3 h4 hm0 hz h8 h9 h10|exact X4 hgo hfo h3 h4 hm0 hz h8
  ·
   have hfo:im c.fh:=Fj h2
   refine aC (ag<|ak<|aG<|VC.q (VO.f (r:=6) U2 rfl<|VO.c 0 O3 rfl rfl ⟨_,rfl⟩ rfl<|ah (bD (xs:=[_,_,_]) (vs:=[_,_,_]) C86 ⟨(.r rfl),(.r rfl),(.r rfl),trivial⟩ (fun w _=>vk _ _ _ w)) rfl<|ah (LO.not (.r rfl)) rfl<|VO.a rfl<|VO.n<|ay rfl (fun h3=>?_) (fun h3=>?_)))
   ·
    refine VC.q (VO.a rfl<|VO.n<|aP (cI (a8 (VE.s rfl rfl (fun w hw=>?_)))))
    refine⟨?_,hw.nil⟩
    simp only[gF]
    congr 2
    first |exact Yq h1|exact XO hgo h2|exact XI hgo hfo h3|exact XH hgo hfo h3 h4|exact Zp hgo hfo h3 h4 hz h5 h6|exact X0 hgo hfo h3 h4 hz h5 h6 h7|exact ZK hgo hfo h3 h4 hm0 hz h8 h9|exact ZH hgo hfo h3 h4 hm0 hz h8 h9 h10|exact X4 hgo hfo h3 h4 hm0 hz h8
   ·
    refine VC.q (VO.f (r:=1) xG rfl<|VO.c 0 ij rfl rfl ⟨_,rfl⟩ rfl<|ah (bW ei (.r rfl) rfl) rfl<|ah (LO.eq (.r rfl) (.r rfl)) rfl<|VO.a rfl<|VO.n<|ay rfl (fun h4=>?_) (fun h4=>?_))
    ·
     refine VC.q (VO.a rfl<|VO.n<|aP (cI (a8 (VE.s rfl rfl (fun w hw=>?_)))))
     refine⟨?_,hw.nil⟩
     simp only[gF]
     congr 2
     first |exact Yq h1|exact XO hgo h2|exact XI hgo hfo h3|exact XH hgo hfo h3 h4|exact Zp hgo hfo h3 h4 hz h5 h6|exact X0 hgo hfo h3 h4 hz h5 h6 h7|exact ZK hgo hfo h3 h4 hm0 hz h8 h9|exact ZH hgo hfo h3 h4 hm0 hz h8 h9 h10|exact X4 hgo hfo h3 h4 hm0 hz h8
    ·
     refine aC (bB (ag<|ak<|VC.q (VO.f (r:=1) xG rfl<|VO.c 0 ij rfl rfl ⟨_,rfl⟩ rfl<|ah (bW ei (.r rfl) rfl) rfl<|VO.m rfl<|VO.n<|aG<|bY 0 (fun j=>[(36,.int .i64 (j:Nat))]) [(2,_),(3,_),(34,_),(35,_)] (fun j=>[]) (fun j=>j≤c.may.length∧∀k,k<j→lO g c.may k=0) (fun j=>c.may.length-j) 0 (by exact⟨by omega,fun k hk=>by omega⟩) (.c4 rfl rfl rfl rfl (.cons rfl .nil)) (fun _ h=>h) ?_)))
     rintro j ⟨hj,hz⟩
     refine VC.q (VO.t rfl<|VO.n<|ak<|ay rfl (fun h5=>?_) (fun h5=>?_))
     ·
      refine aC (ag<|ak<|aG<|VC.q (VO.m rfl<|ah (cw ei N3 hm.some (.r rfl) (.r rfl) rfl (by omega)) rfl<|ah (aB O3 (.r rfl) (hm.at (j:=_) (by omega))) rfl<|VO.a rfl<|VO.a rfl<|VO.n<|aG ?_))
      refine VC.q (VO.m rfl<|VO.f (r:=3) jD rfl<|VO.c 1 O3 rfl rfl ⟨_,rfl⟩ rfl<|VO.f (r:=4) qH rfl<|VO.c 1 O3 rfl rfl ⟨_,rfl⟩ rfl<|ah (gG (.r rfl) (.r rfl) (wi (by omega) (by omega))) rfl<|ah (dv (.r rfl) (.r rfl) (wi (by omega) (by omega))) rfl<|ah (bD (xs:=[_,_,_]) (vs:=[_,_,_]) C86 ⟨(.r rfl),(.r rfl),(.r rfl),trivial⟩ (fun w _=>vk _ _ _ w)) rfl<|ah (LO.not (.r rfl)) rfl<|VO.a rfl<|VO.n<|ay rfl (fun h6=>?_) (fun h6=>?_))
      ·
       refine VC.q (VO.a rfl<|VO.n<|aP (cI (cI (a8 (a8 (cI (a8 (VE.s rfl rfl (fun w hw=>?_)))))))))
       refine⟨?_,hw.nil⟩
       simp only[gF]
       congr 2
       first |exact Yq h1|exact XO hgo h2|exact XI hgo hfo h3|exact XH hgo hfo h3 h4|exact Zp hgo hfo h3 h4 hz h5 h6|exact X0 hgo hfo h3 h4 hz h5 h6 h7|exact ZK hgo hfo h3 h4 hm0 hz h8 h9|exact ZH hgo hfo h3 h4 hm0 hz h8 h9 h10|exact X4 hgo hfo h3 h4 hm0 hz h8
      ·
       refine VC.q (VO.m rfl<|ah (LO.gt (.r rfl) (.r rfl)) rfl<|VO.m rfl<|VO.gt rfl (fun hg=>bJ (.r rfl))<|VO.gt rfl (fun hg=>aE (r:=1) xG (.r rfl) rfl)<|VO.gt rfl (fun hg=>aB ij (.g hg rfl) (ax 0 rfl ⟨_,rfl⟩))<|VO.gt rfl (fun hg=>bJ (.r rfl))<|VO.gt rfl (fun hg=>dv (.g hg rfl) (.r rfl) (wi (by omega) (by omega)))<|VO.gt rfl (fun hg=>cw ei N3 hm.some (.g hg rfl) (.g hg rfl) (by have:=of_decide_eq_true hg;omega) (by omega))<|VO.gt rfl (fun hg=>aB O3 (.g hg rfl) (hm.at (j:=(j-1)) (by omega)))<|VO.gt rfl (fun hg=>iI (.g hg rfl) (.g hg rfl))<|ah (dJ (.r rfl) rfl rfl (.r rfl)) rfl<|VO.a rfl<|VO.n<|ay rfl (fun h7=>?_) (fun h7=>?_))
       ·
        refine VC.q (VO.a rfl<|VO.n<|aP (cI (cI (a8 (a8 (cI (a8 (VE.s rfl rfl (fun w hw=>?_)))))))))
        refine⟨?_,hw.nil⟩
        simp only[gF]
        congr 2
        first |exact Yq h1|exact XO hgo h2|exact XI hgo hfo h3|exact XH hgo hfo h3 h4|exact Zp hgo hfo h3 h4 hz h5 h6|exact X0 hgo hfo h3 h4 hz h5 h6 h7|exact ZK hgo hfo h3 h4 hm0 hz h8 h9|exact ZH hgo hfo h3 h4 hm0 hz h8 h9 h10|exact X4 hgo hfo h3 h4 hm0 hz h8
       ·
        refine aC (bB (bB (ag<|aF (VO.p rfl rfl (by omega) (by omega) rfl<|VO.m rfl<|aI<|bn fun a w ha hw=>⟨j+1,⟨by omega,q8 hz (Fm h6 h7)⟩,by omega,ha.sub (.c4 rfl rfl rfl rfl (.cons rfl .nil)),hw⟩))))
     ·
      refine ca (aL (aL (cD (ag<|ak ?_))))
      have hm0:gy (lO g c.may) c.may.length=0:=iw (fun k hk=>hz k (by omega))
      refine aF (VO.f (r:=1) xG rfl<|VO.c 0 ij rfl rfl ⟨_,rfl⟩ rfl<|aD rfl<|cz (xs:=[_]) (vs:=[_]) XX ⟨(.r rfl),trivial⟩ (fun w hw=>O0 _ _ _ w (by omega) (hm.keep w hw)) fun qhm _=>aD rfl<|aO (LO.as (.r rfl))<|VO.n<|ak<|VC.q (VO.f (r:=0) CU rfl<|VO.c 1 ij rfl rfl ⟨_,rfl⟩ rfl<|ah (bW ei (.r rfl) rfl) rfl<|VO.m rfl<|VO.n<|aG ?_))
      refine bY 0 (fun j=>[(71,.int .i64 (j:Nat))]) [(2,_),(3,_),(9,_),(69,_),(70,_)] (fun j=>[]) (fun j=>j≤c.sure.length∧∀k,k<j→rK c.may c.sure k=0) (fun j=>c.sure.length-j) 0 (by exact⟨by omega,fun k hk=>by omega⟩) (.c4 rfl rfl rfl rfl (.cons rfl (.cons rfl .nil))) (fun _ h=>h) ?_
      rintro j ⟨hj,hz⟩
      refine VC.q (VO.t rfl<|VO.n<|ak<|ay rfl (fun h8=>?_) (fun h8=>?_))
      ·
       refine aC (ag<|ak<|aG<|VC.q (VO.m rfl<|ah (cw ei N3 hs.some (.r rfl) (.r rfl) rfl (by omega)) rfl<|ah (aB O3 (.r rfl) (hs.at (j:=j) (by omega))) rfl<|VO.a rfl<|VO.a rfl<|VO.n<|aG ?_))
       refine VC.q (VO.m rfl<|ah (LO.gt (.r rfl) (.r rfl)) rfl<|VO.m rfl<|VO.gt rfl (fun hg=>bJ (.r rfl))<|VO.gt rfl (fun hg=>aE (r:=0) CU (.r rfl) rfl)<|VO.gt rfl (fun hg=>aB ij (.g hg rfl) (ax 1 rfl ⟨_,rfl⟩))<|VO.gt rfl (fun hg=>bJ (.r rfl))<|VO.gt rfl (fun hg=>dv (.g hg rfl) (.r rfl) (wi (by omega) (by omega)))<|VO.gt rfl (fun hg=>cw ei N3 hs.some (.g hg rfl) (.g hg rfl) (by have:=of_decide_eq_true hg;omega) (by omega))<|VO.gt rfl (fun hg=>aB O3 (.g hg rfl) (hs.at (j:=(j-1)) (by omega)))<|VO.gt rfl (fun hg=>iI (.g hg rfl) (.g hg rfl))<|ah (dJ (.r rfl) rfl rfl (.r rfl)) rfl<|VO.a rfl<|VO.n<|ay rfl (fun h9=>?_) (fun h9=>?_))
       ·
        refine VC.q (VO.a rfl<|VO.n<|aP (cI (cI (a8 (a8 (cI (a8 (VE.s rfl rfl (fun w hw=>?_)))))))))
        refine⟨?_,hw.nil⟩
        simp only[gF]
        congr 2
        first |exact Yq h1|exact XO hgo h2|exact XI hgo hfo h3|exact XH hgo hfo h3 h4|exact Zp hgo hfo h3 h4 hz h5 h6|exact X0 hgo hfo h3 h4 hz h5 h6 h7|exact ZK hgo hfo h3 h4 hm0 hz h8 h9|exact ZH hgo hfo h3 h4 hm0 hz h8 h9 h10|exact X4 hgo hfo h3 h4 hm0 hz h8
       ·
        refine VC.q (VO.m rfl<|VO.m rfl<|ah (LO.lk Y1 (.r rfl) (.r rfl) (fun _ hw=>dL hw 0 _ rfl)) rfl<|ah (LO.not (.r rfl)) rfl<|VO.a rfl<|VO.n<|ay rfl (fun h10=>?_) (fun h10=>?_))
        ·
         refine VC.q (VO.a rfl<|VO.n<|aP (cI (cI (a8 (a8 (cI (a8 (VE.s rfl rfl (fun w hw=>?_)))))))))
         refine⟨?_,hw.nil⟩
         simp only[gF]
         congr 2
         first |exact Yq h1|exact XO hgo h2|exact XI hgo hfo h3|exact XH hgo hfo h3 h4|exact Zp hgo hfo h3 h4 hz h5 h6|exact X0 hgo hfo h3 h4 hz h5 h6 h7|exact ZK hgo hfo h3 h4 hm0 hz h8 h9|exact ZH hgo hfo h3 h4 hm0 hz h8 h9 h10|exact X4 hgo hfo h3 h4 hm0 hz h8
        ·
         refine aC (bB (bB (ag<|aF (VO.p rfl rfl (by omega) (by omega) rfl<|VO.m rfl<|aI<|bn fun a w ha hw=>⟨j+1,⟨by omega,q8 hz (MI h9 h10)⟩,by omega,ha.sub (.c4 rfl rfl rfl rfl (.cons rfl (.cons rfl .nil))),hw⟩))))
      ·
       refine ca (aL (aL (cD (ag<|VC.q (VO.a rfl<|VO.n<|aP (VE.s rfl rfl (fun w hw=>?_)))))))
       refine⟨?_,hw.nil⟩
       simp only[gF]
       congr 2
       first |exact Yq h1|exact XO hgo h2|exact XI hgo hfo h3|exact XH hgo hfo h3 h4|exact Zp hgo hfo h3 h4 hz h5 h6|exact X0 hgo hfo h3 h4 hz h5 h6 h7|exact ZK hgo hfo h3 h4 hm0 hz h8 h9|exact ZH hgo hfo h3 h4 hm0 hz h8 h9 h10|exact X4 hgo hfo h3 h4 hm0 hz h8
theorem adg:cj ae 262 (.agg #[.int .i64 0,.int .i64 0,.int .i64 0,.int .i64 0,.int .i64 0,.map none,.map none,.int .i64 0,.int .i64 0,.int .i64 0,.int .i64 0,.int .i64 0]):=by unfold cj;kernel_rfl
theorem ame:ed ae 262 [(0,5),(5,1),(6,1),(7,4),(11,1)] [.int .i64 0,.int .i64 0,.int .i64 0,.int .i64 0,.int .i64 0,.map none,.map none,.int .i64 0,.int .i64 0,.int .i64 0,.int .i64 0,.int .i64 0]:=ed.mk fun _=>by kernel_rfl
theorem XU:(ae.info? 262).map (·.size)=some 12:=by kernel_rfl
theorem Rn:jX ae 262 12:=⟨⟨_,k8,rfl⟩,by kernel_rfl⟩
theorem Vl:bV ae 262 4 11:=⟨_,_,k8,rfl,rfl,0,by kernel_rfl⟩
theorem ah3:ef ae 148:=⟨_,Tryz.func148,by decide,rfl⟩
abbrev GK (a b:Nat) (g:cU) (c:cZ):Value:=.agg #[.int .i64 g.x,.int .i64 g.y,.int .i64 g.size,.int .i64 g.wide,.int .i64 g.high,.map (some a),.map (some b),.int .i64 c.fh.a,.int .i64 c.fh.b,.int .i64 c.fh.c,.int .i64 c.fh.d,.int .i64 c.grow]
theorem VQ (g:cU) (c:cZ) (ps pm:Option Addr) (cs cm:Nat) (w:World) (hns:c.sure.length<1000000000000) (hnm:c.may.length<1000000000000) (hs:Ints w ps c.sure) (hm:Ints w pm c.may):
 Calls ae 85 #[uk g,Ac ps cs pm cm c] w fun e w'=>∃q:Nat×Nat,True∧e= .returned (GK q.1 q.2 g c)∧St (bs w) [oN q.2 (fW c.may),oN q.1 (fW c.sure)] w':=by
 refine enter (vs:=[_,_]) (env:=[(0,_),(1,_)]) Tryz.func85 rfl rfl rfl rfl ?_
 refine VC.q (aD rfl<|cf (C:=#[_,_,_,_,_]) rfl rfl fun b1=>aD rfl<|cf (C:=#[_,_,_,_,_,_,_]) rfl rfl fun b2=>aD rfl<|bI (C:=#[_,_,_,_,_,_,_,_,_,_,_,_]) adg rfl fun b3=>VO.n<|ak<|VC.gu [[0,1,2],[0,1,2],[0,1,2],[0,1,2],[1,2]] [some 2,some 0,some 0,none,some 1,some 1,none,some 2,some 2,some 2,some 2,none,none] mixed (by kernel_rfl) rfl (aA (fun _ hJ=>aM (vs:=[_,_,_,_,_]) vS (.r rfl) (fun _ hw=>aX (hJ _ hw) 2 rfl ⟨_,rfl⟩) rfl) rfl<|aA (fun _ hJ=>aE (r:=0) CU (.r rfl) rfl) rfl<|aA (fun _ hJ=>aB ij (.r rfl) (fun _ hw=>aX (hJ _ hw) 1 rfl ⟨_,rfl⟩)) rfl<|LX.s<|aA (fun _ hJ=>aE (r:=1) xG (.r rfl) rfl) rfl<|aA (fun _ hJ=>aB ij (.r rfl) (fun _ hw=>aX (hJ _ hw) 1 rfl ⟨_,rfl⟩)) rfl<|LX.s<|aA (fun _ hJ=>aE (r:=2) UJ (.r rfl) rfl) rfl<|aA (fun _ hJ=>aM (vs:=[_,_,_,_]) EA (.r rfl) (fun _ hw=>aX (hJ _ hw) 1 rfl ⟨_,rfl⟩) rfl) rfl<|aA (fun _ hJ=>aE (r:=6) U2 (.r rfl) rfl) rfl<|aA (fun _ hJ=>aB O3 (.r rfl) (fun _ hw=>aX (hJ _ hw) 1 rfl ⟨_,rfl⟩)) rfl<|LX.s<|LX.s<|LX.nil) (au<|au<|au<|HX.h rfl<|cz (xs:=[_]) (vs:=[_]) XX ⟨(.r rfl),trivial⟩ (fun w hw=>O0 _ _ _ w (by omega) (hs.keep w hw)) fun qhs _=>⟨fun _ hw=>hw.fO [1,2,3] rfl,au<|au<|HX.h rfl<|cz (xs:=[_]) (vs:=[_]) XX ⟨(.r rfl),trivial⟩ (fun w hw=>O0 _ _ _ w (by omega) (hm.keep w hw)) fun qhm _=>⟨fun _ hw=>hw.fO [2,3,4] rfl,au<|au<|au<|au<|HX.h rfl<|aO (LO.bd (ps:=[(_,_),(_,_),(_,_),(_,_),(_,_)]) (vs:=[(_,_),(_,_),(_,_),(_,_),(_,_)]) (C:=[_,_,_,_,_,_,_,_,_,_,_,_]) ame ⟨(.r rfl),(.r rfl),(.r rfl),(.r rfl),(.r rfl),trivial⟩ rfl ⟨_,[_,_,_,_,_],[_,_,_,_,_,_,_,_,_,_,_,_],rfl,rfl,rfl,rfl,⟨_,[_],[_,_,_,_,_,_,_,_,_,_,_,_],rfl,rfl,rfl,rfl,⟨_,[_],[_,_,_,_,_,_,_,_,_,_,_,_],rfl,rfl,rfl,rfl,⟨_,[_,_,_,_],[_,_,_,_,_,_,_,_,_,_,_,_],rfl,rfl,rfl,rfl,⟨_,[_],[_,_,_,_,_,_,_,_,_,_,_,_],rfl,rfl,rfl,rfl,rfl⟩⟩⟩⟩⟩)<|⟨fun _ hw=>hw.fO [2,3,4] rfl,HX.h0<|bl 2 (vs:=[_,_,_,_,_,_,_,_,_,_,_,_]) (C':=[_,_,_,_,_,_,_,_,_,_,_,_]) (L':=[_,_,_,_,_]) XU rfl rfl rfl rfl rfl rfl rfl rfl<|⟨fun _ hw=>hw.fO [3,4] rfl,HX.nil ?_⟩⟩⟩⟩))
 refine ag<|aP (dh (vs:=[_]) rfl ⟨RV.agg (vs:=[_,_,_,_,_,_,_,_,_,_,_,_]) Rn rfl (ax 2 rfl ⟨_,rfl⟩) rfl,trivial⟩ (fun w hw=>?_))
 exact⟨(qhs,qhm),trivial,rfl,hw.fO [0,1] rfl⟩
theorem TQ (g:cU) (c:cZ) (a b:Nat) (lo hi t:Int) (w:World) (h1: -100000≤lo) (h2:lo≤100000) (h3: -100000≤hi) (h4:hi≤100000) (h5:0≤c.grow) (h6:c.grow≤10000) (h7:0≤t) (h8:t≤7200):
 Calls ae 213 #[GK a b g c,.agg #[.int .i64 lo,.int .i64 hi],.int .i64 t] w fun e w'=>e= .returned (.tuple #[.int .i64 (kf lo c.grow t),.int .i64 (ke hi c.grow t)])∧St (bs w) [] w':=by
 have m1:=Hp (a:=lo-c.grow) (t:=t) (by omega) (by omega) h7 h8
 have m2:=Hp (a:=hi+c.grow) (t:=t) (by omega) (by omega) h7 h8
 refine enter (vs:=[_,_,_]) (env:=[(0,_),(1,_),(2,_)]) Tryz.func213 rfl rfl rfl rfl ?_
 refine VC.q (aD rfl<|cf (C:=#[_,_,_,_,_,_,_,_,_,_,_,_]) rfl rfl fun b1=>aD rfl<|cf (C:=#[_,_]) rfl rfl fun b2=>VO.a rfl<|VO.a rfl<|VO.n<|ak<|VC.draw mixed (aV (aE (r:=0) rL (.r rfl) rfl) rfl<|aV (aB O3 (.r rfl) (ax 0 rfl ⟨_,rfl⟩)) rfl<|aV (aE (r:=11) Vl (.r rfl) rfl) rfl<|aV (aB O3 (.r rfl) (ax 1 rfl ⟨_,rfl⟩)) rfl<|aV (dv (.r rfl) (.r rfl) (wi (by omega) (by omega))) rfl<|LL.m rfl<|aV (gG (.r rfl) (.r rfl) (wi (by omega) (by omega))) rfl<|aV (dv (.r rfl) (.r rfl) (wi (by omega) (by omega))) rfl<|aV (bD (xs:=[_,_]) (vs:=[_,_]) aeV ⟨(.r rfl),(.r rfl),trivial⟩ (fun w _=>Nq _ _ (by omega) (by omega) (by omega) w)) rfl<|aV (LO.add (.r rfl) (.r rfl) (wi (by omega) (by omega))) rfl<|aV (aE (r:=1) rR (.r rfl) rfl) rfl<|aV (aB O3 (.r rfl) (ax 0 rfl ⟨_,rfl⟩)) rfl<|aV (aE (r:=11) Vl (.r rfl) rfl) rfl<|aV (aB O3 (.r rfl) (ax 1 rfl ⟨_,rfl⟩)) rfl<|aV (LO.add (.r rfl) (.r rfl) (wi (by omega) (by omega))) rfl<|LL.m rfl<|aV (gG (.r rfl) (.r rfl) (wi (by omega) (by omega))) rfl<|aV (LO.add (.r rfl) (.r rfl) (wi (by omega) (by omega))) rfl<|aV (bD (xs:=[_,_]) (vs:=[_,_]) ah3 ⟨(.r rfl),(.r rfl),trivial⟩ (fun w _=>ahv _ _ (by omega) (by omega) (by omega) w)) rfl<|aV (dv (.r rfl) (.r rfl) (wi (by omega) (by omega))) rfl<|aV (LO.as (.r rfl)) rfl<|aV (LO.as (.r rfl)) rfl<|LL.nil) (by kernel_rfl)<|ag<|aP (dh (vs:=[_,_]) rfl ⟨rfl,rfl,trivial⟩ (fun w hw=>?_)))
 exact⟨rfl,hw.nil⟩
theorem xj:bV ae 262 0 0:=⟨_,_,k8,rfl,rfl,4,by kernel_rfl⟩
theorem Tj:bV ae 262 3 7:=⟨_,_,k8,rfl,rfl,3,by kernel_rfl⟩
theorem aik:ef ae 213:=⟨_,Tryz.func213,by decide,rfl⟩
abbrev xt (a b:Nat) (g:cU) (c:cZ):Array Value:=#[.int .i64 g.x,.int .i64 g.y,.int .i64 g.size,.int .i64 g.wide,.int .i64 g.high,.map (some a),.map (some b),.int .i64 c.fh.a,.int .i64 c.fh.b,.int .i64 c.fh.c,.int .i64 c.fh.d,.int .i64 c.grow]
abbrev amj (bp bsh bt:Nat):Value:=.func (.func 212) #[] #[.pointer (some ⟨bp,0,none⟩),.pointer (some ⟨bsh,0,none⟩),.pointer (some ⟨bt,0,none⟩)]
def aeb (g:cU) (c:cZ) (a b bp bsh bt:Nat) (p t:Int) (w:World):Prop:=fk w ⟨bp,0,none⟩ [.int .i64 p]∧fk w ⟨bsh,0,none⟩ (xt a b g c).toList∧fk w ⟨bt,0,none⟩ [.int .i64 t]
theorem Zl {g:cU} {c:cZ} {p t:Int} {i j:Nat} (hi:i<FA g c p t) (hj:j<rJ g c p t):(qp g c p t).toNat+i*rJ g c p t+j+1≤(qp g c p t).toNat+FA g c p t*rJ g c p t:=by
 have:(i+1)*rJ g c p t≤FA g c p t*rJ g c p t:=gO _ hi
 rw[fF]at this;omega
theorem X6 {g:cU} {p:Int} (hg:cF g) (h1:0≤p) (h2:p<g.wide*g.high):(0≤p.tmod g.wide∧p.tmod g.wide<g.wide)∧0≤p.tdiv g.wide∧p.tdiv g.wide<g.high:=by
 obtain⟨_,_,_,⟨h3,h4⟩,h5,h6⟩:=hg
 rw[Int.tmod_eq_emod_of_nonneg h1,Int.tdiv_eq_ediv_of_nonneg h1]
 exact⟨⟨Int.emod_nonneg _ (by omega),Int.emod_lt_of_pos _ (by omega)⟩,Int.ediv_nonneg h1 (by omega),Int.ediv_lt_of_lt_mul (by omega) (by rw[Int.mul_comm];exact h2)⟩
theorem RJ (g:cU) (c:cZ) (a b:Nat) (p t:Int) (w:World):
 Calls ae 160 #[GK a b g c,.int .i64 p,.int .i64 t] w fun e w'=>∃q:Nat×Nat×Nat,True∧e= .returned (amj q.2.1 q.1 q.2.2)∧St (bs w) [de q.2.2 (.cells #[.int .i64 t] 3),de q.2.1 (.cells #[.int .i64 p] 3),de q.1 (.cells (xt a b g c) 262)] w':=by
 refine enter (vs:=[_,_,_]) (env:=[(0,_),(1,_),(2,_)]) Tryz.func160 rfl rfl rfl rfl ?_
 refine VC.q (aD rfl<|cf (C:=#[_,_,_,_,_,_,_,_,_,_,_,_]) rfl rfl fun b1=>aD rfl<|cf (C:=#[_]) rfl rfl fun b2=>aD rfl<|cf (C:=#[_]) rfl rfl fun b3=>VO.a rfl<|VO.n<|VC.q (aD rfl<|aO (LO.mf (cap:=[_,_,_]) ⟨(.r rfl),(.r rfl),(.r rfl),trivial⟩)<|aD rfl<|aO (LO.as (.r rfl))<|VO.n<|aP (VE.s rfl rfl (fun w hw=>?_))))
 exact⟨(b1,b2,b3),trivial,rfl,hw⟩
theorem IX (g:cU) (c:cZ) (a b bp bsh bt:Nat) (p t:Int) (hg:cF g) (hf:im c.fh) (hr1:0≤c.grow) (hr2:c.grow≤10000) (ht1:0≤t) (ht2:t≤7200) (hp1:0≤p) (hp2:p<g.wide*g.high):
 MG ae 212 [.pointer (some ⟨bp,0,none⟩),.pointer (some ⟨bsh,0,none⟩),.pointer (some ⟨bt,0,none⟩)] (aeb g c a b bp bsh bt p t) ((mU g c p t).map fun n=>[.int .i64 n]):=by
 intro l J Jx w r hCap hyl hJ hi0 hf0
 have hx:=X6 hg hp1 hp2
 obtain⟨hgx,hgy,hgs,hgw,hgh⟩:=hg
 obtain⟨⟨hfa,hfb,hfc⟩,hfd,hfe,hff⟩:=hf
 have hc1:=B3 (f:=c.fh.a) (by omega) (by omega) hr1 hr2 ht1 ht2
 have hc2:=B3 (f:=c.fh.b) (by omega) (by omega) hr1 hr2 ht1 ht2
 have hc3:=B3 (f:=c.fh.c) (by omega) (by omega) hr1 hr2 ht1 ht2
 have hc4:=B3 (f:=c.fh.d) (by omega) (by omega) hr1 hr2 ht1 ht2
 have hsx:0≤FJ g c p t∧FJ g c p t≤2000:=by unfold FJ;omega
 have hsy:0≤Eh g c p t∧Eh g c p t≤2000:=by unfold Eh;omega
 refine mG (vs:=[_,_,_,_]) (env:=[(0,_),(1,_),(2,_),(3,_)]) (St.one hi0 hf0) Tryz.func212 rfl rfl rfl rfl ?_
 refine ak<|VC.draw mixed (aV (aB O3 (.r rfl) (fun _ hw=>aU (off:=0) (hCap _ _ _ hJ (dL hw 0 _ rfl)).1 ⟨_,rfl⟩)) rfl<|aV (aE (r:=0) xj (.r rfl) rfl) rfl<|aV (aE (r:=3) jD (.r rfl) rfl) rfl<|aV (aB O3 (.r rfl) (fun _ hw=>aU (off:=3) (hCap _ _ _ hJ (dL hw 0 _ rfl)).2.1 ⟨_,rfl⟩)) rfl<|aV (kj (.r rfl) (.r rfl) (by omega)) rfl<|aV (aB O3 (.r rfl) (fun _ hw=>aU (off:=0) (hCap _ _ _ hJ (dL hw 0 _ rfl)).1 ⟨_,rfl⟩)) rfl<|aV (aE (r:=0) xj (.r rfl) rfl) rfl<|aV (aE (r:=3) jD (.r rfl) rfl) rfl<|aV (aB O3 (.r rfl) (fun _ hw=>aU (off:=3) (hCap _ _ _ hJ (dL hw 0 _ rfl)).2.1 ⟨_,rfl⟩)) rfl<|aV (LO.quo (.r rfl) (.r rfl) (by omega) (wi (by omega) (by omega))) rfl<|aV (LO.as (.r rfl)) rfl<|aV (LO.as (.r rfl)) rfl<|LL.nil) (by kernel_rfl)<|ag<|VC.q (ah (aM (vs:=[_,_,_,_,_,_,_,_,_,_,_,_]) Rn (.r rfl) (fun _ hw=>aU (off:=0) (hCap _ _ _ hJ (dL hw 0 _ rfl)).2.1 ⟨_,rfl⟩) rfl) rfl<|VO.f (r:=7) Tj rfl<|VO.f (r:=7) TK rfl<|ah (aM (vs:=[_,_]) xb (.r rfl) (fun _ hw=>aU (off:=7) (hCap _ _ _ hJ (dL hw 0 _ rfl)).2.1 ⟨_,rfl⟩) rfl) rfl<|ah (aB O3 (.r rfl) (fun _ hw=>aU (off:=0) (hCap _ _ _ hJ (dL hw 0 _ rfl)).2.2 ⟨_,rfl⟩)) rfl<|ah (bD (xs:=[_,_,_]) (vs:=[_,_,_]) aik ⟨(.r rfl),(.r rfl),(.r rfl),trivial⟩ (fun w _=>TQ g c _ _ _ _ _ w (by omega) (by omega) (by omega) (by omega) (by omega) (by omega) (by omega) (by omega))) rfl<|VO.m rfl<|ah (bN (.r rfl) rfl) rfl<|ah (bN (.r rfl) rfl) rfl<|VO.a rfl<|VO.a rfl<|VO.n<|ak ?_)
 refine aF (ah (aM (vs:=[_,_,_,_,_,_,_,_,_,_,_,_]) Rn (.r rfl) (fun _ hw=>aU (off:=0) (hCap _ _ _ hJ (dL hw 0 _ rfl)).2.1 ⟨_,rfl⟩) rfl) rfl<|VO.f (r:=7) Tj rfl<|VO.f (r:=9) VJ rfl<|ah (aM (vs:=[_,_]) xb (.r rfl) (fun _ hw=>aU (off:=9) (hCap _ _ _ hJ (dL hw 0 _ rfl)).2.1 ⟨_,rfl⟩) rfl) rfl<|ah (aB O3 (.r rfl) (fun _ hw=>aU (off:=0) (hCap _ _ _ hJ (dL hw 0 _ rfl)).2.2 ⟨_,rfl⟩)) rfl<|ah (bD (xs:=[_,_,_]) (vs:=[_,_,_]) aik ⟨(.r rfl),(.r rfl),(.r rfl),trivial⟩ (fun w _=>TQ g c _ _ _ _ _ w (by omega) (by omega) (by omega) (by omega) (by omega) (by omega) (by omega) (by omega))) rfl<|VO.m rfl<|ah (bN (.r rfl) rfl) rfl<|ah (bN (.r rfl) rfl) rfl<|VO.a rfl<|VO.a rfl<|VO.n<|VC.q (VO.m rfl<|VO.m rfl<|ah (dv (.r rfl) (.r rfl) (wi (by omega) (by omega))) rfl<|VO.t rfl<|VO.m rfl<|VO.gf rfl (fun hg=>bJ (.r rfl))<|VO.gf rfl (fun hg=>bJ (.r rfl))<|VO.gf rfl (fun hg=>dv (.g hg rfl) (.g hg rfl) (wi (by omega) (by omega)))<|VO.gf rfl (fun hg=>aE (r:=0) xj (.r rfl) rfl)<|VO.gf rfl (fun hg=>aE (r:=3) jD (.g hg rfl) rfl)<|VO.gf rfl (fun hg=>aB O3 (.g hg rfl) (fun _ hw=>aU (off:=3) (hCap _ _ _ hJ (dL hw 0 _ rfl)).2.1 ⟨_,rfl⟩))<|VO.gf rfl (fun hg=>lr (.g hg rfl) (.g hg rfl))<|ah (dO (.r rfl) (.r rfl) rfl rfl) rfl<|VO.m rfl<|VO.gf rfl (fun hg=>bJ (.r rfl))<|VO.gf rfl (fun hg=>bJ (.r rfl))<|VO.gf rfl (fun hg=>dv (.g hg rfl) (.g hg rfl) (wi (by omega) (by omega)))<|VO.gf rfl (fun hg=>LO.lt (.g hg rfl) (.r rfl))<|ah (dO (.r rfl) (.r rfl) rfl rfl) rfl<|VO.m rfl<|VO.gf rfl (fun hg=>bJ (.r rfl))<|VO.gf rfl (fun hg=>bJ (.r rfl))<|VO.gf rfl (fun hg=>dv (.g hg rfl) (.g hg rfl) (wi (by omega) (by omega)))<|VO.gf rfl (fun hg=>aE (r:=0) xj (.r rfl) rfl)<|VO.gf rfl (fun hg=>aE (r:=4) qH (.g hg rfl) rfl)<|VO.gf rfl (fun hg=>aB O3 (.g hg rfl) (fun _ hw=>aU (off:=4) (hCap _ _ _ hJ (dL hw 0 _ rfl)).2.1 ⟨_,rfl⟩))<|VO.gf rfl (fun hg=>lr (.g hg rfl) (.g hg rfl))<|ah (dO (.r rfl) (.r rfl) rfl rfl) rfl<|ah (LO.as (v:=.bool (qp g c p t)) (.r rfl)) rfl<|VO.n<|ak<|ak ?_))
 refine aF (VO.m rfl<|VO.m rfl<|VO.gt rfl (fun hg=>bJ (.r rfl))<|VO.yg 0 (r:=r) (vs:=[_]) (post:=fun b r'=>if b=true then J (0+1) r' else Jx (0+1) r') rfl rfl (GD.t _) rfl (fun hg=>.g hg rfl) ⟨.r rfl,trivial⟩ rfl (fun hg w2 hi hr hs=>hyl 0 _ (by rw[aw,Ur hg];rfl) r w2 hJ hi hr hs) fun b1 r1 hp1 hp2=>VO.gt rfl (fun hg=>LO.not (.g hg rfl))<|ah (dJ (.r rfl) rfl rfl (.r rfl)) rfl<|VO.n<|ay rfl (fun h1=>?_) (fun h1=>?_))
 ·
  have hE:=CC (J:=J) (xs:=(mU g c p t).map fun n=>[bX .i64 n]) (n:=1) (by rw[aq,u0,h1.1];simp<;>omega) (by have:=hp1 h1.1;rw[if_neg h1.2]at this;exact this)
  refine aP (a8 (dh (vs:=[]) rfl trivial (fun w hw=>?_)))
  exact⟨rfl,vX hE hw⟩
 ·
  have hJ:J (qp g c p t).toNat r1:=by
   cases hs:qp g c p t
   ·rw[hp2 hs];exact hJ
   ·have h2:=hp1 hs
    have hb:b1=true:=by simpa [hs]using h1
    rw[if_pos hb]at h2;exact h2
  refine aC (ag<|VC.q (VO.m rfl<|VO.m rfl<|ah (dv (.r rfl) (.r rfl) (wi (by omega) (by omega))) rfl<|ah (LO.max (.r rfl) (.r rfl)) rfl<|ah (LO.as (v:=.int .i64 (Eh g c p t)) (.r rfl)) rfl<|VO.n<|aG<|bY (α:=Nat×cq) 1 (fun x=>[(12,.int .i64 (Eh g c p t+(x.1:Nat)))]) [(0,_),(2,_),(5,_),(6,_),(7,_),(8,_),(9,_),(10,_)] (fun x=>[x.2]) (fun x=>x.1≤FA g c p t∧J ((qp g c p t).toNat+x.1*rJ g c p t) x.2) (fun x=>FA g c p t-x.1) (0,r1) (by exact⟨by omega,by simpa using hJ⟩) (.cons (q9 (b:=some (bX .i64 (Eh g c p t))) rfl (by simp)) (.c4 rfl rfl rfl rfl (.c4 rfl rfl rfl rfl .nil))) (fun _ h=>h) ?_))
  rintro ⟨i,r⟩ ⟨hi,hJ⟩
  show VC _ _ _ _ _ ([(12,.int .i64 (Eh g c p t+(i:Nat)))]++_) ([r]++_) _ _
  refine ak<|VC.q (VO.m rfl<|VO.f (r:=0) xj rfl<|VO.f (r:=4) qH rfl<|ah (aB O3 (.r rfl) (fun _ hw=>aU (off:=4) (hCap _ _ _ hJ (dL hw 0 _ rfl)).2.1 ⟨_,rfl⟩)) rfl<|ah (dv (.r rfl) (.r rfl) (wi (by omega) (by omega))) rfl<|VO.m rfl<|VO.m rfl<|ah (dv (.r rfl) (.r rfl) (wi (by omega) (by omega))) rfl<|ah (LO.min (.r rfl) (.r rfl)) rfl<|ah (iI (.r rfl) (.r rfl)) rfl<|VO.n<|ay rfl (fun h2=>?_) (fun h2=>?_))
  ·
   have hiy:i<FA g c p t:=by unfold FA sy1;omega
   have hv:=afm (v:=Eh g c p t+(i:Int)) (w:=g.wide) (by omega) (by omega) (by omega) (by omega)
   refine aC (ag<|ak<|aG<|VC.q (VO.m rfl<|VO.m rfl<|ah (dv (.r rfl) (.r rfl) (wi (by omega) (by omega))) rfl<|ah (LO.max (.r rfl) (.r rfl)) rfl<|ah (LO.as (v:=.int .i64 (FJ g c p t)) (.r rfl)) rfl<|VO.n<|aG ?_))
   refine bY (α:=Nat×cq) 1 (fun x=>[(13,.int .i64 (FJ g c p t+(x.1:Nat)))]) [(0,_),(2,_),(5,_),(6,_),(7,_),(8,_),(9,_),(10,_),(12,_)] (fun x=>[x.2]) (fun x=>x.1≤rJ g c p t∧J ((qp g c p t).toNat+i*rJ g c p t+x.1) x.2) (fun x=>rJ g c p t-x.1) (0,r) (by exact⟨by omega,by simpa using hJ⟩) (.cons (q9 (b:=some (bX .i64 (FJ g c p t))) rfl (by simp)) (.c4 rfl rfl rfl rfl (.c4 rfl rfl rfl rfl (.cons rfl .nil)))) (fun _ h=>h) ?_
   rintro ⟨j,r⟩ ⟨hj,hJ⟩
   show VC _ _ _ _ _ ([(13,.int .i64 (FJ g c p t+(j:Nat)))]++_) ([r]++_) _ _
   refine ak<|VC.q (VO.m rfl<|VO.f (r:=0) xj rfl<|VO.f (r:=3) jD rfl<|ah (aB O3 (.r rfl) (fun _ hw=>aU (off:=3) (hCap _ _ _ hJ (dL hw 0 _ rfl)).2.1 ⟨_,rfl⟩)) rfl<|ah (dv (.r rfl) (.r rfl) (wi (by omega) (by omega))) rfl<|VO.m rfl<|VO.m rfl<|ah (dv (.r rfl) (.r rfl) (wi (by omega) (by omega))) rfl<|ah (LO.min (.r rfl) (.r rfl)) rfl<|ah (iI (.r rfl) (.r rfl)) rfl<|VO.n<|ay rfl (fun h3=>?_) (fun h3=>?_))
   ·
    have hjx:j<rJ g c p t:=by unfold rJ sx1;omega
    refine aC (ag<|ak<|aG<|VC.q (VO.m rfl<|VO.m rfl<|VO.f (r:=0) xj rfl<|VO.f (r:=3) jD rfl<|ah (aB O3 (.r rfl) (fun _ hw=>aU (off:=3) (hCap _ _ _ hJ (dL hw 0 _ rfl)).2.1 ⟨_,rfl⟩)) rfl<|ah (gG (.r rfl) (.r rfl) (wi (by omega) (by omega))) rfl<|VO.m rfl<|VO.p rfl rfl (by omega) (by omega) rfl<|aD rfl<|HO.yield 0 (r:=r) (vs:=[_]) (post:=fun b r'=>if b=true then J ((qp g c p t).toNat+i*rJ g c p t+j+1) r' else Jx ((qp g c p t).toNat+i*rJ g c p t+j+1) r') (.r rfl) ⟨.r rfl,trivial⟩ rfl (fun w2 hi hr hs=>hyl ((qp g c p t).toNat+i*rJ g c p t+j) _ (by rw[aw,YT (i:=i) (j:=j) (by omega) (by omega)];rfl) r w2 hJ hi hr hs) fun b1 r1 hp=>aD rfl<|aO (LO.not (.r rfl))<|VO.n<|ay rfl (fun h4=>?_) (fun h4=>?_)))
    ·
     rw[if_neg h4]at hp
     have hE:=CC (J:=J) (xs:=(mU g c p t).map fun n=>[bX .i64 n]) (n:=(qp g c p t).toNat+i*rJ g c p t+j+1) (by rw[aq,u0];exact Zl hiy hjx) hp
     refine aP (cI (a8 (a8 (cI (cI (a8 (a8 (cI (dh (vs:=[]) rfl trivial (fun w hw=>?_))))))))))
     exact⟨rfl,vX hE hw⟩
    ·
     rw[if_pos (by simpa using h4)]at hp
     refine aC (bB (ag<|aF (VO.m rfl<|VO.p rfl rfl (by omega) (by omega) rfl<|VO.a rfl<|aI<|bn fun a w ha hw=>⟨(j+1,r1),⟨by omega,hp⟩,by omega,ha.sub (.cons (q9 (b:=some (bX .i64 (FJ g c p t+(j:Int)+1))) rfl (by simp only[Int.add_assoc];rfl)) (.c4 rfl rfl rfl rfl (.c4 rfl rfl rfl rfl (.cons rfl .nil)))),hw⟩)))
   ·
    have hjx:j=rJ g c p t:=by unfold rJ sx1 at hj ⊢;omega
    refine ca (aL (aL (cD (bB (ag<|aF (VO.m rfl<|VO.p rfl rfl (by omega) (by omega) rfl<|VO.a rfl<|aI<|bn fun a w ha hw=>⟨(i+1,r),⟨by omega,by rw[show(qp g c p t).toNat+(i+1)*rJ g c p t=(qp g c p t).toNat+i*rJ g c p t+j by rw[hjx,fF];omega];exact hJ⟩,by omega,ha.sub (.cons (q9 (b:=some (bX .i64 (Eh g c p t+(i:Int)+1))) rfl (by simp only[Int.add_assoc];rfl)) (.c4 rfl rfl rfl rfl (.c4 rfl rfl rfl rfl .nil))),hw⟩))))))
  ·
   have hiy:i=FA g c p t:=by unfold FA sy1 at hi ⊢;omega
   have hE:=JO (J:=J) (Jx:=Jx) (xs:=(mU g c p t).map fun n=>[bX .i64 n]) (r:=r) (by rw[aq,u0, ←hiy];exact hJ)
   refine ca (aL (aL (cD (VE.xf (vs:=[]) rfl trivial (fun w hw=>?_)))))
   exact⟨rfl,vX hE hw⟩
theorem amc:ef ae 212:=⟨_,Tryz.func212,by decide,rfl⟩
theorem ai8:cj ae 266 (.int .i64 0):=by unfold cj;kernel_rfl
theorem QV:(ae.info? 266).map (·.size)=some 1:=by kernel_rfl
theorem alI:ef ae 160:=⟨_,Tryz.func160,by decide,rfl⟩
theorem adY:bV ae 262 1 5:=⟨_,_,k8,rfl,rfl,0,by kernel_rfl⟩
theorem agC:ig ae 260:=⟨⟨_,sj,rfl⟩,by kernel_rfl⟩
theorem ad7:bV ae 262 2 6:=⟨_,_,k8,rfl,rfl,0,by kernel_rfl⟩
theorem R8:ig ae 266:=⟨⟨_,Tryz.underlying266,rfl⟩,by kernel_rfl⟩
def iL (g:cU) (c:cZ) (p t:Int):Int:=if(mU g c p t).all (fW c.sure) then 2 else if(mU g c p t).any (fW c.may) then 1 else 0
def Xc (l:List Int) (c:cZ) (n:Nat) (x:Bool×Int×Int):Prop:=x.1=(l.take n).all (fW c.sure)∧x.2.1=(if(l.take n).any (fW c.may) then 1 else 0)∧x.2.2=0
theorem wa {l:List Int} {n:Nat} {v:Int} (hv:l[n]? =some v):l.take (n+1)=l.take n++[v]:=by
 rw[cQ,hv];rfl
theorem vW {l:List Int} {c:cZ} {n:Nat} {xa:Bool} {xm xr v:Int} (h:Xc l c n (xa,xm,xr)) (hv:l[n]? =some v) (h5:fW c.may v=true):Xc l c (n+1) (xa&&fW c.sure v,1,xr):=by
 obtain⟨h1,h2,h3⟩:=h
 refine⟨?_,?_,h3⟩
 ·rw[wa hv,D9, ←h1];simp
 ·rw[wa hv,mR];simp [h5]
theorem vU {l:List Int} {c:cZ} {n:Nat} {xa:Bool} {xm xr v:Int} (h:Xc l c n (xa,xm,xr)) (hv:l[n]? =some v) (h5:¬fW c.may v=true):Xc l c (n+1) (xa&&fW c.sure v,xm,xr):=by
 obtain⟨h1,h2,h3⟩:=h
 refine⟨?_,?_,h3⟩
 ·rw[wa hv,D9, ←h1];simp
 ·rw[wa hv,mR]
  simp only[Bool.not_eq_true]at h5
  simpa [h5]using h2
theorem B6 {g:cU} {c:cZ} {p t:Int} {n:Nat} {xa:Bool} {xm xr:Int} (h:Xc (mU g c p t) c n (xa,xm,xr)) (k:¬xa=true∧xm=1):iL g c p t=1:=by
 obtain⟨h1,h2,h3⟩:=h
 have ha:¬(mU g c p t).all (fW c.sure)=true:=fun q=>k.1 (by
  have h1':xa=((mU g c p t).take n).all (fW c.sure):=h1
  rw[h1',bF]
  intro y hy
  exact bF.1 q y (lB hy))
 have hm:(mU g c p t).any (fW c.may)=true:=by
  have h2':xm=if((mU g c p t).take n).any (fW c.may)=true then 1 else 0:=h2
  by_cases q:((mU g c p t).take n).any (fW c.may)=true
  ·obtain⟨y,hy,hb⟩:=eG.1 q
   exact eG.2 ⟨y,lB hy,hb⟩
  ·rw[if_neg q]at h2';omega
 unfold iL
 rw[if_neg ha,if_pos hm]
theorem TI {g:cU} {c:cZ} {p t:Int} {f:Int→List Value} {x:Bool×Int×Int} (h:Xc (mU g c p t) c ((mU g c p t).map f).length x):x.1=(mU g c p t).all (fW c.sure)∧x.2.1=(if(mU g c p t).any (fW c.may) then 1 else 0)∧x.2.2=0:=by
 unfold Xc at h
 rw[aq,du]at h
 exact h
theorem adC {g:cU} {c:cZ} {p t:Int} {x:Bool×Int×Int} (h:x.1=(mU g c p t).all (fW c.sure)∧x.2.1=(if(mU g c p t).any (fW c.may) then 1 else 0)∧x.2.2=0) (k:x.1=true):2=iL g c p t:=by
 unfold iL;rw[←h.1,if_pos k]
theorem adR {g:cU} {c:cZ} {p t:Int} {x:Bool×Int×Int} (h:x.1=(mU g c p t).all (fW c.sure)∧x.2.1=(if(mU g c p t).any (fW c.may) then 1 else 0)∧x.2.2=0) (k:¬x.1=true):x.2.1=iL g c p t:=by
 unfold iL;rw[←h.1,if_neg k,h.2.1]
theorem Tv {l:List Int} {c:cZ}:Xc l c 0 (true,0,0):=by simp [Xc]
theorem Tf {l:List Int} {n:Nat} {vs:List Value} (h:(l.map fun n=>[bX .i64 n])[n]? =some vs):∃v,vs=[.int .i64 v]∧l[n]? =some v:=by
 rw[aw]at h
 cases q:l[n]? with
 |none=>rw[q]at h;cases h
 |some v=>rw[q]at h;cases h;exact⟨v,rfl,rfl⟩
theorem Jk {w0 w1 w:World} {L0 L:List cq} {b:Nat} {S:Int→Bool} (h:(oN b S).inv w0) (h1:St (bs w0) L0 w1) (h2:St ⟨w1,lu L0⟩ L w):(oN b S).inv w:=by
 have hk:=h1.back h2
 refine(oN b S).loc (fun k hkb=>?_) h
 obtain⟨es,cl,hb,_⟩:=h
 have:k=b:=hkb
 subst this
 exact(hk.fr k (Array.getElem?_eq_some_iff.1 hb).1 (fun f=>f)).symm ▸ rfl
theorem akO (g:cU) (cl:cZ) (a b:Nat) (p t:Int) (w:World) (hg:cF g) (hf:im cl.fh) (hr1:0≤cl.grow) (hr2:cl.grow≤10000) (ht1:0≤t) (ht2:t≤7200) (hp1:0≤p) (hp2:p<g.wide*g.high) (hsa:(oN a (fW cl.sure)).inv w) (hsb:(oN b (fW cl.may)).inv w):
 Calls ae 88 #[GK a b g cl,.int .i64 p,.int .i64 t] w fun e w'=>e= .returned (.int .i64 (iL g cl p t))∧St (bs w) [] w':=by
 refine enter (vs:=[_,_,_]) (env:=[(0,_),(1,_),(2,_)]) Tryz.func88 rfl rfl rfl rfl ?_
 refine VC.q (aD rfl<|cf (C:=#[_,_,_,_,_,_,_,_,_,_,_,_]) rfl rfl fun b1=>aD rfl<|bI (C:=#[_]) ai8 rfl fun b2=>VO.n<|VC.q (aD rfl<|bI (C:=#[_]) Z4 rfl fun b3=>aD rfl<|bI (C:=#[_]) ai8 rfl fun b4=>bU<|bl 1 (vs:=[_]) (C':=[_]) (L':=[_,_,_,_]) N4 rfl rfl rfl rfl rfl rfl rfl rfl<|bU<|bl 0 (vs:=[_]) (C':=[_]) (L':=[_,_,_,_]) QV rfl rfl rfl rfl rfl rfl rfl rfl<|VO.n<|ak ?_))
 refine VC.q (ah (aM (vs:=[_,_,_,_,_,_,_,_,_,_,_,_]) Rn (.r rfl) (ax 3 rfl ⟨_,rfl⟩) rfl) rfl<|VO.m rfl<|VO.m rfl<|aD rfl<|cz (xs:=[_,_,_]) (vs:=[_,_,_]) alI ⟨(.r rfl),(.r rfl),(.r rfl),trivial⟩ (fun w hw=>RJ g cl a b p t w) fun q hq=>VO.n<|aG<|VC.rangeFunc (α:=Bool×Int×Int) (fun x=>[de q.2.2 (.cells #[.int .i64 t] 3),de q.2.1 (.cells #[.int .i64 p] 3),de q.1 (.cells (xt a b g cl) 262),de b4 (.cells #[.int .i64 x.2.1] 266),de b3 (.cells #[.bool x.1] 4),de b2 (.cells #[.int .i64 x.2.2] 266),de b1 (.cells (xt a b g cl) 262)]) (fun n x=>Xc (mU g cl p t) cl n x) (fun c n x=>c=Code.ret∧x.2.2=1∧iL g cl p t=1) (true,0,0) (fun vs=>[(9,vs.getD 0 (.bool false)),(3,.pointer (some ⟨b1,0,none⟩)),(6,.pointer (some ⟨b2,0,none⟩)),(7,.pointer (some ⟨b3,0,none⟩)),(8,.pointer (some ⟨b4,0,none⟩))]) rfl amc (IX g cl a b q.2.1 q.1 q.2.2 p t hg hf hr1 hr2 ht1 ht2 hp1 hp2) (fun _ h=>h) (Tv) (fun vs hv=>by obtain⟨n,_,rfl⟩:=bQ.1 hv;rfl) (by decide) (fun n x w _ h=>⟨iE (h 1 _ rfl),iE (h 2 _ rfl),iE (h 0 _ rfl)⟩) ?_ ?_ ?_ ?_)
 ·
  intro n x vs lY T w1 hI hxs hst
  obtain⟨v,rfl,hv⟩:=Tf hxs
  obtain⟨xa,xm,xr⟩:=x
  refine aF (VO.a rfl<|aI ?_)
  exact fun a w ha hw=>⟨rfl,ha.sub (.c4 rfl rfl rfl rfl (.cons rfl .nil)),hw⟩
 ·
  intro n x vs lY T w1 hI hxs hst
  obtain⟨v,rfl,hv⟩:=Tf hxs
  obtain⟨xa,xm,xr⟩:=x
  refine aG<|VC.q (VO.c 4 O4 rfl rfl ⟨_,rfl⟩ rfl<|VO.m rfl<|VO.gt rfl (fun hg=>aE (r:=5) adY (.r rfl) rfl)<|VO.gt rfl (fun hg=>aB agC (.g hg rfl) (ax 6 rfl ⟨_,rfl⟩))<|VO.gt rfl (fun hg=>bJ (.r rfl))<|VO.gt rfl (fun hg=>LO.lk Y1 (.g hg rfl) (.g hg rfl) (fun _ hw=>Jk hsa hst hw))<|ah (dJ (.r rfl) rfl rfl (.r rfl)) rfl<|bU<|bl 4 (vs:=[_]) (C':=[_]) N4 rfl rfl rfl rfl rfl rfl rfl rfl<|VO.n<|ak<|VC.q (VO.f (r:=6) ad7 rfl<|VO.c 6 agC rfl rfl ⟨_,rfl⟩ rfl<|VO.m rfl<|ah (LO.lk Y1 (.r rfl) (.r rfl) (fun _ hw=>Jk hsb hst hw)) rfl<|aI ?_))
  refine ag<|ay rfl (fun h5=>?_) (fun h5=>?_)
  ·
   refine aF (bU<|bl 3 (vs:=[_]) (C':=[_]) QV rfl rfl rfl rfl rfl rfl rfl rfl<|VO.n<|VC.q (VO.c 4 O4 rfl rfl ⟨_,rfl⟩ rfl<|ah (LO.not (.r rfl)) rfl<|VO.m rfl<|VO.gt rfl (fun hg=>aB R8 (.r rfl) (ax 3 rfl ⟨_,rfl⟩))<|VO.gt rfl (fun hg=>LO.eq (.g hg rfl) (.r rfl))<|ah (dJ (.r rfl) rfl rfl (.r rfl)) rfl<|VO.n<|ay rfl (fun h6=>?_) (fun h6=>?_)))
   ·
    refine VC.q (bU<|bl 5 (vs:=[_]) (C':=[_]) QV rfl rfl rfl rfl rfl rfl rfl rfl<|VO.n<|aP (cI ?_))
    first
    |exact fun a w ha hw=>⟨(xa&&fW cl.sure v,1,1),⟨rfl,rfl,B6 (vW hI hv h5) ⟨by simpa using h6.1,h6.2⟩⟩,hw⟩
    |exact fun a w ha hw=>⟨(xa&&fW cl.sure v,xm,1),⟨rfl,rfl,B6 (vU hI hv h5) ⟨by simpa using h6.1,h6.2⟩⟩,hw⟩
   ·
    refine aC (bB ?_)
    first
    |exact fun a w ha hw=>⟨(xa&&fW cl.sure v,1,xr),vW hI hv h5,hw⟩
    |exact fun a w ha hw=>⟨(xa&&fW cl.sure v,xm,xr),vU hI hv h5,hw⟩
  ·
   refine aC (ag<|VC.q (VO.c 4 O4 rfl rfl ⟨_,rfl⟩ rfl<|ah (LO.not (.r rfl)) rfl<|VO.m rfl<|VO.gt rfl (fun hg=>aB R8 (.r rfl) (ax 3 rfl ⟨_,rfl⟩))<|VO.gt rfl (fun hg=>LO.eq (.g hg rfl) (.r rfl))<|ah (dJ (.r rfl) rfl rfl (.r rfl)) rfl<|VO.n<|ay rfl (fun h6=>?_) (fun h6=>?_)))
   ·
    refine VC.q (bU<|bl 5 (vs:=[_]) (C':=[_]) QV rfl rfl rfl rfl rfl rfl rfl rfl<|VO.n<|aP (cI ?_))
    first
    |exact fun a w ha hw=>⟨(xa&&fW cl.sure v,1,1),⟨rfl,rfl,B6 (vW hI hv h5) ⟨by simpa using h6.1,h6.2⟩⟩,hw⟩
    |exact fun a w ha hw=>⟨(xa&&fW cl.sure v,xm,1),⟨rfl,rfl,B6 (vU hI hv h5) ⟨by simpa using h6.1,h6.2⟩⟩,hw⟩
   ·
    refine aC (bB ?_)
    first
    |exact fun a w ha hw=>⟨(xa&&fW cl.sure v,1,xr),vW hI hv h5,hw⟩
    |exact fun a w ha hw=>⟨(xa&&fW cl.sure v,xm,xr),vU hI hv h5,hw⟩
 ·
  intro D x hI
  obtain⟨xa,xm,xr⟩:=x
  have hE:=TI hI
  refine bB (ag<|ak<|VC.q (VO.c 4 O4 rfl rfl ⟨_,rfl⟩ rfl<|VO.n<|ay rfl (fun h9=>?_) (fun h9=>?_)))
  ·
   refine VC.q (bU<|bl 5 (vs:=[_]) (C':=[_]) QV rfl rfl rfl rfl rfl rfl rfl rfl<|VO.n<|aP (a8 (VE.aeI 7 (vs:=[_]) rfl rfl rfl ⟨RV.one R8 rfl (ax 5 rfl ⟨_,rfl⟩),trivial⟩ (fun w hw=>?_))))
   refine⟨?_,hw.nil⟩
   simp only[gF]
   congr 2
   first |exact hs.symm|exact adC hE h9|exact adR hE h9
  ·
   refine aC (ag<|VC.q (VO.c 3 R8 rfl rfl ⟨_,rfl⟩ rfl<|bU<|bl 5 (vs:=[_]) (C':=[_]) QV rfl rfl rfl rfl rfl rfl rfl rfl<|VO.n<|aP (VE.aeI 7 (vs:=[_]) rfl rfl rfl ⟨RV.one R8 rfl (ax 5 rfl ⟨_,rfl⟩),trivial⟩ (fun w hw=>?_))))
   refine⟨?_,hw.nil⟩
   simp only[gF]
   congr 2
   first |exact hs.symm|exact adC hE h9|exact adR hE h9
 ·
  intro D c n x hn hI
  obtain⟨xa,xm,xr⟩:=x
  obtain⟨hc,hr,hs⟩:=hI
  subst hc
  have hr:xr=1:=hr
  subst hr
  refine aP (cI (a8 (VE.aeI 7 (vs:=[_]) rfl rfl rfl ⟨RV.one R8 rfl (ax 5 rfl ⟨_,rfl⟩),trivial⟩ (fun w hw=>?_))))
  refine⟨?_,hw.nil⟩
  simp only[gF]
  congr 2
  first |exact hs.symm|exact adC hE h9|exact adR hE h9
def FR (qs:List (Nat×Nat)) (l:List cZ):cq where
 fp:=fun k=>∃q,q∈qs∧(k=q.1∨k=q.2)
 inv:=fun w=>∀(i:Nat) (q:Nat×Nat) (c:cZ),qs[i]? =some q→l[i]? =some c→(oN q.1 (fW c.sure)).inv w∧(oN q.2 (fW c.may)).inv w
 loc:=fun {w w'} h hi i q c hq hc=>⟨(oN q.1 _).loc (fun k hk=>h k ⟨q,al hq,.inl hk⟩) (hi i q c hq hc).1,(oN q.2 _).loc (fun k hk=>h k ⟨q,al hq,.inr hk⟩) (hi i q c hq hc).2⟩
theorem St.aei {β:Bs} {L:List cq} {w:World} {r s u t:cq} (h:St β (r::s::u::L) w) (hfp:∀k,t.fp k→r.fp k∨s.fp k∨u.fp k) (hinv:r.inv w→s.inv w→u.inv w→t.inv w):St β (t::L) w:=by
 refine⟨h.os,h.tape,h.output,h.size,h.fr,?_,?_,?_⟩
 ·intro i x hx
  cases i with
  |zero=>simp at hx;subst hx;exact hinv (h.inv 0 _ rfl) (h.inv 1 _ rfl) (h.inv 2 _ rfl)
  |succ i=>exact h.inv (i+3) x (by simpa using hx)
 ·intro i x hx k hk
  cases i with
  |zero=>
   simp at hx;subst hx
   rcases hfp k hk with q|q|q
   ·exact h.pM 0 _ rfl k q
   ·exact h.pM 1 _ rfl k q
   ·exact h.pM 2 _ rfl k q
  |succ i=>exact h.pM (i+3) x (by simpa using hx) k hk
 ·intro i j x y hij hx hy k hk
  cases i with
  |zero=>
   simp at hx;subst hx
   cases j with
   |zero=>exact absurd rfl hij
   |succ j=>
    have hy':(r::s::u::L)[j+3]? =some y:=by simpa using hy
    rcases hfp k hk with q|q|q
    ·exact h.wG 0 (j+3) _ _ (by omega) rfl hy' k q
    ·exact h.wG 1 (j+3) _ _ (by omega) rfl hy' k q
    ·exact h.wG 2 (j+3) _ _ (by omega) rfl hy' k q
  |succ i=>
   have hx':(r::s::u::L)[i+3]? =some x:=by simpa using hx
   cases j with
   |zero=>
    simp at hy;subst hy
    intro hk2
    rcases hfp k hk2 with q|q|q
    ·exact h.wG 0 (i+3) _ _ (by omega) rfl hx' k q hk
    ·exact h.wG 1 (i+3) _ _ (by omega) rfl hx' k q hk
    ·exact h.wG 2 (i+3) _ _ (by omega) rfl hx' k q hk
   |succ j=>exact h.wG (i+3) (j+3) x y (by omega) hx' (by simpa using hy) k hk
theorem VB {β:Bs} {L:List cq} {w:World} {qs:List (Nat×Nat)} {l:List cZ} {a b:Nat} {c:cZ} (hl:qs.length=l.length) (h:St β (oN b (fW c.may)::oN a (fW c.sure)::FR qs l::L) w):St β (FR (qs++[(a,b)]) (l++[c])::L) w:=by
 refine St.aei h ?_ ?_
 ·rintro k ⟨q,hq,hk⟩
  rcases bZ.1 hq with hq|hq
  ·exact .inr (.inr ⟨q,hq,hk⟩)
  ·simp at hq;subst hq
   rcases hk with hk|hk
   ·exact .inr (.inl hk)
   ·exact .inl hk
 ·intro hb ha hs i q d hq hd
  rcases Nat.lt_or_ge i qs.length with g|g
  ·rw[aJ g]at hq
   rw[aJ (by omega)]at hd
   exact hs i q d hq hd
  ·rw[aY g]at hq
   rw[aY (by omega), ←hl]at hd
   cases e:i-qs.length with
   |zero=>rw[e]at hq hd;simp at hq hd;subst hq;subst hd;exact⟨ha,hb⟩
   |succ n=>rw[e]at hq;simp at hq
theorem amO (m n:Int) (w:World):
 Calls ae 87 #[.int .i64 m,.int .i64 n] w fun e w'=>e= .returned (.int .i64 (max m n))∧St (bs w) [] w':=by
 refine enter (vs:=[_,_]) (env:=[(0,_),(1,_)]) Tryz.func87 rfl rfl rfl rfl ?_
 refine VC.q (VO.a rfl<|VO.n<|VC.q (VO.m rfl<|VO.m rfl<|ah (LO.max (.r rfl) (.r rfl)) rfl<|VO.a rfl<|VO.n<|aP (VE.s rfl rfl (fun w hw=>?_))))
 exact⟨rfl,hw.nil⟩
theorem UI (m:Int) (w:World):
 Calls ae 89 #[.int .i64 m] w fun e w'=>e= .returned (.int .i64 m)∧St (bs w) [] w':=by
 refine enter (vs:=[_]) (env:=[(0,_)]) Tryz.func89 rfl rfl rfl rfl ?_
 refine VC.q (VO.a rfl<|VO.n<|VC.q (VO.m rfl<|VO.a rfl<|VO.n<|aP (VE.s rfl rfl (fun w hw=>?_))))
 exact⟨rfl,hw.nil⟩
theorem MO:dF ae 96 218:=Tryz.underlying96
theorem l9:(ae.info? 218).map (·.size)=some 7:=by kernel_rfl
theorem Dx:jX ae 218 7:=⟨⟨_,mC,rfl⟩,by kernel_rfl⟩
theorem sx:cj ae 218 (.agg #[.slice none 0 0,.slice none 0 0,.int .i64 0,.int .i64 0,.int .i64 0,.int .i64 0,.int .i64 0]):=by unfold cj;kernel_rfl
theorem C84:ef ae 84:=⟨_,Tryz.func84,by decide,rfl⟩
theorem C85:ef ae 85:=⟨_,Tryz.func85,by decide,rfl⟩
theorem UO:dF ae 258 262:=Tryz.underlying258
theorem akW:jW ae 262 12 96 (.agg #[.int .i64 0,.int .i64 0,.int .i64 0,.int .i64 0,.int .i64 0,.map none,.map none,.int .i64 0,.int .i64 0,.int .i64 0,.int .i64 0,.int .i64 0]):=⟨by kernel_rfl,by kernel_rfl,by unfold cj;kernel_rfl,rfl,by decide⟩
theorem C88:ef ae 88:=⟨_,Tryz.func88,by decide,rfl⟩
theorem C87:ef ae 87:=⟨_,Tryz.func87,by decide,rfl⟩
theorem C89:ef ae 89:=⟨_,Tryz.func89,by decide,rfl⟩
structure CP where
 c:cZ
 ps:Option Addr
 cs:Nat
 pm:Option Addr
 cm:Nat
def CP.cells (x:CP):List Value:=[.slice x.ps x.c.sure.length x.cs,.slice x.pm x.c.may.length x.cm,.int .i64 x.c.fh.a,.int .i64 x.c.fh.b,.int .i64 x.c.fh.c,.int .i64 x.c.fh.d,.int .i64 x.c.grow]
structure l0 (w:World) (p:Option Addr) (l:List CP):Prop where
 rows:Go.SL.Rows w 7 p (l.map CP.cells)
 ok:∀x,x∈l→Ints w x.ps x.c.sure∧Ints w x.pm x.c.may∧x.c.sure.length<1000000000000∧x.c.may.length<1000000000000
theorem l0.sl {w:World} {p:Option Addr} {l:List CP} (h:l0 w p l):nu p l.length:=Go.SL.Rows.some h.rows (by simp)
theorem l0.at {w0:World} {p:Option Addr} {l:List CP} (h:l0 w0 p l) {L:List cq} {j:Nat} {x:CP} (hx:l[j]? =some x):∀w,St (bs w0) L w→fk w ⟨pb p,po p+j*7,none⟩ x.cells:=
 fun w hw=>(h.rows.keep w hw).cells j _ (by rw[aw,hx];rfl)
instance:Inhabited cZ:=⟨⟨[],[],⟨0,0,0,0⟩,0⟩⟩
def iY (g:cU) (l:List cZ) (t p:Int):Int:=l.foldl (fun m c=>max m (iL g c p t)) 0
def Ej (g:cU) (l:List cZ) (t:Int):Int:=if ¬cF g then 3 else if 64<l.length then 9 else if gy (fun k=>fy g (l.getD k default)) l.length≠0 then gy (fun k=>fy g (l.getD k default)) l.length else if ¬(0≤t∧t≤7200) then 3 else 0
def zL (g:cU) (l:List cZ) (t:Int):List Int:=if Ej g l t≠0 then[] else(br (g.wide*g.high).toNat).map fun p:Nat=>iY g l t p
def tx (g:cU) (qs:List (Nat×Nat)) (l:List cZ):List (List Value):=List.zipWith (fun q c=>(xt q.1 q.2 g c).toList) qs l
theorem L3 {l:List CP} {j:Nat} {x:CP} (hx:l[j]? =some x):(l.map CP.c).take (j+1)=(l.map CP.c).take j++[x.c]:=by
 rw[cQ,aw,hx];rfl
theorem Mc {g:cU} {qs:List (Nat×Nat)} {l:List cZ} {q:Nat×Nat} {c:cZ} (h:qs.length=l.length):tx g (qs++[q]) (l++[c])=tx g qs l++[(xt q.1 q.2 g c).toList]:=by
 unfold tx;rw[List.zipWith_append h];rfl
theorem GM {l:List CP} {j:Nat} {x:CP} (hx:l[j]? =some x):(l.map CP.c).getD j default=x.c:=by
 rw[av,aw,hx];rfl
section
variable {g:cU} {l:List CP} {t:Int}
theorem aE1 (h:¬lQ g=0):lQ g=Ej g (l.map CP.c) t:=by
 unfold Ej
 by_cases q:cF g
 ·exact absurd (if_pos q) h
 ·rw[if_pos q];exact if_neg q
theorem aE2 (hg:cF g) (h:(64:Int)<(l.length:Int)):9=Ej g (l.map CP.c) t:=by
 unfold Ej
 rw[if_neg (by simpa using hg),if_pos (by simp;omega)]
theorem aE3 (hg:cF g) (h:¬(64:Int)<(l.length:Int)) {j:Nat} {x:CP} (hz:∀k,k<j→fy g ((l.map CP.c).getD k default)=0) (hx:l[j]? =some x) (h4:¬fy g x.c=0):fy g x.c=Ej g (l.map CP.c) t:=by
 have hj:j<l.length:=(aj.1 hx).1
 have e:gy (fun k=>fy g ((l.map CP.c).getD k default)) (l.map CP.c).length=fy g x.c:=by
  rw[mT (i:=j) hz (by rw[GM hx];exact h4) (by simpa using hj),GM hx]
 unfold Ej
 rw[if_neg (by simpa using hg),if_neg (by simp;omega),e,if_pos h4]
theorem aE4 (hg:cF g) (h:¬(64:Int)<(l.length:Int)) (hz:gy (fun k=>fy g ((l.map CP.c).getD k default)) (l.map CP.c).length=0) (h5:¬(0≤t∧t≤7200)):3=Ej g (l.map CP.c) t:=by
 unfold Ej
 rw[if_neg (by simpa using hg),if_neg (by simp;omega),if_neg (fun q=>q hz),if_pos h5]
theorem aE5 (hg:cF g) (h:¬(64:Int)<(l.length:Int)) (hz:gy (fun k=>fy g ((l.map CP.c).getD k default)) (l.map CP.c).length=0) (h5:0≤t∧t≤7200):Ej g (l.map CP.c) t=0:=by
 unfold Ej
 rw[if_neg (by simpa using hg),if_neg (by simp;omega),if_neg (fun q=>q hz),if_neg (by simpa using h5)]
theorem lI {w w':World} {L:List cq} {e:Int} (he:e=Ej g (l.map CP.c) t) (h0:¬e=0) (hw:St (bs w) L w'):
  ∃x:Option Addr×Nat,True∧cW (.tuple #[.slice none 0 0,.int .i64 e])= .returned (.tuple #[.slice x.1 (zL g (l.map CP.c) t).length x.2,.int .i64 (Ej g (l.map CP.c) t)])∧St (bs w) [own 3 1 x.1 x.2 ((zL g (l.map CP.c) t).map fun n=>[.int .i64 n])] w':=by
 have hn:zL g (l.map CP.c) t=[]:=if_pos (by rw[←he];exact h0)
 refine⟨(none,0),trivial,?_,?_⟩
 ·rw[hn, ←he];rfl
 ·rw[hn];exact hw.nil.fX 3 1
theorem I9 {w w':World} {k cr:Nat} {pr:Option Addr} (he:Ej g (l.map CP.c) t=0) (hk:k=(g.wide*g.high).toNat) (hw:St (bs w) [own 3 1 pr cr ((br k).map fun p:Nat=>[.int .i64 (iY g (l.map CP.c) t p)])] w'):
  ∃x:Option Addr×Nat,True∧cW (.tuple #[.slice pr k cr,.int .i64 0])= .returned (.tuple #[.slice x.1 (zL g (l.map CP.c) t).length x.2,.int .i64 (Ej g (l.map CP.c) t)])∧St (bs w) [own 3 1 x.1 x.2 ((zL g (l.map CP.c) t).map fun n=>[.int .i64 n])] w':=by
 have hn:zL g (l.map CP.c) t=(br (g.wide*g.high).toNat).map fun p:Nat=>iY g (l.map CP.c) t p:=if_neg (by simp [he])
 refine⟨(pr,cr),trivial,?_,?_⟩
 ·rw[hn,he,hk];simp
 ·rw[hn,List.map_map, ←hk];exact hw
end
theorem PU {w:World} {qs:List (Nat×Nat)} {l:List cZ} {i:Nat} {q:Nat×Nat} {c:cZ} (h:(FR qs l).inv w) (hq:qs[i]? =some q) (hc:l[i]? =some c):(oN q.1 (fW c.sure)).inv w∧(oN q.2 (fW c.may)).inv w:=h i q c hq hc
theorem VC.pure {φ:Prop} {P:Program} {ro:Option Nat} {β:Bs} {N:Nat} {ds:List Deferred} {env:Env} {L:List cq} {c:Code} {Q:Exit→Act→World→Prop} (h:∀w,St β L w→φ) (k:φ→VC P ro β N ds env L c Q):VC P ro β N ds env L c Q:=fun a w ha hw=>k (h w hw) a w ha hw
theorem Rb {g:cU} {c:cZ} (h:fy g c=0):im c.fh∧0≤c.grow∧c.grow≤10000:=by
 unfold fy at h
 split at h
 ·omega
 ·split at h
  ·omega
  ·rename_i q
   split at h
   ·omega
   ·rename_i r
    have:=cL.1 r
    exact⟨cL.1 q,this.1,this.2⟩
theorem Y5 {β:Bs} {L:List cq} {w:World} (h:St β L w):St β (FR [] []::L) w:=by
 refine⟨h.os,h.tape,h.output,h.size,h.fr,?_,?_,?_⟩
 ·intro i x hx
  cases i with
  |zero=>simp at hx;subst hx;intro i q c hq;simp at hq
  |succ i=>exact h.inv i x (by simpa using hx)
 ·intro i x hx k hk
  cases i with
  |zero=>simp at hx;subst hx;obtain⟨q,hq,_⟩:=hk;simp at hq
  |succ i=>exact h.pM i x (by simpa using hx) k hk
 ·intro i j x y hij hx hy k hk
  cases i with
  |zero=>simp at hx;subst hx;obtain⟨q,hq,_⟩:=hk;simp at hq
  |succ i=>cases j with
   |zero=>simp at hy;subst hy;rintro ⟨q,hq,_⟩;simp at hq
   |succ j=>exact h.wG i j x y (by omega) (by simpa using hx) (by simpa using hy) k hk
theorem agX (g:cU) (l:List CP) (pl:Option Addr) (cl:Nat) (lead:Int) (w:World) (hll:l.length<1000000000000) (hl:l0 w pl l):
 Calls ae 32 #[uk g,.slice pl l.length cl,.int .i64 lead] w fun e w'=>∃x:Option Addr×Nat,True∧e= .returned (.tuple #[.slice x.1 (zL g (l.map CP.c) lead).length x.2,.int .i64 (Ej g (l.map CP.c) lead)])∧St (bs w) [own 3 1 x.1 x.2 ((zL g (l.map CP.c) lead).map fun n=>[.int .i64 n])] w':=by
 refine enter (vs:=[_,_,_]) (env:=[(0,_),(1,_),(2,_)]) Tryz.func32 rfl rfl rfl rfl ?_
 refine VC.q (aD rfl<|cf (C:=#[_,_,_,_,_]) rfl rfl fun b1=>VO.a rfl<|VO.a rfl<|VO.n<|ak<|VC.q (ah (aM (vs:=[_,_,_,_,_]) vS (.r rfl) (ax 0 rfl ⟨_,rfl⟩) rfl) rfl<|ah (bD (xs:=[_]) (vs:=[_]) C83 ⟨(.r rfl),trivial⟩ (fun w _=>pT g w)) rfl<|VO.a rfl<|VO.n ?_))
 refine VC.q (VO.m rfl<|VO.u rfl<|VO.n<|ay rfl (fun h1=>?_) (fun h1=>?_))
 ·
  refine VC.q (VO.m rfl<|VO.a rfl<|VO.a rfl<|VO.n<|aP (a8 (dh (vs:=[_,_]) rfl ⟨rfl,rfl,trivial⟩ (fun w hw=>?_))))
  first |exact lI (aE1 h1) h1 hw|exact lI (aE2 hgo h2) (by decide) hw|exact lI (aE3 hgo h2 hz hx h4) h4 hw|exact lI (aE4 hgo h2 hA0 h5) (by decide) hw|exact I9 (aE5 hgo h2 hA0 h5) (by omega) (hw.fO [0] rfl)
 ·
  have hgo:cF g:=we h1
  have har:=rP hgo
  refine aC (ag<|ak<|VC.q (VO.m rfl<|ah (bW MO (.r rfl) rfl) rfl<|ah (LO.gt (.r rfl) (.r rfl)) rfl<|VO.n<|ay rfl (fun h2=>?_) (fun h2=>?_)))
  ·
   refine VC.q (VO.a rfl<|VO.a rfl<|VO.n<|aP (a8 (dh (vs:=[_,_]) rfl ⟨rfl,rfl,trivial⟩ (fun w hw=>?_))))
   first |exact lI (aE1 h1) h1 hw|exact lI (aE2 hgo h2) (by decide) hw|exact lI (aE3 hgo h2 hz hx h4) h4 hw|exact lI (aE4 hgo h2 hA0 h5) (by decide) hw|exact I9 (aE5 hgo h2 hA0 h5) (by omega) (hw.fO [0] rfl)
  ·
   refine aC (ag<|VC.q (VO.a rfl<|VO.n<|ak<|VC.q (VO.m rfl<|ah (bW MO (.r rfl) rfl) rfl<|VO.m rfl<|aI ?_)))
   refine ag<|aG<|bY (α:=Nat×List (Nat×Nat)×Option Addr×Nat) 0 (fun x=>[(9,.slice x.2.2.1 x.1 x.2.2.2),(29,.int .i64 (x.1:Nat))]) [(2,_),(3,_),(27,_),(28,_)] (fun x=>[FR x.2.1 ((l.map CP.c).take x.1),own 262 12 x.2.2.1 x.2.2.2 (tx g x.2.1 ((l.map CP.c).take x.1))]) (fun x=>x.1≤l.length∧x.2.1.length=x.1∧∀k,k<x.1→fy g ((l.map CP.c).getD k default)=0) (fun x=>l.length-x.1) (0,[],none,0) (by exact⟨by omega,rfl,fun k hk=>by omega⟩) (.c4 rfl rfl rfl rfl (.cons rfl (.cons rfl .nil))) (fun w h=>Y5 (h.fX 262 12)) ?_
   rintro ⟨j,qs,po,co⟩ ⟨hj,hqs,hz⟩
   show VC _ _ _ _ _ ([(9,.slice po j co),(29,.int .i64 (j:Nat))]++_) ([FR qs ((l.map CP.c).take j),own 262 12 po co (tx g qs ((l.map CP.c).take j))]++_) _ _
   have hqs:qs.length=j:=hqs
   have hj:j≤l.length:=hj
   refine VC.q (VO.t rfl<|VO.n<|ak<|ay rfl (fun h3=>?_) (fun h3=>?_))
   ·
    obtain⟨x,hx⟩:∃x,l[j]? =some x:=⟨_,af (by omega)⟩
    have hxo:=hl.ok x (al hx)
    refine aC (ag<|ak<|aG<|VC.q (ah (cw MO l9 hl.sl (.r rfl) (.r rfl) rfl (by omega)) rfl<|ah (aM (vs:=[_,_,_,_,_,_,_]) Dx (.r rfl) (hl.at hx) rfl) rfl<|aD rfl<|bI (C:=#[_,_,_,_,_,_,_]) sx rfl fun b4=>bU<|bl 0 (vs:=[_,_,_,_,_,_,_]) (C':=[_,_,_,_,_,_,_]) (L':=[_,_,_,_]) l9 rfl rfl rfl rfl rfl rfl rfl rfl<|VO.n<|ak ?_))
    refine VC.q (ah (aM (vs:=[_,_,_,_,_]) vS (.r rfl) (ax 3 rfl ⟨_,rfl⟩) rfl) rfl<|ah (aM (vs:=[_,_,_,_,_,_,_]) Dx (.r rfl) (ax 0 rfl ⟨_,rfl⟩) rfl) rfl<|ah (bD (xs:=[_,_]) (vs:=[_,_]) C84 ⟨(.r rfl),(.r rfl),trivial⟩ (fun w hw=>yH g x.c x.ps x.pm x.cs x.cm w hxo.2.2.1 hxo.2.2.2 (hxo.1.keep w hw) (hxo.2.1.keep w hw))) rfl<|VO.a rfl<|VO.n<|VC.q (VO.m rfl<|VO.u rfl<|VO.n<|ay rfl (fun h4=>?_) (fun h4=>?_)))
    ·
     refine VC.q (VO.m rfl<|VO.a rfl<|VO.a rfl<|VO.n<|aP (a8 (cI (a8 (a8 (cI (a8 (dh (vs:=[_,_]) rfl ⟨rfl,rfl,trivial⟩ (fun w hw=>?_)))))))))
     first |exact lI (aE1 h1) h1 hw|exact lI (aE2 hgo h2) (by decide) hw|exact lI (aE3 hgo h2 hz hx h4) h4 hw|exact lI (aE4 hgo h2 hA0 h5) (by decide) hw|exact I9 (aE5 hgo h2 hA0 h5) (by omega) (hw.fO [0] rfl)
    ·
     refine aC (ag<|aF (VO.m rfl<|ah (aM (vs:=[_,_,_,_,_]) vS (.r rfl) (ax 3 rfl ⟨_,rfl⟩) rfl) rfl<|ah (aM (vs:=[_,_,_,_,_,_,_]) Dx (.r rfl) (ax 0 rfl ⟨_,rfl⟩) rfl) rfl<|aD rfl<|cz (xs:=[_,_]) (vs:=[_,_]) C85 ⟨(.r rfl),(.r rfl),trivial⟩ (fun w hw=>VQ g x.c x.ps x.pm x.cs x.cm w hxo.2.2.1 hxo.2.2.2 (hxo.1.keep w hw) (hxo.2.1.keep w hw)) fun q hq=>aD rfl<|HO.bs (ps:=[(_,_)]) (vs:=[(_,_)]) (Z:=[_,_,_,_,_,_,_,_,_,_,_,_]) (C:=[_,_,_,_,_,_,_,_,_,_,_,_]) UO adg XU ⟨(.r rfl),trivial⟩ rfl rfl rfl rfl ⟨_,[_,_,_,_,_,_,_,_,_,_,_,_],[_,_,_,_,_,_,_,_,_,_,_,_],rfl,rfl,rfl,rfl,rfl⟩ fun b8=>aD rfl<|HO.aeR 5 0 (fun R=>[_,_,_,_,_,R,_]) UO UO akW (.r rfl) (.r rfl) rfl rfl rfl rfl rfl rfl rfl (fun _=>rfl) (by unfold tx;simp;omega) (by omega) fun p5 c5=>aD rfl<|aO (LO.as (.r rfl))<|aI<|bB (ag<|aF (VO.p rfl rfl (by omega) (by omega) rfl<|VO.m rfl<|aI<|bn fun a w ha hw=>⟨(j+1,qs++[q],_,_),⟨by show j+1≤l.length;omega,by simp [hqs],q8 hz (by rw[GM hx];simpa using h4)⟩,(by show l.length-(j+1)<l.length-j;omega),ha.sub (.c4 rfl rfl rfl rfl (.cons rfl (.cons rfl .nil))),by rw[L3 hx,Mc (by simp;omega)];exact VB (by simp;omega) (hw.fO [1,2,4,5,6] rfl)⟩))))
   ·
    refine ca (aL (aL (cD (ag<|ak<|ak ?_))))
    have hA0:gy (fun k=>fy g ((l.map CP.c).getD k default)) (l.map CP.c).length=0:=iw (fun k hk=>hz k (by simp at hk;omega))
    refine aF (VO.m rfl<|ah (bD (xs:=[_,_,_]) (vs:=[_,_,_]) C86 ⟨(.r rfl),(.r rfl),(.r rfl),trivial⟩ (fun w _=>vk _ _ _ w)) rfl<|ah (LO.not (.r rfl)) rfl<|VO.n<|ay rfl (fun h5=>?_) (fun h5=>?_))
    ·
     refine VC.q (VO.a rfl<|VO.a rfl<|VO.n<|aP (a8 (dh (vs:=[_,_]) rfl ⟨rfl,rfl,trivial⟩ (fun w hw=>?_))))
     first |exact lI (aE1 h1) h1 hw|exact lI (aE2 hgo h2) (by decide) hw|exact lI (aE3 hgo h2 hz hx h4) h4 hw|exact lI (aE4 hgo h2 hA0 h5) (by decide) hw|exact I9 (aE5 hgo h2 hA0 h5) (by omega) (hw.fO [0] rfl)
    ·
     have h5:0≤lead∧lead≤7200:=by simpa using h5
     refine aC (ag<|VC.q (VO.a rfl<|VO.n<|VC.q (VO.a rfl<|VO.n ?_)))
     refine ak<|VC.q (VO.f (r:=3) jD rfl<|VO.c 2 O3 rfl rfl ⟨_,rfl⟩ rfl<|VO.f (r:=4) qH rfl<|VO.c 2 O3 rfl rfl ⟨_,rfl⟩ rfl<|ah (gG (.r rfl) (.r rfl) (wi (by omega) (by omega))) rfl<|VO.m rfl<|VO.n<|aG ?_)
     have hjl:j=l.length:=by omega
     have htk:(l.map CP.c).take j=l.map CP.c:=dK (by simp;omega)
     refine VC.pure (φ:=nu po j) (fun w hw=>(dE hw 1 rfl).some (by unfold tx;simp;omega)) fun hso=>bY (α:=Nat×Option Addr×Nat) 0 (fun x=>[(14,.slice x.2.1 x.1 x.2.2),(54,.int .i64 (x.1:Nat))]) [(2,_),(3,_),(9,_),(13,_),(53,_)] (fun x=>[own 3 1 x.2.1 x.2.2 ((br x.1).map fun p:Nat=>[.int .i64 (iY g (l.map CP.c) lead p)])]) (fun x=>x.1≤(g.wide*g.high).toNat) (fun x=>(g.wide*g.high).toNat-x.1) (0,none,0) (by exact bG _) (.c4 rfl rfl rfl rfl (.cons rfl (.cons rfl (.cons rfl .nil)))) (fun w h=>h.fX 3 1) ?_
     rintro ⟨k,pr,cr⟩ hk
     show VC _ _ _ _ _ ([(14,.slice pr k cr),(54,.int .i64 (k:Nat))]++_) ([own 3 1 pr cr ((br k).map fun p:Nat=>[.int .i64 (iY g (l.map CP.c) lead p)])]++_) _ _
     have hk:k≤(g.wide*g.high).toNat:=hk
     refine VC.q (VO.t rfl<|VO.n<|ak<|ay rfl (fun h6=>?_) (fun h6=>?_))
     ·
      refine aC (ag<|ak<|aG<|VC.q (VO.m rfl<|VO.a rfl<|VO.n<|ak ?_))
      refine aF (VO.a rfl<|VO.n<|ak<|VC.q (VO.m rfl<|ah (bW UO (.r rfl) rfl) rfl<|VO.m rfl<|VO.n<|aG ?_))
      refine bY (α:=Nat) 0 (fun i=>[(16,.int .i64 (((l.map CP.c).take i).foldl (fun m c=>max m (iL g c (k:Nat) lead)) 0)),(59,.int .i64 (i:Nat))]) [(2,_),(3,_),(9,_),(13,_),(14,_),(15,_),(53,_),(54,_),(57,_),(58,_)] (fun i=>[]) (fun i=>i≤j) (fun i=>j-i) 0 (by omega) (.c4 rfl rfl rfl rfl (.c4 rfl rfl rfl rfl (.c4 rfl rfl rfl rfl .nil))) (fun _ h=>h) ?_
      rintro i hi
      refine VC.q (VO.t rfl<|VO.n<|ak<|ay rfl (fun h7=>?_) (fun h7=>?_))
      ·
       obtain⟨x,hx⟩:∃x,l[i]? =some x:=⟨_,af (by omega)⟩
       obtain⟨q,hq⟩:∃q,qs[i]? =some q:=⟨_,af (by omega)⟩
       have hrow:(tx g qs ((l.map CP.c).take j))[i]? =some (xt q.1 q.2 g x.c).toList:=by unfold tx;rw[htk,List.getElem?_zipWith,hq,aw,hx];rfl
       have hxk:=Rb (c:=x.c) (by rw[←GM hx];exact hz i (by omega))
       refine aC (ag<|ak<|aG<|VC.q (ah (cw UO XU hso (.r rfl) (.r rfl) rfl (by omega)) rfl<|ah (aM (vs:=[_,_,_,_,_,_,_,_,_,_,_,_]) Rn (.r rfl) (fun _ hw=>(dE hw 2 rfl).cells i _ hrow) rfl) rfl<|aD rfl<|bI (C:=#[_,_,_,_,_,_,_,_,_,_,_,_]) adg rfl fun b10=>bU<|bl 0 (vs:=[_,_,_,_,_,_,_,_,_,_,_,_]) (C':=[_,_,_,_,_,_,_,_,_,_,_,_]) (L':=[_,_,_,_,_]) XU rfl rfl rfl rfl rfl rfl rfl rfl<|VO.n<|aF (VO.m rfl<|VO.m rfl<|ah (aM (vs:=[_,_,_,_,_,_,_,_,_,_,_,_]) Rn (.r rfl) (ax 0 rfl ⟨_,rfl⟩) rfl) rfl<|VO.m rfl<|VO.m rfl<|ah (bD (xs:=[_,_,_]) (vs:=[_,_,_]) C88 ⟨(.r rfl),(.r rfl),(.r rfl),trivial⟩ (fun w hw=>akO g x.c q.1 q.2 (k:Nat) lead w hgo hxk.1 hxk.2.1 hxk.2.2 h5.1 h5.2 (by omega) (by omega) (PU (hw.inv 2 _ rfl) hq (by rw[htk,aw,hx];rfl)).1 (PU (hw.inv 2 _ rfl) hq (by rw[htk,aw,hx];rfl)).2)) rfl<|ah (LO.wN (first:=[]) (cap:=[]) (xs:=[_,_]) (vs:=[_,_]) (.r rfl) C87 ⟨(.r rfl),(.r rfl),trivial⟩ (fun w _=>amO _ _ w)) rfl<|VO.a rfl<|aI ?_)))
       refine bB (ag<|aF (VO.p rfl rfl (by omega) (by omega) rfl<|VO.m rfl<|aI<|bn fun a w ha hw=>⟨i+1,by omega,(by omega),ha.sub (.cons (q9 (b:=some (bX .i64 (max (((l.map CP.c).take i).foldl (fun m c=>max m (iL g c (k:Nat) lead)) 0) (iL g x.c (k:Nat) lead)))) rfl (by rw[L3 hx,List.foldl_append];rfl)) (.c4 rfl rfl rfl rfl (.c4 rfl rfl rfl rfl (.cons rfl (.cons rfl (.cons rfl .nil)))))),hw.fO [1,2,3,4] rfl⟩))
      ·
       have hsk:iY g (l.map CP.c) lead (k:Nat)=((l.map CP.c).take i).foldl (fun m c=>max m (iL g c (k:Nat) lead)) 0:=by rw[show i=j by omega,htk];rfl
       refine ca (aL (aL (cD (ag<|aF (VO.m rfl<|VO.m rfl<|ah (bD (xs:=[_]) (vs:=[_]) C89 ⟨(.r rfl),trivial⟩ (fun w _=>UI _ w)) rfl<|aD rfl<|HO.bs (ps:=[(_,_)]) (vs:=[(_,_)]) (Z:=[_]) (C:=[_]) ei Z3 N3 ⟨(.r rfl),trivial⟩ rfl rfl rfl rfl ⟨_,[_],[_],rfl,rfl,rfl,rfl,rfl⟩ fun b12=>aD rfl<|HO.aeR 1 0 (fun R=>[_,R,_,_,_]) ei ei I3 (.r rfl) (.r rfl) rfl rfl rfl rfl rfl rfl rfl (fun _=>rfl) (by simp) (by omega) fun p4 c4=>aD rfl<|aO (LO.as (.r rfl))<|aI<|bB (ag<|aF (VO.p rfl rfl (by omega) (by omega) rfl<|VO.m rfl<|aI<|bn fun a w ha hw=>⟨(k+1,_,_),by show k+1≤(g.wide*g.high).toNat;omega,(by show(g.wide*g.high).toNat-(k+1)<(g.wide*g.high).toNat-k;omega),ha.sub (.c4 rfl rfl rfl rfl (.cons rfl (.cons rfl (.cons rfl .nil)))),by show St _ ([own 3 1 _ _ ((br (k+1)).map fun p:Nat=>[bX .i64 (iY g (l.map CP.c) lead p)])]++_) w;rw[fA,bj,List.map_singleton,hsk];exact hw.fO [1,2,3,4] rfl⟩)))))))
     ·
      refine ca (aL (aL (cD (ag<|VC.q (VO.m rfl<|VO.a rfl<|VO.a rfl<|VO.n<|aP (dh (vs:=[_,_]) rfl ⟨rfl,rfl,trivial⟩ (fun w hw=>?_)))))))
      first |exact lI (aE1 h1) h1 hw|exact lI (aE2 hgo h2) (by decide) hw|exact lI (aE3 hgo h2 hz hx h4) h4 hw|exact lI (aE4 hgo h2 hA0 h5) (by decide) hw|exact I9 (aE5 hgo h2 hA0 h5) (by omega) (hw.fO [0] rfl)
def tq (lo sec slack:Int):Int:=1000*(1000*lo-slack) / sec
def tJ (hi sec slack:Int):Int:= -(-(1000*(1000*hi+slack)) / sec)
def pV (x1 x2 y1 y2 sec slack:Int):Prop:=(-64≤x1∧x1≤x2∧x2≤64)∧(-64≤y1∧y1≤y2∧y2≤64)∧(1≤sec∧sec≤86400)∧(0≤slack∧slack≤2000)
instance (x1 x2 y1 y2 sec slack:Int):Decidable (pV x1 x2 y1 y2 sec slack):=by unfold pV;exact inferInstance
def uR (x1 x2 y1 y2 sec slack:Int):Au:=⟨tq x1 sec slack,tJ x2 sec slack,tq y1 sec slack,tJ y2 sec slack⟩
def Az (x1 x2 y1 y2 sec slack:Int):Int:=if ¬pV x1 x2 y1 y2 sec slack then 3 else if ¬im (uR x1 x2 y1 y2 sec slack) then 26 else 0
def Ap (x1 x2 y1 y2 sec slack:Int):Au:=if Az x1 x2 y1 y2 sec slack=0 then uR x1 x2 y1 y2 sec slack else⟨0,0,0,0⟩
section
variable {x1 x2 y1 y2 sec slack:Int}
theorem adx (h:¬pV x1 x2 y1 y2 sec slack):cW (.tuple #[uo ⟨0,0,0,0⟩,.int .i64 3])= .returned (.tuple #[uo (Ap x1 x2 y1 y2 sec slack),.int .i64 (Az x1 x2 y1 y2 sec slack)]):=by
 have e:Az x1 x2 y1 y2 sec slack=3:=if_pos h
 have f:Ap x1 x2 y1 y2 sec slack=⟨0,0,0,0⟩:=if_neg (by rw[e];decide)
 rw[e,f]
theorem aeC (h:pV x1 x2 y1 y2 sec slack) (k:¬yr (uR x1 x2 y1 y2 sec slack)=0):cW (.tuple #[uo ⟨0,0,0,0⟩,.int .i64 26])= .returned (.tuple #[uo (Ap x1 x2 y1 y2 sec slack),.int .i64 (Az x1 x2 y1 y2 sec slack)]):=by
 have e:Az x1 x2 y1 y2 sec slack=26:=by
  unfold Az;rw[if_neg (fun q=>q h),if_pos (fun q=>k (if_pos q))]
 have f:Ap x1 x2 y1 y2 sec slack=⟨0,0,0,0⟩:=if_neg (by rw[e];decide)
 rw[e,f]
theorem afd (h:pV x1 x2 y1 y2 sec slack) (k:¬¬yr (uR x1 x2 y1 y2 sec slack)=0):cW (.tuple #[uo (uR x1 x2 y1 y2 sec slack),.int .i64 0])= .returned (.tuple #[uo (Ap x1 x2 y1 y2 sec slack),.int .i64 (Az x1 x2 y1 y2 sec slack)]):=by
 have e:Az x1 x2 y1 y2 sec slack=0:=by
  unfold Az;rw[if_neg (fun q=>q h),if_neg (fun q=>q (Fj k))]
 have f:Ap x1 x2 y1 y2 sec slack=uR x1 x2 y1 y2 sec slack:=if_pos e
 rw[e,f]
end
end Go.Proofs.YtffbohecdocajaaGreat
