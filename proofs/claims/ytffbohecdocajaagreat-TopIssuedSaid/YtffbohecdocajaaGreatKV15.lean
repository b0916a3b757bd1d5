/-
  A region in the way: what is warned of it. Plain.
  A region in the way.
  What a reading says of rain that moves.
-/
import Derived.Test.YtffbohecdocajaaGreatKV14
open List renaming range→br,replicate→cy,mem_of_getElem?→al,length_map→aq,length_set→ja
open Go.Proofs.Tryz renaming prog→ae
open Go.SL.VC renaming seq→ak
open Go.SL.HO renaming lo→aO
open Go.SL.VE renaming aN→ag
open Go.SL.VO renaming l→ah,h→aD
open Go.Value renaming int→bX
open Go.SL.LO renaming mv→bJ,pE→dJ,ex→bN
open Int renaming tdiv→vQ,toNat_of_nonneg→iv
open Go.IntKind renaming signed→Eb,bits→K2

set_option linter.unusedSimpArgs false
set_option maxRecDepth 20000
set_option maxHeartbeats 8000000
namespace Go.Proofs.YtffbohecdocajaaGreat
open Go.SL Go.Proofs Go.qO Go.Cell
set_option linter.unusedVariables false
set_option maxRecDepth 100000
def wkB (k p:Nat):Bool:=decide (1+k≤p%6)&&decide (p%6≤3+k)&&decide (1≤p / 6)&&decide (p / 6≤3)
def NF:List Bool:=(br 30).map (wkB 0)
abbrev En (pi:Option Addr) (ci:Nat) (pd:Option Addr) (cd:Nat):mj:=⟨5,4,pi,ci,NF,3,2,pd,cd,[1],400⟩
def LG (k:Nat):List Span:=(br 30).map fun p=>if wkB k p=true then⟨5,9⟩ else⟨0,3⟩
def wkO (k:Nat):List Int:=(br 30).map fun p=>if wkB k p=true then 0 else-1
def Je:List Nat:=(cy 30 0).set 17 1
abbrev wkX (pi:Option Addr) (ci:Nat) (pd:Option Addr) (cd:Nat) (pr:Option Addr) (cr:Nat):El:=⟨En pi ci pd cd,pr,cr,Je⟩
abbrev wkC:cZ:=⟨[8,9,10,14,15,16,20,21,22],[8,9,10,14,15,16,20,21,22],⟨2000,2000,0,0⟩,0⟩
theorem aiH:eU 6 5 (ga (LG 0) 5)=[[7,8,9,13,14,15,19,20,21]]:=by kernel_rfl
theorem abD:eU 6 5 (ga (LG 1) 5)=[[8,9,10,14,15,16,20,21,22]]:=by kernel_rfl
theorem agS:vl 6 5 (LG 0) 5 0=[[7,8,9,13,14,15,19,20,21]]:=by kernel_rfl
theorem aaX:vl 6 5 (LG 1) 5 0=[[8,9,10,14,15,16,20,21,22]]:=by kernel_rfl
theorem abz:pF 6 5 (ga (LG 0) 5)=wkO 0:=by kernel_rfl
theorem abj:pF 6 5 (ga (LG 1) 5)=wkO 1:=by kernel_rfl
theorem ai3:tL 6 5 [[7,8,9,13,14,15,19,20,21]] [[8,9,10,14,15,16,20,21,22]] (wkO 0) (wkO 1) 0 0 2=[⟨1,0⟩]:=by kernel_rfl
theorem aex:uR 1 1 0 0 500 0=⟨2000,2000,0,0⟩:=by kernel_rfl
theorem aej (κ:Nat→Bool×Int) (h:κ 0=κ 1):wC κ 1 1=[⟨4,[0],[0]⟩]:=by
 have e:wC κ 1 1=wC (fun _=>(0:Nat)) 1 1:=L8 fun i j hi hj=>by
  have h1:∀i,i<1+1→κ i=κ 0:=fun i hi=>by
   match i,hi with
   |0,_=>rfl
   |1,_=>exact h.symm
  rw[h1 i hi,h1 j hj]
  exact⟨fun _=>rfl,fun _=>rfl⟩
 have e2:wC (fun _=>(0:Nat)) 1 1=[⟨4,[0],[0]⟩]:=by kernel_rfl
 exact e.trans e2
theorem aib {l:List jS} (h:UN 6 5 2 (wkO 0) (wkO 1) 1 1 l):l=[⟨4,[0],[0]⟩]:=by
 obtain⟨ld,h1,h2⟩:=h.ex
 rw[h2]
 refine aej _ ?_
 show ld (yK 1 0)=ld (yK 1 1)
 exact(h1 _ _).2 (.base ⟨7,1,2,by decide,by decide,by decide,⟨by kernel_rfl,by decide⟩,⟨by kernel_rfl,by decide⟩⟩)
section
variable {pi pd pr:Option Addr} {ci cd cr k bm:Nat} {y:McY} {s:rk} {XA:List cq} {t:jf} {c:cZ}
theorem Tn:fG (En pi ci pd cd) 0=LG 0:=by kernel_rfl
theorem Jn:fG (En pi ci pd cd) 1=LG 1:=by kernel_rfl
theorem abA:Ha (En pi ci pd cd) 0=1:=by
 unfold Ha nP;rw[Tn];show(eU 6 5 (ga (LG 0) 5)).length=1;rw[aiH];rfl
theorem aba:Ha (En pi ci pd cd) 1=1:=by
 unfold Ha nP;rw[Jn];show(eU 6 5 (ga (LG 1) 5)).length=1;rw[abD];rfl
theorem aiD (h:PC (En pi ci pd cd) bm 2 s XA) (ht:MrT (En pi ci pd cd) s 0 k t):t.fr=0:=by
 have hev:=h.ev rfl
 rw[abA,aba,Tn,Jn]at hev
 have hev2:UN 6 5 2 (pF 6 5 (ga (LG 0) 5)) (pF 6 5 (ga (LG 1) 5)) 1 1 (s.E.getD 1 []):=hev
 rw[abz,abj]at hev2
 have he:=aib hev2
 have hI:=h.P.I.q
 obtain⟨t2,h1,h2,h3⟩:=(hI.base.Pd 1 0 k).1 ht.of
 rw[ht.tt]at h1
 cases h1
 rcases hI.bg t (al ht.tt) with z|⟨z1,z2,z3⟩
 ·exact z.1
 ·exfalso
  have hf:t.fr=1:=by omega
  rw[hf]at h3 z2
  have e:t.ar.headD 0=0:=by
   cases hq:t.ar with
   |nil=>rfl
   |cons a l=>rw[hq]at h3;cases h3;rfl
  rw[e,he]at z2
  exact z3 z2
theorem ale (h:PC (En pi ci pd cd) bm 2 s XA) (hc:XT (En pi ci pd cd) s 0 c):c=wkC:=by
 obtain⟨l,hl,hm⟩:=hc.may
 have hl2:(eU 6 5 (ga (fG (En pi ci pd cd) 1) 5))[0]? =some l:=hl
 rw[Jn,abD]at hl2
 cases hl2
 obtain⟨k,t,ht,hf⟩:=hc.fl
 have hfr:=aiD h ht
 obtain⟨a,ha,hmv⟩:=ht.kept hfr
 have hs:c.sure=[8,9,10,14,15,16,20,21,22]:=by
  have e:ksI (En pi ci pd cd) 0=[8,9,10,14,15,16,20,21,22]:=by
   show(vl 6 5 (fG (En pi ci pd cd) 1) 5 0).flatten.map Int.ofNat=_
   rw[Jn,aaX];rfl
  have q:=hc.sure
  rw[e]at q
  refine Uc q.1 (by decide) fun n=>?_
  rw[q.2 n]
  unfold fW
  rw[decide_eq_true_eq]
 have ha0:a=0:=by
  have hI:=h.P.I.q
  have z:=hI.pM t (al ht.tt) 0 a (by rw[ha];rfl)
  rw[hfr,h.ms]at z
  have:a<Ha (En pi ci pd cd) 0:=z
  rw[abA]at this
  omega
 subst ha0
 have hmo:jy (gw (En pi ci pd cd)) (fG (En pi ci pd cd) 0) (fG (En pi ci pd cd) 1) 5 0 0 2=[⟨1,0⟩]:=by
  rw[Tn,Jn]
  show tL 6 5 (vl 6 5 (LG 0) 5 0) (vl 6 5 (LG 1) 5 0) (pF 6 5 (ga (LG 0) 5)) (pF 6 5 (ga (LG 1) 5)) 0 0 2=_
  rw[agS,aaX,abz,abj,ai3]
 have hfl:c.fh=⟨2000,2000,0,0⟩:=by
  rw[hf]
  unfold Q8
  rw[if_pos hfr,show t.ar.getD 0 0=0 by rw[ha];rfl,hmo]
  exact aex
 obtain⟨u1,u2,u3,u4⟩:=c
 have hg:=hc.gr
 dsimp only at hs hm hfl hg
 subst hs hm hfl hg
 rfl
theorem ahd (h:McP (En pi ci pd cd) y):y.l.map CP.c=[wkC]:=by
 have hn:=h.n
 rw[aba]at hn
 obtain⟨bm,XA,hb⟩:=h.bk
 have hcl:=h.cl
 match hq:y.l,hn with
 |[q],_=>
  have e:=ale hb (hcl 0 q (by rw[hq];rfl))
  show[q.c]=_
  rw[e]
theorem abY:jq (wkX pi ci pd cd pr cr) 3=[⟨HV 0,[17]⟩]:=by kernel_rfl
theorem ag2:rN ⟨⟨0,0,1000,6,5⟩,[⟨HV 0,[17]⟩],500,500,500⟩ 0 [wkC]= .tuple #[.int .i64 2,.int .i64 500,.int .i64 17,.int .i64 0]:=by kernel_rfl
end
theorem Z5:cj ae 5 (.int .u8 0):=by unfold cj;kernel_rfl
theorem B84:ed ae 84 [(0,1),(1,1),(2,1),(3,1),(4,1),(5,1),(6,1)] [.int .u8 0,.int .u8 0,.slice none 0 0,.int .u8 0,.int .u8 0,.slice none 0 0,.int .u16 0]:=ed.mk fun _=>by kernel_rfl
theorem I5:jW ae 5 1 1 (.int .u8 0):=⟨by kernel_rfl,by kernel_rfl,by unfold cj;kernel_rfl,rfl,by decide⟩
theorem B86:ed ae 86 [(0,7),(7,1)] [.int .u8 0,.int .u8 0,.slice none 0 0,.int .u8 0,.int .u8 0,.slice none 0 0,.int .u16 0,.slice none 0 0]:=ed.mk fun _=>by kernel_rfl
theorem Z86:cj ae 86 (.agg #[.int .u8 0,.int .u8 0,.slice none 0 0,.int .u8 0,.int .u8 0,.slice none 0 0,.int .u16 0,.slice none 0 0]):=by unfold cj;kernel_rfl
theorem N86:(ae.info? 86).map (·.size)=some 8:=by kernel_rfl
def wkE (p:Nat):Bool:=decide ((1:Int)≤((p%6:Nat):Int))&&decide (((p%6:Nat):Int)≤3)&&decide ((1:Int)≤((p / 6:Nat):Int))&&decide (((p / 6:Nat):Int)≤3)
def QU (i:Nat):List Bool:=(br 30).map fun p=>decide (p<i)&&wkE p
theorem GS {i:Nat}:(QU i).length=30:=by unfold QU;rw[aq,List.length_range]
theorem ajf:QU 30=NF:=by kernel_rfl
theorem ah8 {i:Nat} (h:i<30):(QU i).set i (wkE i)=QU (i+1):=by
 have hk:∀i k (h:k<(QU i).length),(QU i)[k]=(decide (k<i)&&wkE k):=fun i k h=>by simp [QU]
 refine List.ext_getElem (by rw[ja,GS,GS]) fun k h1 h2=>?_
 rw[List.getElem_set,hk (i+1) k h2]
 by_cases e:i=k
 ·subst e;rw[if_pos rfl];simp
 ·rw[if_neg e,hk i k (by rw[ja]at h1;exact h1)]
  have:decide (k<i)=decide (k<i+1):=decide_eq_decide.2 (by omega)
  rw[this]
theorem Te:NF.length=30:=by kernel_rfl
theorem abP:Je.length=30:=by kernel_rfl
theorem abJ {pi pd:Option Addr} {ci cd:Nat}:MvK (En pi ci pd cd) where
 wi:=show(5:Nat)≤255 by decide
 hi:=show(4:Nat)≤255 by decide
 xx:=show(3:Nat)≤255 by decide
 yy:=show(2:Nat)≤255 by decide
 sec:=show(400:Nat)≤65535 by decide
 db:=fun n hn=>by
  have hn2:n∈[1]:=hn
  rw[List.mem_singleton]at hn2
  subst hn2;decide
 il:=by show NF.length≤_;rw[Te];decide
 dl:=show[1].length≤_ by decide
theorem ai0 {pi pd pr:Option Addr} {ci cd cr:Nat}:IsK (wkX pi ci pd cd pr cr):=⟨abJ,fun n hn=>by
  have e:Je=cy 17 0++1::cy 12 0:=by kernel_rfl
  have hn2:n∈Je:=hn
  rw[e]at hn2
  simp at hn2
  omega,by show Je.length≤_;rw[abP];decide⟩
theorem Tq (pi:Option Addr) (pd pr:Option Addr) (w:World) (hx:Zw w (wkX pi 30 pd 1 pr 30)):
  Calls ae 18 #[.agg #[.int .u8 5,.int .u8 4,.slice pi 30 30,.int .u8 3,.int .u8 2,.slice pd 1 1,.int .u16 400,.slice pr 30 30]] w fun e w'=>∃y:List RG×Option Addr×Nat,y.1.map RG.r=[⟨HV 0,[17]⟩]∧e= .returned (.tuple #[Dw ⟨0,0,1000,6,5⟩ y.2.1 y.1.length y.2.2 500 500 500,.bool (decide ((0:Int)<(y.1.length:Int)))])∧St (bs w) [own 193 2 y.2.1 y.2.2 (y.1.map RG.cells),bS (y.1.map Dr)] w':=by
 have z:=JQ (wkX pi 30 pd 1 pr 30) w hx ai0
 rw[abY]at z
 have e1:NF.length=30:=Te
 have e2:Je.length=30:=abP
 have e3:(wkX pi 30 pd 1 pr 30).V= .agg #[.int .u8 5,.int .u8 4,.slice pi 30 30,.int .u8 3,.int .u8 2,.slice pd 1 1,.int .u16 400,.slice pr 30 30]:=by
  show Value.agg #[.int .u8 5,.int .u8 4,.slice pi NF.length 30,.int .u8 3,.int .u8 2,.slice pd 1 1,.int .u16 400,.slice pr Je.length 30]=_
  rw[e1,e2]
 rw[e3]at z
 exact z
theorem ad8 (pi:Option Addr) (pd:Option Addr) (w:World) (hx:YB w (En pi 30 pd 1)):
  Calls ae 20 #[.agg #[.int .u8 5,.int .u8 4,.slice pi 30 30,.int .u8 3,.int .u8 2,.slice pd 1 1,.int .u16 400]] w fun e w'=>∃y:McY,McP (En pi 30 pd 1) y∧e= .returned (.tuple #[.slice y.p y.l.length y.c,.bool true])∧St (bs w) [own 218 7 y.p y.c (y.l.map CP.cells),bS y.R] w':=by
 have z:=C8 (En pi 30 pd 1) w hx abJ
 have e3:(En pi 30 pd 1).V= .agg #[.int .u8 5,.int .u8 4,.slice pi 30 30,.int .u8 3,.int .u8 2,.slice pd 1 1,.int .u16 400]:=by
  show Value.agg #[.int .u8 5,.int .u8 4,.slice pi NF.length 30,.int .u8 3,.int .u8 2,.slice pd 1 1,.int .u16 400]=_
  rw[Te]
 rw[e3]at z
 exact z
theorem agJ {w:World} {pi pd pr:Option Addr} (h1:RO 1 bC w pi (QU 30)) (h2:RO 1 uC w pd [1]) (h3:RO 1 uC w pr Je):Zw w (wkX pi 30 pd 1 pr 30):=⟨⟨by rw[ajf]at h1;exact h1,h2⟩,h3⟩
theorem R6 (w:World):
 Calls ae 19 #[] w fun e w'=>e= .returned (.bool true)∧St (bs w) [] w':=by
 refine enter (vs:=[]) (env:=[]) Tryz.func19 rfl rfl rfl rfl ?_
 refine VC.q (VO.a rfl<|VO.n<|ak<|VC.VU [⟨0,11,fun b=>.slice (some ⟨b,0,none⟩) 30 30,4,(cy 30 [.bool false]).flatten.toArray⟩,⟨1,12,fun b=>.slice (some ⟨b,0,none⟩) 1 1,5,#[_]⟩,⟨3,14,fun b=>.slice (some ⟨b,0,none⟩) 30 30,5,(cy 30 [.int .u8 0]).flatten.toArray⟩,⟨5,1,fun b=>.pointer (some ⟨b,0,none⟩),86,#[.int .u8 0,.int .u8 0,.slice none 0 0,.int .u8 0,.int .u8 0,.slice none 0 0,.int .u16 0,.slice none 0 0]⟩] [[],[],[],[],[],[],[],[]] [none,none,none,none,none,none,none] mixed (by kernel_rfl) rfl (LX.s<|LX.s<|LX.s<|LX.s<|LX.s<|LX.s<|LX.s<|LX.nil) (⟨⟨rfl,_,rfl,FO.mks (n:=30) S82 I4 (.r rfl) (.r rfl) rfl (by decide) (by decide) (by decide)⟩,⟨⟨rfl,_,rfl,FO.bs (ps:=[(_,_)]) (vs:=[(_,_)]) (Z:=[_]) (C:=[_]) S31 Z5 N5 ⟨(.r rfl),trivial⟩ rfl rfl rfl rfl ⟨_,[_],[_],rfl,rfl,rfl,rfl,rfl⟩⟩,⟨⟨rfl,_,rfl,FO.mks (n:=30) S31 I5 (.r rfl) (.r rfl) rfl (by decide) (by decide) (by decide)⟩,⟨⟨rfl,_,rfl,FO.alloc Z86 rfl⟩,trivial⟩⟩⟩⟩) (HY.f rfl fun b6=>⟨gM (L1:=[]) [] rfl rfl rfl,HY.f rfl fun b7=>⟨gM (L1:=[]) [] rfl rfl rfl,HY.h rfl rfl fun X=>aO (LO.bd (ps:=[(_,_),(_,_),(_,_),(_,_),(_,_),(_,_),(_,_)]) (vs:=[(_,_),(_,_),(_,_),(_,_),(_,_),(_,_),(_,_)]) (C:=[_,_,_,_,_,_,_]) B84 ⟨(.r rfl),(.r rfl),(.r rfl),(.r rfl),(.r rfl),(.r rfl),(.r rfl),trivial⟩ rfl ⟨_,[_],[_,_,_,_,_,_,_],rfl,rfl,rfl,rfl,⟨_,[_],[_,_,_,_,_,_,_],rfl,rfl,rfl,rfl,⟨_,[_],[_,_,_,_,_,_,_],rfl,rfl,rfl,rfl,⟨_,[_],[_,_,_,_,_,_,_],rfl,rfl,rfl,rfl,⟨_,[_],[_,_,_,_,_,_,_],rfl,rfl,rfl,rfl,⟨_,[_],[_,_,_,_,_,_,_],rfl,rfl,rfl,rfl,⟨_,[_],[_,_,_,_,_,_,_],rfl,rfl,rfl,rfl,rfl⟩⟩⟩⟩⟩⟩⟩)<|⟨[_,_],rfl,gM (L1:=[]) [] rfl rfl rfl,HY.f rfl fun b8=>⟨gM (L1:=[]) [] rfl rfl rfl,HY.h rfl rfl fun X=>aO (LO.bd (ps:=[(_,_),(_,_)]) (vs:=[(_,_),(_,_)]) (C:=[_,_,_,_,_,_,_,_]) B86 ⟨(.r rfl),(.r rfl),trivial⟩ rfl ⟨_,[_,_,_,_,_,_,_],[_,_,_,_,_,_,_,_],rfl,rfl,rfl,rfl,⟨_,[_],[_,_,_,_,_,_,_,_],rfl,rfl,rfl,rfl,rfl⟩⟩)<|⟨[_,_,_],rfl,gM (L1:=[]) [] rfl rfl rfl,HY.f rfl fun b9=>⟨gM (L1:=[]) [] rfl rfl rfl,HY.h0 rfl fun X=>HO.st 0 (vs:=[_,_,_,_,_,_,_,_]) (C':=[_,_,_,_,_,_,_,_]) (L':=[_,_,_,_]++X) N86 rfl rfl rfl rfl rfl rfl rfl rfl<|⟨[_,_,_,_],rfl,gM (L1:=[]) [] rfl rfl rfl,HY.nil ?_⟩⟩⟩⟩⟩⟩⟩))
 refine VE.aeW (L':=[_,_,_,own 4 1 (some ⟨b6,0,none⟩) 30 ((QU 0).map bC)]) (fun w hw=>St.Pj hw 3 (rows:=(QU 0).map bC) rfl (by kernel_rfl) (fun r hr=>by obtain⟨x,_,e⟩:=List.mem_map.1 hr;rw[←e];rfl))<|VE.aeW (L':=[_,own 5 1 (some ⟨b8,0,none⟩) 30 ((cy 30 (0:Nat)).map uC),_,_]) (fun w hw=>St.Pj hw 1 (rows:=(cy 30 (0:Nat)).map uC) rfl (by kernel_rfl) (fun r hr=>by obtain⟨x,_,e⟩:=List.mem_map.1 hr;rw[←e];rfl))<|ag<|ak<|VC.q (VO.a rfl<|VO.n ?_)
 refine VC.block<|VC.perm [3,0,1,2] rfl<|VC.eP (α:=Nat×(List Bool)) 1 (fun gx=>[(2,.int .i64 (gx.1:Nat))]) [(1,_)] (fun gx=>[own 4 1 (some ⟨b6,0,none⟩) 30 (gx.2.map bC)]) (fun gx=>gx.1≤30∧gx.2=QU gx.1) (fun gx=>30-gx.1) (0,QU 0) (by exact⟨Nat.zero_le _,rfl⟩) (.cons rfl (.cons rfl .nil)) (fun _ h=>h) ?_
 rintro ⟨i,out⟩ ⟨hi,hO⟩
 show VC _ _ _ _ _ ([(2,.int .i64 (i:Nat))]++_) ([own 4 1 (some ⟨b6,0,none⟩) 30 (out.map bC)]++_) _ _
 dsimp only at hi hO
 have hol:out.length=30:=by rw[hO,GS]
 refine ak<|VC.q (VO.m rfl<|VO.t rfl<|VO.n<|VC.cond rfl (fun h17=>?_) (fun h17=>?_))
 ·
  refine VC.skip (ag<|ak<|VC.block<|VC.dU (VO.f (r:=0) uj rfl<|VO.f (r:=2) VR rfl<|VO.c 1 O82 rfl rfl ⟨_,rfl⟩ rfl<|VO.m rfl<|VO.m rfl<|ah (LO.eqv (LO.rem (.r rfl) (.r rfl) (by omega)) (congrArg (bX .i64) (show Int.tmod ((i:Nat):Int) 6=((i%6:Nat):Int) from rfl))) rfl<|ah (LO.ge (.r rfl) (.r rfl)) rfl<|VO.m rfl<|VO.gt rfl (fun hg=>bJ (.r rfl))<|VO.gt rfl (fun hg=>LO.eqv (LO.rem (.g hg rfl) (.r rfl) (by omega)) (congrArg (bX .i64) (show Int.tmod ((i:Nat):Int) 6=((i%6:Nat):Int) from rfl)))<|VO.gt rfl (fun hg=>LO.le (.g hg rfl) (.r rfl))<|ah (dJ (.r rfl) rfl rfl (.r rfl)) rfl<|VO.m rfl<|VO.gt rfl (fun hg=>bJ (.r rfl))<|VO.gt rfl (fun hg=>LO.eqv (LO.quo (.g hg rfl) (.r rfl) (by omega) (wi (by rw[show vQ ((i:Nat):Int) 6=((i / 6:Nat):Int) from rfl];omega) (by rw[show vQ ((i:Nat):Int) 6=((i / 6:Nat):Int) from rfl];omega))) (congrArg (bX .i64) (show vQ ((i:Nat):Int) 6=((i / 6:Nat):Int) from rfl)))<|VO.gt rfl (fun hg=>LO.ge (.g hg rfl) (.r rfl))<|ah (dJ (.r rfl) rfl rfl (.r rfl)) rfl<|VO.m rfl<|VO.gt rfl (fun hg=>bJ (.r rfl))<|VO.gt rfl (fun hg=>LO.eqv (LO.quo (.g hg rfl) (.r rfl) (by omega) (wi (by rw[show vQ ((i:Nat):Int) 6=((i / 6:Nat):Int) from rfl];omega) (by rw[show vQ ((i:Nat):Int) 6=((i / 6:Nat):Int) from rfl];omega))) (congrArg (bX .i64) (show vQ ((i:Nat):Int) 6=((i / 6:Nat):Int) from rfl)))<|VO.gt rfl (fun hg=>LO.le (.g hg rfl) (.r rfl))<|ah (dJ (.r rfl) rfl rfl (.r rfl)) rfl<|ah (LO.wy S82 N4 (fun _ hw=>(dE hw 0 rfl).some (by rw[aq];omega)) (.r rfl) (.r rfl) rfl (by omega)) rfl<|VO.h0<|HO.stm 0 (fun R=>[R,_,_,_]) ((wkE i)) (vs:=[_]) N4 (.r rfl) (.r rfl) rfl (by omega) rfl rfl rfl rfl rfl (fun _=>rfl)<|VO.nil<|VE.gL (ag<|VC.dU (VO.m rfl<|VO.p rfl rfl (by omega) (by omega) rfl<|VO.a rfl<|VO.nil<|VE.cX fun a w ha hw=>⟨(i+1,out.set i (wkE i)),⟨by dsimp only;omega,by dsimp only;rw[hO,ah8 (by omega)]⟩,(by dsimp only;omega),ha.sub (.cons rfl (.cons rfl .nil)),hw⟩))))
 ·
  have hi30:i=30:=by omega
  subst hi30
  subst hO
  refine VC.exit (VE.cb (VE.cb (VE.l8 (ag<|VC.q (VO.f (r:=7) UF rfl<|VO.c 1 O31 rfl rfl ⟨_,rfl⟩ rfl<|ah (LO.wy S31 N5 (fun _ hw=>(dE hw 2 rfl).some (by rw[aq,List.length_replicate])) (.r rfl) (.r rfl) (j:=17) rfl (by simp)) rfl<|VO.h0<|HO.stm 2 (fun R=>[_,_,R,_]) (1) (vs:=[_]) N5 (.r rfl) (.r rfl) rfl (by decide) rfl rfl rfl rfl rfl (fun _=>rfl)<|VO.n<|VC.q (ah (LO.fg (vs:=[_,_,_,_,_,_,_,_]) A86 (.r rfl) (ax 1 rfl ⟨_,rfl⟩) rfl) rfl<|aD rfl<|HO.fP (xs:=[_]) (vs:=[_]) C18 ⟨(.r rfl),trivial⟩ (fun w hw=>Tq _ _ _ w (agJ (RO.kg hw 0 rfl) (show RO 1 uC w _ [1]from RO.wT (fun _=>rfl) (aX hw 3 rfl ⟨[],rfl⟩)) (RO.kg hw 2 rfl))) fun ys hys=>aD rfl<|aO (bJ (.r rfl))<|aD rfl<|aO (bN (.r rfl) rfl)<|aD rfl<|aO (bN (.r rfl) rfl)<|aD rfl<|HO.alloc (C:=#[_,_,_,_,_,_,_,_,_]) Z93 rfl fun b13=>VO.h0<|HO.st 0 (vs:=[_,_,_,_,_,_,_,_,_]) (C':=[_,_,_,_,_,_,_,_,_]) (L':=[_,_,_,_,_,_,_]) N93 rfl rfl rfl rfl rfl rfl rfl rfl<|aD rfl<|aO (LO.as (.r rfl))<|VO.nil ?_))))))
  have hrl1:ys.1.length=1:=by have z:=congrArg List.length hys;rw[aq]at z;exact z
  refine ag<|VC.q (VO.f (r:=0) uj rfl<|ah (LO.fg (vs:=[_,_,_,_,_,_,_]) F5 (.r rfl) (ax 4 rfl ⟨_,rfl⟩) rfl) rfl<|aD rfl<|HO.fP (xs:=[_]) (vs:=[_]) C20 ⟨(.r rfl),trivial⟩ (fun w hw=>ad8 _ _ w (agJ (RO.kg hw 3 rfl) (show RO 1 uC w _ [1]from RO.wT (fun _=>rfl) (aX hw 6 rfl ⟨[],rfl⟩)) (RO.kg hw 5 rfl)).m) fun yc hyc=>aD rfl<|aO (bJ (.r rfl))<|aD rfl<|aO (bN (.r rfl) rfl)<|aD rfl<|aO (bN (.r rfl) rfl)<|aD rfl<|aO (LO.as (.r rfl))<|aD rfl<|aO (LO.as (.r rfl))<|VO.nil ?_)
  have hcl1:yc.l.length=1:=by have z:=congrArg List.length (ahd hyc);rw[aq]at z;exact z
  refine ag<|ak<|VC.q (VO.m rfl<|ah (LO.not (.r rfl)) rfl<|VO.m rfl<|VO.gf rfl (fun hg=>bJ (.r rfl))<|VO.gf rfl (fun hg=>LO.not (.g hg rfl))<|ah (LO.qh (.r rfl) (.r rfl) rfl rfl) rfl<|VO.m rfl<|VO.gf rfl (fun hg=>bJ (.r rfl))<|VO.gf rfl (fun hg=>LO.len MO (.g hg rfl) rfl)<|VO.gf rfl (fun hg=>LO.ne (.g hg rfl) (.r rfl))<|ah (LO.qh (.r rfl) (.r rfl) rfl rfl) rfl<|VO.n<|VC.cond rfl (fun h67=>?_) (fun h67=>?_))
  · (exfalso;simp [hrl1,hcl1]at h67)
  ·
   refine VC.skip (ag<|VC.q (ah (LO.fg (vs:=[_,_,_,_,_,_,_,_,_]) Xe (.r rfl) (ax 2 rfl ⟨_,rfl⟩) rfl) rfl<|VO.m rfl<|ah (LO.call (xs:=[_,_,_]) (vs:=[_,_,_]) C29 ⟨(.r rfl),(.r rfl),(.r rfl),trivial⟩ (fun w hw=>by have z:=Ji ⟨0,0,1000,6,5⟩ ys.1 ys.2.1 ys.2.2 500 500 500 0 yc.l yc.p yc.c w (by omega) (C7 (x:=wkX none 0 none 0 none 0) (by rw[abY];exact hys) (hw.inv 3 _ rfl) (hw.inv 4 _ rfl)) (by omega) (CE hyc (hw.inv 0 _ rfl) (hw.inv 1 _ rfl));rw[hys,ahd hyc,ag2]at z;exact z)) rfl<|VO.m rfl<|ah (bN (.r rfl) rfl) rfl<|ah (bN (.r rfl) rfl) rfl<|ah (bN (.r rfl) rfl) rfl<|ah (bN (.r rfl) rfl) rfl<|VO.a rfl<|VO.a rfl<|VO.a rfl<|VO.a rfl<|VO.n<|VC.q (VO.m rfl<|ah (LO.eq (.r rfl) (.r rfl)) rfl<|VO.m rfl<|VO.gt rfl (fun hg=>bJ (.r rfl))<|VO.gt rfl (fun hg=>LO.eq (.g hg rfl) (.r rfl))<|ah (dJ (.r rfl) rfl rfl (.r rfl)) rfl<|VO.m rfl<|VO.gt rfl (fun hg=>bJ (.r rfl))<|VO.gt rfl (fun hg=>LO.eq (.g hg rfl) (.r rfl))<|ah (dJ (.r rfl) rfl rfl (.r rfl)) rfl<|VO.m rfl<|VO.gt rfl (fun hg=>bJ (.r rfl))<|VO.gt rfl (fun hg=>LO.eq (.g hg rfl) (.r rfl))<|ah (dJ (.r rfl) rfl rfl (.r rfl)) rfl<|VO.a rfl<|VO.n ?_)))
   refine VC.ret (VE.s rfl rfl (fun w hw=>?_))
   exact⟨rfl,hw.nil⟩
theorem K4:ae.cellsOf 4=1:=by kernel_rfl
theorem K5:ae.cellsOf 5=1:=by kernel_rfl
section
variable {H:Type} {enc:TypeId×Value→H} {W:World}
theorem aia {n:Int} (h:kb .u8 n):0≤n∧n≤255:=by simpa [kb,IntKind.min,IntKind.max,Eb,K2]using h
theorem ae6 {n:Int} (h:kb .u16 n):0≤n∧n≤65535:=by simpa [kb,IntKind.min,IntKind.max,Eb,K2]using h
theorem rd4:RD enc ae W 4 fun cs=>∃b:Bool,cs=bC b∧True:=fun n cs x hx=>by
 obtain⟨b,rfl⟩:=RD.bool Tryz.underlying4 n cs x hx
 exact⟨b,rfl,trivial⟩
theorem rd5:RD enc ae W 5 fun cs=>∃n:Nat,cs=uC n∧n≤255:=fun n cs x hx=>by
 obtain⟨m,rfl,hm⟩:=RD.int Tryz.underlying5 n cs x hx
 have:=aia hm
 refine⟨m.toNat,?_,by omega⟩
 show _=[bX .u8 ((m.toNat:Nat):Int)]
 rw[iv this.1]
theorem amt:RD enc ae W 28 fun cs=>∃n:Nat,cs=[.int .u16 ((n:Nat):Int)]∧n≤65535:=fun n cs x hx=>by
 obtain⟨m,rfl,hm⟩:=RD.int Tryz.underlying28 n cs x hx
 have:=ae6 hm
 refine⟨m.toNat,?_,by omega⟩
 rw[iv this.1]
theorem ah6:RD enc ae W 31 fun cs=>∃(p:Option Addr) (cap:Nat) (l:List Nat),cs=[.slice p l.length cap]∧RO 1 uC W p l∧(∀n,n∈l→n≤255)∧l.length≤9223372036854775807:=fun n cs x hx=>by
 obtain⟨p,cap,rows,rfl,h1,h2,h3⟩:=RD.slice Tryz.underlying31 K5 (by decide) rd5 _ _ _ hx
 obtain⟨l,rfl,h5⟩:=C4 (f:=uC) (Q:=fun n=>n≤255) (fun r hr=>(h3 r hr).2)
 exact⟨p,cap,l,by simp,h2,h5,by simpa using h1⟩
theorem al4:RD enc ae W 82 fun cs=>∃(p:Option Addr) (cap:Nat) (l:List Bool),cs=[.slice p l.length cap]∧RO 1 bC W p l∧l.length≤9223372036854775807:=fun n cs x hx=>by
 obtain⟨p,cap,rows,rfl,h1,h2,h3⟩:=RD.slice Tryz.underlying82 K4 (by decide) rd4 _ _ _ hx
 obtain⟨l,rfl,h5⟩:=C4 (f:=bC) (Q:=fun _=>True) (fun r hr=>(h3 r hr).2)
 exact⟨p,cap,l,by simp,h2,by simpa using h1⟩
theorem am7:RD enc ae W 84 fun cs=>∃x:mj,cs=[.int .u8 (x.wi:Int),.int .u8 (x.hi:Int),.slice x.pi x.ins.length x.ci,.int .u8 (x.x:Int),.int .u8 (x.y:Int),.slice x.pd x.db.length x.cd,.int .u16 (x.sec:Int)]∧YB W x∧MvK x:=fun n cs x hx=>by
 obtain⟨css,rfl,hlen,_,hp⟩:=CR Tryz.underlying84 (zs:=[1,1,1,1,1,1,1]) (by kernel_rfl) rfl (by kernel_rfl) hx
 match css,hlen with
 |[c0,c1,c2,c3,c4,c5,c6],_=>
  obtain⟨_,_,h0⟩:=hp 0 _ c0 rfl rfl
  obtain⟨_,_,h1⟩:=hp 1 _ c1 rfl rfl
  obtain⟨_,_,h2⟩:=hp 2 _ c2 rfl rfl
  obtain⟨_,_,h3⟩:=hp 3 _ c3 rfl rfl
  obtain⟨_,_,h4⟩:=hp 4 _ c4 rfl rfl
  obtain⟨_,_,h5⟩:=hp 5 _ c5 rfl rfl
  obtain⟨_,_,h6⟩:=hp 6 _ c6 rfl rfl
  obtain⟨wi,rfl,hwi⟩:=rd5 _ _ _ h0
  obtain⟨hi,rfl,hhi⟩:=rd5 _ _ _ h1
  obtain⟨pi,ci,ins,rfl,hin,hil⟩:=al4 _ _ _ h2
  obtain⟨x,rfl,hxx⟩:=rd5 _ _ _ h3
  obtain⟨y,rfl,hyy⟩:=rd5 _ _ _ h4
  obtain⟨pd,cd,db,rfl,hdb,hd8,hdl⟩:=ah6 _ _ _ h5
  obtain⟨sec,rfl,hsec⟩:=amt _ _ _ h6
  exact⟨⟨wi,hi,pi,ci,ins,x,y,pd,cd,db,sec⟩,rfl,⟨hin,hdb⟩,⟨hwi,hhi,hxx,hyy,hsec,hd8,hil,hdl⟩⟩
theorem ami:RD enc ae W 86 fun cs=>∃x:El,cs=[.int .u8 (x.m.wi:Int),.int .u8 (x.m.hi:Int),.slice x.m.pi x.m.ins.length x.m.ci,.int .u8 (x.m.x:Int),.int .u8 (x.m.y:Int),.slice x.m.pd x.m.db.length x.m.cd,.int .u16 (x.m.sec:Int),.slice x.pr x.rg.length x.cr]∧Zw W x∧IsK x:=fun n cs x hx=>by
 obtain⟨css,rfl,hlen,_,hp⟩:=CR Tryz.underlying86 (zs:=[7,1]) (by kernel_rfl) rfl (by kernel_rfl) hx
 match css,hlen with
 |[c0,c1],_=>
  obtain⟨_,_,h0⟩:=hp 0 _ c0 rfl rfl
  obtain⟨_,_,h1⟩:=hp 1 _ c1 rfl rfl
  obtain⟨m,rfl,hm,hk⟩:=am7 _ _ _ h0
  obtain⟨pr,cr,rg,rfl,hr,hr8,hrl⟩:=ah6 _ _ _ h1
  exact⟨⟨m,pr,cr,rg⟩,rfl,⟨hm,hr⟩,⟨hk,hr8,hrl⟩⟩
end
end Go.Proofs.YtffbohecdocajaaGreat
