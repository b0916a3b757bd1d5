/-
  DERIVED: THE SHELF's CONTRACTS AT THIS DUMP, IN PLAIN WORDS (tools/lay-plain.mjs out of 'TryzShelfC.lean', which tools/lay-shelf.mjs wrote): THE SAME DECLARATIONS UNDER THE SAME NAMES: 'import', 'namespace', 'open', 'def', 'theorem' AND NOTHING ELSE: no command of the shelf's: FOR A HAND-IN. Each laying: the table of numbers ('.._ren') and one theorem, a field a fact of the dump's own or the kernel's comparison; each contract: ONE APPLICATION.
  (and more)
-/
import Derived.Test.YtffbohecdocajaaGreatKV13
import Derived.Shelf.SlIterI.Nil
import Derived.Shelf.Spec.SlicesGrow
import Derived.Test.YtffbohecdocajaaGreatProg
open Go.Shelf renaming Ren→ua
open Go.Proofs.Tryz renaming prog→ae,underlying0→nK,isAgg0→ub,sizeOf0→sa,zeroValue0→oF,underlying4→gS,zeroValue4→oG,underlying3→cM,isAgg3→pj,sizeOf3→oj,zeroValue3→lN,underlying366→zH,zeroValue366→AV,underlying112→jb,zeroValue112→nh,underlying210→jc,underlying5→gj
open Go.Fence renaming wide→kU
open Go.Maps renaming size→zJ
open Array renaming getElem?_eq_some_iff→eo
open Go.RowKit renaming Below→SK
open List renaming mem_map→bQ,pairwise_map→gl,map_map→dG,map_congr_left→fU,length_map→aq,mem_of_getElem?→al,getD_eq_getElem?_getD→av,getElem?_eq_getElem→af,flatten_cons→gC,append_nil→c9,length_append→aZ,pairwise_cons→fL,mem_cons→cA,mem_cons_of_mem→gd,mem_map_of_mem→bE,mem_cons_self→gI,mem_flatten→nI,getElem?_map→aw,pairwise_iff_getElem→be,mem_iff_getElem→cC,getElem?_eq_some_iff→aj,mem_singleton→bT,length→fT,length_filter_le→cH,length_range→kF,mem_append→bZ,mem_append_right→eX,range→br,getElem?_range→eu
open Go.WideElems renaming rd→afM,rg→afN
open Go.RowKit.Below renaming refl→W7
open Nat renaming le_refl→bA,zero_le→bG,zero_lt_one→uy
open Option renaming map_eq_some_iff→j8,getD_some→dk
open Go.Builtin renaming zeroCells→dV
open Go.Value renaming int→bX,slice→mn,bool→iS
open Go.SL.VC renaming seq→ak,block→aG,eP→bY,cond→ay,skip→aC,dU→aF,exit→ca,ret→aP,draw→eH
open Go.SL.VO renaming l→ah,nil→aI,h→aD,h0→bU,gT→sB,lg→nv
open Go.SL.LO renaming len→bW,lA→cw,ld→aB,fa→aE,fg→aM,bd→dC,call→bD,gt→iX,eq→fN,mv→bJ,ex→bN,qh→dO,ne→tO
open Go.SL.VE renaming aN→ag,gL→bB,cX→bn,cb→aL,l8→cD,res→dh,mW→gn
open Go.SL.HO renaming fP→cz,lo→aO,box→cf,alloc→bI,st→bl
open Go.Ending renaming returned→cW
open Classical renaming not_not→cL
open Go.SL.LX renaming l→aA,s→cn,nil→dw
open Go.SL.RV renaming agg→iA
open Go.Proofs.YtffbohecdocajaaGreat.Mv renaming x→oS,y→oT,cells→kD
open Int renaming ofNat→jB,le_refl→dx,le_ediv_iff_mul_le→oL,natCast_nonneg→dD,natCast_mul→dB
open Go.Proofs.YtffbohecdocajaaGreat.RO renaming tu→gB
open Go.SL.LL renaming l→aV,nil→ft
open Go.SL.HX renaming s→au
open Go.SL.St renaming bS→fH,lZ→iB,fz→l4
open List.Pairwise renaming nil→wj
open Go.SL.eB renaming l→fZ
open Go.Proofs.YtffbohecdocajaaGreat.CP renaming cells→nk,c→iJ
open Go.Proofs.YtffbohecdocajaaGreat.LO renaming eqv→dy
open Option.some renaming inj→gV
open Go.SL.HE renaming mk→cB,fin→ie
open Go.SL.iK renaming op→cE,zO→ic
open List.Sublist renaming refl→y6
open Go.SL.GD renaming nt→mz

set_option linter.unusedSimpArgs false
set_option maxRecDepth 20000
set_option maxHeartbeats 8000000
namespace Go.Proofs
open Go.Shelf
def Tryz.F2:ua:=⟨fun|7=>151|10=>208|n=>n,fun|23=>260|26=>3|3=>4|28=>366|0=>0|27=>365|33=>179|4=>4|n=>n,fun|n=>n⟩
theorem Tryz.abL:Go.Proofs.SlLaysZI.n7 ae Tryz.F2:={
 mixed:=by kernel_rfl
 f7:=⟨Tryz.f151.name,by decide,Tryz.func151.trans (congrArg some (by kernel_rfl))⟩
 f10:=⟨Tryz.f208.name,by decide,Tryz.func208.trans (congrArg some (by kernel_rfl))⟩
 t0:=nK
 a0:=ub
 z0:=sa
 v0:=oF
 t4:=gS
 a4:=Tryz.isAgg4
 z4:=Tryz.sizeOf4
 v4:=oG
 t23:=Tryz.underlying260
 a23:=Tryz.isAgg260
 z23:=Tryz.sizeOf260
 v23:=Tryz.zeroValue260
 t26:=cM
 a26:=pj
 z26:=oj
 v26:=lN
 t27:=Tryz.underlying365
 a27:=Tryz.isAgg365
 z27:=Tryz.sizeOf365
 v27:=Tryz.zeroValue365
 t28:=zH
 a28:=Tryz.isAgg366
 z28:=Tryz.sizeOf366
 v28:=AV
 t33:=Tryz.underlying179
 a33:=Tryz.isAgg179
 z33:=Tryz.sizeOf179
 v33:=Tryz.zeroValue179 }
def Tryz.Bi:ua:=⟨fun|6=>150|8=>207|9=>205|11=>253|13=>196|12=>252|23=>250|24=>251|14=>283|15=>284|16=>285|17=>286|18=>287|19=>288|20=>254|21=>289|22=>290|25=>301|26=>279|27=>280|28=>302|29=>303|30=>172|31=>308|n=>n,fun|26=>3|28=>366|24=>112|0=>0|3=>3|37=>396|48=>32|50=>503|4=>4|40=>496|39=>495|45=>279|5=>5|9=>9|51=>526|55=>530|57=>548|58=>457|33=>179|n=>n,fun|n=>n⟩
theorem Tryz.YW:Go.Proofs.SlLaysZI.n6 ae Tryz.Bi:={
 mixed:=by kernel_rfl
 f6:=⟨Tryz.f150.name,by decide,Tryz.func150.trans (congrArg some (by kernel_rfl))⟩
 f8:=⟨Tryz.f207.name,by decide,Tryz.func207.trans (congrArg some (by kernel_rfl))⟩
 f11:=⟨Tryz.f253.name,by decide,Tryz.func253.trans (congrArg some (by kernel_rfl))⟩
 t0:=nK
 a0:=ub
 z0:=sa
 v0:=oF
 t24:=jb
 a24:=Tryz.isAgg112
 z24:=Tryz.sizeOf112
 v24:=nh
 t26:=cM
 a26:=pj
 z26:=oj
 v26:=lN
 t28:=zH
 a28:=Tryz.isAgg366
 z28:=Tryz.sizeOf366
 v28:=AV
 i26:=by kernel_rfl }
def Tryz.RT:ua:=⟨fun|4=>209|n=>n,fun|22=>112|25=>3|3=>3|4=>4|9=>9|20=>20|0=>0|n=>n,fun|n=>n⟩
theorem Tryz.abu:Go.Proofs.Lays8.n4 ae Tryz.RT:={
 mixed:=by kernel_rfl
 f4:=⟨Tryz.f209.name,by decide,Tryz.func209.trans (congrArg some (by kernel_rfl))⟩
 t0:=nK
 a0:=ub
 z0:=sa
 v0:=oF
 t3:=cM
 a3:=pj
 z3:=oj
 v3:=lN
 t4:=gS
 a4:=Tryz.isAgg4
 z4:=Tryz.sizeOf4
 v4:=oG
 t9:=Tryz.underlying9
 a9:=Tryz.isAgg9
 z9:=Tryz.sizeOf9
 v9:=Tryz.zeroValue9
 t20:=Tryz.underlying20
 a20:=Tryz.isAgg20
 z20:=Tryz.sizeOf20
 v20:=Tryz.zeroValue20
 t22:=jb
 a22:=Tryz.isAgg112
 z22:=Tryz.sizeOf112
 v22:=nh }
end Go.Proofs
set_option linter.unusedVariables false
set_option linter.unusedSimpArgs false
namespace Go.Proofs
open Go.RowKit Go.Maps Go.Sort Go.Shelf
theorem Tryz.adP (m:Nat):AnyZI.SortsIn ae Tryz.Bi kU m:=
  ⟨fun de off cap ss W hH hblk hsz=>callsIn_wide.2 (Tryz.slices_Sort_int de off cap ss W hH hblk hsz),
   fun p cap W=>callsIn_wide.2 (Tryz.slices_Sort_int_none p cap W)⟩
theorem Tryz.RH (mb:Option Nat) (W:World):Calls ae 151 #[.map mb] W fun e w'=>e= .returned (.func (.func 208) #[] #[.pointer (some ⟨W.heap.size,0,none⟩)])∧w'=W.alloc (.cells #[.map mb] 260):=
 (callsIn_wide (n:=5)).1 (AnyZI.keys_in Tryz.abL kU 5 trivial rfl mb W)
theorem Tryz.Ii {H:Type} (k b nn:Nat) (D0:DataW H) (R:Value→Option (DataW H×List MemPlace)) (w:World) (hk:w.heap[k]? =some (.cells #[.map (some b)] 260 (0,0))) (hown:w.ownsMap ae 3 R b nn D0) (hmax:zJ D0≤maxLen) (hbytes:zJ D0*8≤140737488355328):
  Calls ae 150 #[.func (.func 208) #[] #[.pointer (some ⟨k,0,none⟩)]] w fun e w'=>∃(v:Value) (ss:List Int),e= .returned v∧ss.Perm (intKeys D0)∧
   w'.ownsRow w.heap.size 3 1 v ss.length ((ss.mergeSort (fun x y=>decide (x≤y))).map encZ)∧(v= .slice none 0 0↔ss=[])∧Below w.heap.size w w':=by
 refine(callsIn_wide (n:=6)).1 ?_
 have hkl:k<w.heap.size:=(eo.1 hk).1
 have hseq:SeqGives kU 3 ae 208 #[.pointer (some ⟨k,0,none⟩)] encZ (fun ss=>ss.Perm (intKeys D0)) (zJ D0) w:=
  AnyZI.keys_gives (ρ:=Tryz.F2) { Tryz.abL with } kU _ trivial rfl (by omega) k b nn D0 _ hkl (by simp [World.cell?,hk]) hown
 have cS:=AnyZI.sorted_in Tryz.YW kU 6 trivial trivial trivial trivial rfl (by omega) (Tryz.adP _) (enters_of Tryz.func205 (by kernel_rfl) rfl) 208 #[.pointer (some ⟨k,0,none⟩)] trivial (enters_of Tryz.func208 (by kernel_rfl) rfl) _ _ hmax hbytes _ hseq
 exact cS
end Go.Proofs
namespace Go.Proofs.YtffbohecdocajaaGreat
open Go.SL Go.Proofs Go.qO Go.Sort Go.Maps
theorem tw {w w':World} {E z:Nat} {v:Value} {n:Nat} {l:List (List Value)} (hz:∀r∈l,r.length=z) (hl:l.length=n) (h:w'.ownsRow w.heap.size E z v n l.flatten) (hb:SK w.heap.size w w'):
  ∃(p:Option Addr) (c:Nat),v= .slice p n c∧St (bs w) [own E z p c l] w':=by
 obtain⟨h1,h2⟩:=h
 have hpre:∀k,k<w.heap.size→w'.heap[k]? =w.heap[k]? :=hb.block
 rcases h2 with⟨e,e0⟩|⟨g,cap,cur,e,hg,hc,hn,hm,hs,ht⟩
 ·have el:l=[]:=List.length_eq_zero_iff.1 (by omega)
  subst el;subst e0
  refine⟨none,0,e,hb.os,hb.tape,hb.output,hb.size,fun k hk _=>hpre k hk,?_,?_,?_⟩
  ·intro i r hr
   cases i with
   |zero=>cases hr;exact⟨by simp,by simp,fun _=>⟨rfl,rfl⟩,fun a q=>(by cases q)⟩
   |succ i=>simp at hr
  ·intro i r hr k hk
   cases i with
   |zero=>cases hr;exact absurd rfl hk.1
   |succ i=>simp at hr
  ·intro i j r s hij hr hs
   cases i with
   |zero=>cases j with|zero=>exact absurd rfl hij|succ j=>simp at hs
   |succ i=>simp at hr
 ·refine⟨some ⟨g,0,none⟩,cap,e,hb.os,hb.tape,hb.output,hb.size,fun k hk _=>hpre k hk,?_,?_,?_⟩
  ·intro i r hr
   cases i with
   |zero=>
    cases hr
    refine⟨by omega,hz,fun q=>(by cases q),fun a q=>?_⟩
    cases q
    refine⟨rfl,rfl,cur,cur.toList.drop (n*z),hc,?_,hs⟩
    rw[←ht,List.take_append_drop]
   |succ i=>simp at hr
  ·intro i r hr k hk
   cases i with
   |zero=>
    cases hr
    have e:k=g:=hk.2
    subst e
    exact⟨.inr hg,(eo.1 hc).1⟩
   |succ i=>simp at hr
  ·intro i j r s hij hr hs
   cases i with
   |zero=>cases j with|zero=>exact absurd rfl hij|succ j=>simp at hs
   |succ i=>simp at hr
theorem It (l:List Int):(l.map lT).flatten=l.map encZ:=wh l
theorem H9 (l:List Int):∀r∈l.map lT,r.length=1:=fun r hr=>by obtain⟨x,_,rfl⟩:=bQ.1 hr;rfl
theorem adT (mb:Option Nat) (w:World):Calls ae 151 #[.map mb] w fun e w'=>∃k:Nat,True∧e= .returned (.func (.func 208) #[] #[.pointer (some ⟨k,0,none⟩)])∧St (bs w) [de k (.cells #[.map mb] 260)] w':=
 (Tryz.RH mb w).mono fun e w' ⟨h1,h2⟩=>⟨w.heap.size,trivial,h1,by subst h2;exact(St.refl w).alloc _⟩
def qF (S:Int→Bool) (l:List Int):Prop:=l.Pairwise (· < ·)∧∀n,n∈l↔S n=true
def EJ (e:MapEntry):Int:=match e.key with| .int _ n=>n|_=>0
theorem TY {S:Int→Bool} {l:List Int} (hn:l.Nodup) (hm:∀n,n∈l↔S n=true):qF S (l.mergeSort fun x y=>decide (x≤y)):=by
 have tr:∀a b c:Int,decide (a≤b)=true→decide (b≤c)=true→decide (a≤c)=true:=fun a b c h1 h2=>by simp only[decide_eq_true_eq]at*;omega
 have to:∀a b:Int,(decide (a≤b)||decide (b≤a))=true:=fun a b=>by simp only[Bool.or_eq_true,decide_eq_true_eq];omega
 have hp:=List.mergeSort_perm l fun x y=>decide (x≤y)
 have h1:=List.pairwise_mergeSort tr to l
 have h2:(l.mergeSort fun x y=>decide (x≤y)).Nodup:=hp.nodup_iff.2 hn
 refine⟨?_,fun n=>by rw[hp.mem_iff];exact hm n⟩
 refine(List.pairwise_and_iff.2 ⟨h1,h2⟩).imp fun {a b} h=>?_
 have h3:=h.1;have h4:=h.2
 simp only[decide_eq_true_eq]at h3
 omega
theorem Tp (k b:Nat) (m:List Int) (w:World) (hk:w.heap[k]? =some (.cells #[.map (some b)] 260 (0,0))) (hb:(oN b (fW m)).inv w) (hm:∀n,n∈m→ -9223372036854775808≤n∧n≤9223372036854775807) (hl:m.length≤1000000000000):
  Calls ae 150 #[.func (.func 208) #[] #[.pointer (some ⟨k,0,none⟩)]] w fun e w'=>∃x:Option Addr×Nat×List Int,(qF (fW m) x.2.2∧x.2.2.length≤m.length)∧e= .returned (.slice x.1 x.2.2.length x.2.1)∧St (bs w) [own 3 1 x.1 x.2.1 (x.2.2.map lT)] w':=by
 obtain⟨es,clock,h1,hS,hst⟩:=hb
 have hkey:∀e,e∈es.toList→∃n,e.key= .int .i64 n∧fW m n=true:=fun e he=>by obtain⟨n,e1,_,e2⟩:=hS.zN e he;exact⟨n,e1,e2⟩
 have hin:∀n,fW m n=true→n∈m:=fun n h=>by simpa [fW]using h
 have hu:ae.underlying 3=some (.int .i64):=cM
 have hko:∀n,fW m n=true→keyOf ae 3 (.int .i64 n)=some (.int .i64 n):=fun n h=>by
  have:=hm n (hin n h)
  have hwf:(Lit.int .i64 n).wf=true:=by simp only[Lit.wf,Bool.and_eq_true,decide_eq_true_eq];exact this
  simp [keyOf,hu,mapKey,hwf]
 let R:Value→Option (DataW Unit×List MemPlace):=fun _=>some (.nil,[])
 have hrd:∀e,e∈es.toList→afM ae 3 R e=some (.int .i64 (EJ e),.nil):=fun e he=>by
  obtain⟨n,e1,e2⟩:=hkey e he
  simp [afM,e1,hko n e2,R,EJ]
 have hndk:(es.toList.map (·.key)).Nodup:=gl.2 hS.A5
 have hki:∀e,e∈es.toList→e.key= .int .i64 (EJ e):=fun e he=>by obtain⟨n,e1,_⟩:=hkey e he;simp [EJ,e1]
 have hnd:(es.toList.map EJ).Nodup:=gl.2 (hS.A5.imp_of_mem fun {a b} ha hb hne e=>hne (by rw[hki a ha,hki b hb,e]))
 have hmem:∀n,n∈es.toList.map EJ↔fW m n=true:=fun n=>by
  rw[bQ]
  constructor
  ·rintro ⟨e,he,rfl⟩
   obtain⟨q,e1,e2⟩:=hkey e he
   simpa [EJ,e1]using e2
  ·intro h
   obtain⟨e,he,e1⟩:=hS.mem n h
   refine⟨e,he,?_⟩
   have e2:=hki e he
   rw[e1]at e2
   exact(mF (a:=n) (b:=EJ e) e2).symm
 have hlen:es.size≤m.length:=by
  have h3:((es.toList.map EJ).length)≤m.length:=List.Nodup.length_le_of_subset hnd (fun n h=>hin n ((hmem n).1 h))
  simpa using h3
 have F:Go.WideElems.Fit ae 3 R es clock:=⟨by simp only[maxLen];omega,⟨hst.2,hst.1,hndk⟩,fun e he=>⟨_,hrd e he⟩⟩
 have hown:=World.ownsMap_of_fit (R:=R) h1 F (fun _ _ _ h=>h)
 have hsz:zJ (DataW.map ((es.toList.map (afN ae 3 R)).foldr DataW.insert []))=es.size:=by simp [zJ,length_sorted]
 refine(Tryz.Ii k b es.size _ R w hk hown (by rw[hsz];simp only[maxLen];omega) (by rw[hsz];omega)).mono fun e w' ⟨v,ss,h2,h3,h4,_,h5⟩=>?_
 have hp:ss.Perm (es.toList.map EJ):=by
  refine h3.trans ?_
  show(List.map (fun p:Lit×DataW Unit=>Go.intOf p.1) ((es.toList.map (afN ae 3 R)).foldr DataW.insert [])).Perm _
  refine((Go.WideShapes.sorted_perm _).map _).trans ?_
  rw[dG]
  refine List.Perm.of_eq (fU fun e he=>?_)
  simp [Go.WideElems.rg_of (hrd e he),Go.intOf]
 have hA:=TY (S:=fW m) (hp.nodup_iff.2 hnd) (fun n=>by rw[hp.mem_iff];exact hmem n)
 have hL:(ss.mergeSort fun x y=>decide (x≤y)).length=ss.length:=List.length_mergeSort ..
 obtain⟨p,c,e1,e2⟩:=tw (l:=(ss.mergeSort fun x y=>decide (x≤y)).map lT) (H9 _) (by rw[aq,hL]) (by rw[It];exact h4) h5
 refine⟨(p,c,_),⟨hA,?_⟩,by rw[hL,h2,e1],e2⟩
 show(ss.mergeSort fun x y=>decide (x≤y)).length≤_
 rw[hL,hp.length_eq];simpa using hlen
theorem Yj (p:Option Addr) (l:List Int) (c:Nat) (w:World) (hn:l.length<1000000000000) (hl:Ints w p l):
  Calls ae 71 #[.slice p l.length c] w fun e w'=>∃x:Option Addr×Nat,True∧e= .returned (.slice x.1 l.length x.2)∧St (bs w) [own 3 1 x.1 x.2 (l.map lT)] w':=by
 cases p with
 |none=>
  have e0:l=[]:=by
   have:=hl.some
   cases l with
   |nil=>rfl
   |cons a l=>exact absurd (this (by simp)) (by simp)
  subst e0
  refine(Tryz.slices_Clone_int_nil _ c w).mono fun e w' ⟨h1,h2⟩=>?_
  subst h2
  obtain⟨p,c,e1,e2⟩:=tw (E:=3) (z:=1) (w:=w') (w':=w') (v:=.slice none 0 0) (n:=0) (l:=[]) (by simp) rfl ⟨by simp,.inl ⟨rfl,rfl⟩⟩ (W7 _ _)
  exact⟨(p,c),trivial,by rw[h1,e1];rfl,e2⟩
 |some a=>
  have fin:∀{e:Ending} {w':World},(∃v',e= .returned v'∧w'.ownsRow w.heap.size 3 1 v' l.length (l.map encZ)∧v'≠ .slice none 0 0∧SK w.heap.size w w')→
    ∃x:Option Addr×Nat,True∧e= .returned (.slice x.1 l.length x.2)∧St (bs w) [own 3 1 x.1 x.2 (l.map lT)] w':=by
   rintro e w' ⟨v,h1,h2,_,h3⟩
   obtain⟨p,c,e1,e2⟩:=tw (n:=l.length) (l:=l.map lT) (H9 _) (by simp) (by rw[It];exact h2) h3
   exact⟨(p,c),trivial,by rw[h1,e1],e2⟩
  cases l with
  |nil=>exact(Tryz.slices_Clone_int_zero a c w).mono fun e w' h=>fin h
  |cons x l=>
   have ea:=hl.some (by simp)
   injection ea with ea
   rw[ea]
   refine(Tryz.slices_Clone_int _ _ (x::l).length c (x::l) w (bA _) (by omega) fun j hj=>?_).mono fun e w' h=>fin (by rw[List.take_length]at h;exact h)
   have h1:=(hl.at hj w (St.refl w)) 0 _ rfl
   simpa [Addr.add]using h1
theorem aeM (n:Nat) (w:World) (hn:n<1000000000000):
  Calls ae 209 #[.slice none 0 0,.int .i64 n] w fun e w'=>∃x:Option Addr×Nat,True∧e= .returned (.slice x.1 0 x.2)∧St (bs w) [own 3 1 x.1 x.2 []] w':=by
 have hinf:(ae.info? 3).map (fun i=>(i.size,i.bytes))=some (1,8):=by kernel_rfl
 have hinz:(ae.info? 3).bind (·.zero)=some (.int .i64 0):=by kernel_rfl
 obtain⟨i0,hi,he⟩:=j8.1 hinf
 rw[hi]at hinz
 injection he with hs hb
 rcases Nat.eq_zero_or_pos n with h0|h0
 ·subst h0
  refine(Any8.slices_Grow_room Tryz.abu none 0 0 0 w (by omega) (by omega) (by omega) (by omega)).mono fun e w' ⟨h1,h2⟩=>?_
  subst h2
  obtain⟨p,c,e1,e2⟩:=tw (E:=3) (z:=1) (w:=w') (w':=w') (v:=.slice none 0 0) (n:=0) (l:=[]) (by simp) rfl ⟨by simp,.inl ⟨rfl,rfl⟩⟩ (W7 _ _)
  exact⟨(p,c),trivial,by rw[h1,e1],e2⟩
 ·refine(Any8.slices_Grow_grow Tryz.abu i0 (.int .i64 0) hi hinz (by omega) none 0 0 n [] w (by omega) (by omega) (by rw[hb];omega) (by omega) (by simp) (fun _=>rfl) (fun a h=>by cases h)).mono fun e w' ⟨h1,h2⟩=>?_
  have hg:=grownCap_ge w (0+n) 0 3
  refine⟨(some ⟨w.heap.size,0,none⟩,grownCap w (0+n) 0 3),trivial,h1,?_⟩
  subst h2
  have hw:=((St.refl w).drew (w.drawn+1):St (bs w) [] w.drew).alloc (.cells ((#[]:Array Value)++dV (bX .i64 0).cells (0+n-0)++dV (bX .i64 0).cells (grownCap w (0+n) 0 3-(0+n))) 3)
  refine hw.conv 0 (r':=own 3 1 (some ⟨w.heap.size,0,none⟩) (grownCap w (0+n) 0 3) []) rfl (fun k hk=>hk.2) ⟨by simp,by simp,fun q=>(by cases q),fun a ha=>?_⟩
  cases ha
  refine⟨rfl,rfl,_,_,hw.inv 0 _ rfl,by simp;rfl,?_⟩
  simp only[Array.size_append,ry]
  have hc:(bX .i64 0).cells.size=1:=rfl
  rw[hc]
  simp only[Nat.zero_add]at hg ⊢
  simp
  omega
end Go.Proofs.YtffbohecdocajaaGreat
namespace Go.Proofs.YtffbohecdocajaaGreat
open Go.SL Go.Proofs Go.qO
set_option linter.unusedVariables false
theorem amQ:ef ae 209:=⟨_,Tryz.func209,by decide,rfl⟩
abbrev PD (w:World) (p:Option Addr) (rs:List sF):Prop:=RR 1 lT w p rs
def u6 (rs:List sF):List Int:=(rs.map (·.l)).flatten
section
variable {rs:List sF}
theorem Fk {w:World} {p:Option Addr} (h:PD w p rs) {i:Nat} (hi:i<rs.length):(rs.getD i zI).l.length≤(rs.getD i zI).c∧Ints w (rs.getD i zI).p (rs.getD i zI).l:=h.2 _ (al (show rs[i]? =some (rs.getD i zI) by rw[av,af hi];rfl))
theorem JT {i:Nat} (hi:i<rs.length):rs.getD i zI∈rs:=al (show rs[i]? =some (rs.getD i zI) by rw[av,af hi];rfl)
theorem R5 {i:Nat} (hi:i<rs.length):u6 (rs.take (i+1))=u6 (rs.take i)++(rs.getD i zI).l:=by
 unfold u6
 rw[List.take_add_one,af hi,av,af hi]
 simp only[Option.toList_some,List.map_append,List.flatten_append,List.map_cons,List.map_nil,gC,List.flatten_nil,c9,dk]
theorem Il (hb:∀x∈rs,x.l.length≤64):(u6 rs).length≤64*rs.length:=by
 unfold u6
 induction rs with
 |nil=>simp
 |cons x rs ih=>
  have h1:=hb x (by simp)
  have h2:=ih (fun y hy=>hb y (by simp [hy]))
  simp only[List.map_cons,gC,aZ,List.length_cons]at h2 ⊢
  omega
end
theorem T8 (rs:List sF) (p:Option Addr) (c:Nat) (w:World) (hn:rs.length≤64) (hb:∀x∈rs,x.l.length≤64) (hl:PD w p rs):
 Calls ae 153 #[.slice p rs.length c] w fun e w'=>∃x:Option Addr×Nat,True∧e= .returned (.slice x.1 (u6 rs).length x.2)∧St (bs w) [own 3 1 x.1 x.2 ((u6 rs).map lT)] w':=by
 refine enter (vs:=[_]) (env:=[(0,_)]) Tryz.func153 rfl rfl rfl rfl ?_
 refine VC.q (VO.a rfl<|VO.n<|VC.q (VO.a rfl<|VO.n<|ak ?_))
 refine VC.q (VO.m rfl<|ah (bW rm (.r rfl) rfl) rfl<|VO.m rfl<|VO.n<|aG<|bY (α:=Nat×Nat) 0 (fun gx=>[(3,.int .i64 (gx.2:Nat)),(11,.int .i64 (gx.1:Nat))]) [(0,_),(9,_),(10,_)] (fun gx=>[]) (fun gx=>gx.1≤rs.length∧gx.2≤64*gx.1) (fun gx=>rs.length-gx.1) (0,0) (by exact⟨bG _,bG _⟩) (.c4 rfl rfl rfl rfl (.cons rfl .nil)) (fun _ h=>h) ?_)
 rintro ⟨i,n⟩ ⟨hi,hN⟩
 show VC _ _ _ _ _ ([(3,.int .i64 (n:Nat)),(11,.int .i64 (i:Nat))]++_) ([]++_) _ _
 dsimp only at hi hN
 refine VC.q (VO.t rfl<|VO.n<|ak<|ay rfl (fun h1=>?_) (fun h1=>?_))
 ·
  refine aC (ag<|ak<|aG<|ak ?_)
  have hrow:=Fk hl (i:=i) (by omega)
  have hrl:=hb _ (JT (i:=i) (by omega))
  refine aF (ah (cw rm qo hl.1.sm (.r rfl) (.r rfl) rfl (by omega)) rfl<|ah (aB ij (.r rfl) (fun w hw=>bq (off:=0) ((hl.1.at zI (j:=i) (by omega)) w hw) ⟨_,rfl⟩)) rfl<|VO.a rfl<|VO.n<|VC.q (VO.m rfl<|VO.m rfl<|ah (bW ei (.r rfl) rfl) rfl<|VO.p rfl rfl (by omega) (by omega) rfl<|VO.a rfl<|VO.n<|VC.q (VO.m rfl<|VO.t rfl<|aI ?_)))
  refine ag<|ay rfl (fun h20=>?_) (fun h20=>?_)
  · (exfalso;(omega))
  ·
   refine aC (bB (ag<|aF (VO.p rfl rfl (by omega) (by omega) rfl<|VO.m rfl<|aI<|bn fun a w ha hw=>⟨(i+1,n+(rs.getD i zI).l.length),⟨by dsimp only;omega,by dsimp only;omega⟩,(by dsimp only;omega),ha.sub (.c4 rfl rfl rfl rfl (.cons rfl .nil)),hw⟩)))
 ·
  refine ca (aL (aL (cD (ag<|VC.q (VO.m rfl<|aD rfl<|cz (xs:=[_,_]) (vs:=[_,_]) amQ ⟨(.r rfl),(.r rfl),trivial⟩ (fun w _=>aeM n w (by omega)) fun q _=>aD rfl<|aO (LO.as (.r rfl))<|VO.n<|ak<|VC.q (VO.m rfl<|ah (bW rm (.r rfl) rfl) rfl<|VO.m rfl<|aI ?_))))))
  refine ag<|aG<|bY (α:=Nat×(List Int)×(Option Addr)×Nat) 1 (fun gx=>[(6,.slice gx.2.2.1 gx.2.1.length gx.2.2.2),(27,.int .i64 (gx.1:Nat))]) [(25,_),(26,_)] (fun gx=>[own 3 1 gx.2.2.1 gx.2.2.2 (gx.2.1.map lT)]) (fun gx=>gx.1≤rs.length∧gx.2.1=u6 (rs.take gx.1)∧gx.2.1.length≤64*gx.1) (fun gx=>rs.length-gx.1) (0,[],_,_) (by exact⟨bG _,rfl,bG _⟩) (.c4 rfl rfl rfl rfl .nil) (fun _ h=>h) ?_
  rintro ⟨i,xs,px,cx⟩ ⟨hi,hX,hN⟩
  show VC _ _ _ _ _ ([(6,.slice px xs.length cx),(27,.int .i64 (i:Nat))]++_) ([own 3 1 px cx (xs.map lT)]++_) _ _
  dsimp only at hi hX hN
  refine VC.q (VO.t rfl<|VO.n<|ak<|ay rfl (fun h3=>?_) (fun h3=>?_))
  ·
   refine aC (ag<|ak<|aG<|ak ?_)
   have hrow:=Fk hl (i:=i) (by omega)
   have hrl:=hb _ (JT (i:=i) (by omega))
   refine aF (ah (cw rm qo hl.1.sm (.r rfl) (.r rfl) rfl (by omega)) rfl<|ah (aB ij (.r rfl) (fun w hw=>bq (off:=0) ((hl.1.at zI (j:=i) (by omega)) w hw) ⟨_,rfl⟩)) rfl<|VO.a rfl<|VO.n<|aF (VO.m rfl<|VO.m rfl<|aD rfl<|HO.aja (f:=lT) (l:=xs) (m:=(rs.getD i zI).l) 0 (fun R=>[R]) ei ei I3 (.r rfl) (.r rfl) rfl (fun w hw=>hrow.2.keep w hw) (fun _=>rfl) (fun _=>rfl) rfl rfl (fun _=>rfl) rfl rfl (by omega) fun p2 c2 _=>aD rfl<|aO (LO.as (.r rfl))<|aI<|bB (ag<|aF (VO.p rfl rfl (by omega) (by omega) rfl<|VO.m rfl<|aI<|bn fun a w ha hw=>⟨(i+1,xs++(rs.getD i zI).l,_,_),⟨by dsimp only;omega,by dsimp only;rw[R5 (by omega),hX],by dsimp only;rw[aZ];omega⟩,(by dsimp only;omega),ha.sub (.cons (Eq.trans (b:=some (mn p2 (xs.length+(rs.getD i zI).l.length) c2)) rfl (by dsimp only;rw[aZ])) (.cons rfl (.cons rfl (.cons rfl .nil)))),hw⟩))))
  ·
   refine ca (aL (aL (cD (ag<|VC.q (VO.m rfl<|VO.a rfl<|VO.n<|aP (VE.s rfl rfl (fun w hw=>?_)))))))
   have e:xs=u6 rs:=by rw[hX,List.take_of_length_le (by omega)]
   subst e
   exact⟨(px,cx),trivial,rfl,hw.fO [0] rfl⟩
theorem Uc:∀{l k:List Int},l.Pairwise (· < ·)→k.Pairwise (· < ·)→(∀n,n∈l↔n∈k)→l=k
 |[],[],_,_,_=>rfl
 |[],y::k,_,_,h=>by have:=(h y).2 (by simp);cases this
 |x::l,[],_,_,h=>by have:=(h x).1 (by simp);cases this
 |x::l,y::k,h1,h2,h=>by
  have h1:=fL.1 h1
  have h2:=fL.1 h2
  have e:x=y:=by
   rcases cA.1 ((h x).1 (by simp)) with e|e
   ·exact e
   ·rcases cA.1 ((h y).2 (by simp)) with f|f
    ·exact f.symm
    ·have:=h1.1 y f;have:=h2.1 x e;omega
  subst e
  congr 1
  refine Uc h1.2 h2.2 fun n=>⟨fun hn=>?_,fun hn=>?_⟩
  ·rcases cA.1 ((h n).1 (gd _ hn)) with e|e
   ·have:=h1.1 n hn;omega
   ·exact e
  ·rcases cA.1 ((h n).2 (gd _ hn)) with e|e
   ·have:=h2.1 n hn;omega
   ·exact e
theorem ak9:ef ae 153:=⟨_,Tryz.func153,by decide,rfl⟩
structure Six where
 a:Int
 b:Int
 c:Int
 d:Int
 e:Int
 f:Int
abbrev ag3 (x y:Value) (q:Six):Value:=.agg #[x,y,.int .i64 q.a,.int .i64 q.b,.int .i64 q.c,.int .i64 q.d,.int .i64 q.e,.int .i64 q.f]
structure OfX where
 ps:Option Addr
 cs:Nat
 pm:Option Addr
 cm:Nat
 s:List Int
def ui (g:cU) (c:cZ):cZ:=if fy g c=0 then c else⟨[],[],⟨0,0,0,0⟩,0⟩
section
variable {g:cU} {l m s:List Int} {f:Au} {grow:Int} {β:Bs} {L:List cq} {w':World}
theorem Vo (h:¬fy g ⟨s,l,f,grow⟩=0) (hs:qF (fW m) s∧s.length≤m.length) (hw:St β L w'):∃x:OfX,(qF (fW m) x.s∧x.s.length≤m.length)∧cW (.tuple #[.agg #[.slice none 0 0,.slice none 0 0,.int .i64 0,.int .i64 0,.int .i64 0,.int .i64 0,.int .i64 0],.int .i64 (fy g ⟨s,l,f,grow⟩)])= .returned (.tuple #[Ac x.ps x.cs x.pm x.cm (ui g ⟨x.s,l,f,grow⟩),.int .i64 (fy g ⟨x.s,l,f,grow⟩)])∧St β [own 3 1 x.ps x.cs ((ui g ⟨x.s,l,f,grow⟩).sure.map lT),own 3 1 x.pm x.cm ((ui g ⟨x.s,l,f,grow⟩).may.map lT)] w':=by
 have e:ui g ⟨s,l,f,grow⟩=⟨[],[],⟨0,0,0,0⟩,0⟩:=if_neg h
 refine⟨⟨none,0,none,0,s⟩,hs,?_,?_⟩
 ·dsimp only;rw[e];rfl
 ·dsimp only;rw[e];exact(hw.nil.fX 3 1).fX 3 1
theorem abg {ps pm:Option Addr} {cs cm:Nat} (h:¬¬fy g ⟨s,l,f,grow⟩=0) (hs:qF (fW m) s∧s.length≤m.length) (hw:St β [own 3 1 ps cs (s.map lT),own 3 1 pm cm (l.map lT)] w'):∃x:OfX,(qF (fW m) x.s∧x.s.length≤m.length)∧cW (.tuple #[Ac ps cs pm cm ⟨s,l,f,grow⟩,.int .i64 0])= .returned (.tuple #[Ac x.ps x.cs x.pm x.cm (ui g ⟨x.s,l,f,grow⟩),.int .i64 (fy g ⟨x.s,l,f,grow⟩)])∧St β [own 3 1 x.ps x.cs ((ui g ⟨x.s,l,f,grow⟩).sure.map lT),own 3 1 x.pm x.cm ((ui g ⟨x.s,l,f,grow⟩).may.map lT)] w':=by
 have h0:=cL.1 h
 have e:ui g ⟨s,l,f,grow⟩=⟨s,l,f,grow⟩:=if_pos h0
 refine⟨⟨ps,cs,pm,cm,s⟩,hs,?_,?_⟩
 ·dsimp only;rw[e,h0]
 ·dsimp only;rw[e];exact hw
end
theorem ane (g:cU) (q:Six) (l:List Int) (pp:Option Addr) (cp:Nat) (rs:List sF) (pk:Option Addr) (ck:Nat) (f:Au) (grow:Int) (w:World) (hln:l.length≤200) (hn:rs.length≤64) (hb:∀x∈rs,x.l.length≤64) (hr:∀n,n∈u6 rs→ -9223372036854775808≤n∧n≤9223372036854775807) (hl:Ints w pp l) (hk:PD w pk rs):
 Calls ae 69 #[uk g,ag3 (.slice pp l.length cp) (.slice pk rs.length ck) q,uo f,.int .i64 grow] w fun e w'=>∃x:OfX,(qF (fW (u6 rs)) x.s∧x.s.length≤(u6 rs).length)∧e= .returned (.tuple #[Ac x.ps x.cs x.pm x.cm (ui g ⟨x.s,l,f,grow⟩),.int .i64 (fy g ⟨x.s,l,f,grow⟩)])∧St (bs w) [own 3 1 x.ps x.cs ((ui g ⟨x.s,l,f,grow⟩).sure.map lT),own 3 1 x.pm x.cm ((ui g ⟨x.s,l,f,grow⟩).may.map lT)] w':=by
 have hcl:=Il hb
 refine enter (vs:=[_,_,_,_]) (env:=[(0,_),(1,_),(2,_),(3,_)]) Tryz.func69 rfl rfl rfl rfl ?_
 refine VC.q (aD rfl<|cf (C:=#[_,_,_,_,_]) rfl rfl fun b1=>aD rfl<|cf (C:=#[_,_,_,_,_,_,_,_]) rfl rfl fun b2=>aD rfl<|cf (C:=#[_,_,_,_]) rfl rfl fun b3=>aD rfl<|bI (C:=#[_,_,_,_,_,_,_]) sx rfl fun b4=>VO.a rfl<|VO.n<|ak<|VC.VU [⟨12,10,fun b=>.pointer (some ⟨b,0,none⟩),218,#[.slice none 0 0,.slice none 0 0,.int .i64 0,.int .i64 0,.int .i64 0,.int .i64 0,.int .i64 0]⟩] [[0,1,2,3],[0,1,2,3],[0,1,2,3],[0,1,2,3],[0,1,2,3],[0,1,2,3],[0,1,2,3],[0,1,2,3],[0,1,2,3]] [some 7,some 7,none,none,none,none,some 7,some 7,none,some 7,some 7,none,none,none] mixed (by kernel_rfl) rfl (aA (fun _ hJ=>aE (r:=1) GC (.r rfl) rfl) rfl<|aA (fun _ hJ=>aB adI (.r rfl) (fun _ hw=>aX (hJ _ hw) 2 rfl ⟨_,rfl⟩)) rfl<|cn<|cn<|cn<|cn<|aA (fun _ hJ=>aE (r:=0) ada (.r rfl) rfl) rfl<|aA (fun _ hJ=>aB ij (.r rfl) (fun _ hw=>aX (hJ _ hw) 2 rfl ⟨_,rfl⟩)) rfl<|cn<|aA (fun _ hJ=>aM (vs:=[_,_,_,_]) EA (.r rfl) (fun _ hw=>aX (hJ _ hw) 1 rfl ⟨_,rfl⟩) rfl) rfl<|LX.m rfl<|cn<|cn<|cn<|dw) (⟨⟨rfl,_,rfl,FO.alloc sx rfl⟩,trivial⟩) (HY.s<|HY.s<|HY.h rfl rfl fun X=>cz (xs:=[_]) (vs:=[_]) ak9 ⟨(.r rfl),trivial⟩ (fun w hw=>T8 rs pk ck w hn hb (hk.keep w hw)) fun q2 _=>⟨[_,_,_,_,_],rfl,gM (L1:=[_,_,_,_]) [1,2,3,4] rfl rfl rfl,HY.h rfl rfl fun X=>cz (xs:=[_]) (vs:=[_]) XX ⟨(.r rfl),trivial⟩ (fun w hw=>O0 _ (u6 rs) _ w (by omega) (dE hw 0 rfl)) fun b3 _=>⟨[_,_,_,_,_,_],rfl,gM (L1:=[_,_,_,_]) [2,3,4,5] rfl rfl rfl,HY.h rfl rfl fun X=>cz (xs:=[_]) (vs:=[_]) ams ⟨(.r rfl),trivial⟩ (fun w _=>adT _ w) fun k4 _=>⟨[_,_,_,_,_,_,_],rfl,gM (L1:=[_,_,_,_]) [3,4,5,6] rfl rfl rfl,HY.h rfl rfl fun X=>cz (xs:=[_]) (vs:=[_]) amx ⟨(.r rfl),trivial⟩ (fun w hw=>Tp k4 b3 (u6 rs) w (hw.inv 0 _ rfl) (hw.inv 1 _ rfl) hr (by omega)) fun s5 hs5=>⟨[_,_,_,_,_,_,_,_],rfl,gM (L1:=[_,_,_,_]) [4,5,6,7] rfl rfl rfl,HY.s<|HY.s<|HY.h rfl rfl fun X=>cz (xs:=[_]) (vs:=[_]) C71 ⟨(.r rfl),trivial⟩ (fun w hw=>Yj pp l cp w (by omega) (hl.keep w hw)) fun m8 _=>⟨[_,_,_,_,_,_,_,_,_],rfl,gM (L1:=[_,_,_,_]) [5,6,7,8] rfl rfl rfl,HY.s<|HY.s<|HY.h rfl rfl fun X=>aO (dC (ps:=[(_,_),(_,_),(_,_),(_,_)]) (vs:=[(_,_),(_,_),(_,_),(_,_)]) (C:=[_,_,_,_,_,_,_]) agK ⟨(.r rfl),(.r rfl),(.r rfl),(.r rfl),trivial⟩ rfl ⟨_,[_],[_,_,_,_,_,_,_],rfl,rfl,rfl,rfl,⟨_,[_],[_,_,_,_,_,_,_],rfl,rfl,rfl,rfl,⟨_,[_,_,_,_],[_,_,_,_,_,_,_],rfl,rfl,rfl,rfl,⟨_,[_],[_,_,_,_,_,_,_],rfl,rfl,rfl,rfl,rfl⟩⟩⟩⟩)<|⟨[_,_,_,_,_,_,_,_,_],rfl,gM (L1:=[_,_,_,_]) [5,6,7,8] rfl rfl rfl,HY.f rfl fun b17=>⟨gM (L1:=[_,_,_,_]) [6,7,8,9] rfl rfl rfl,HY.h0 rfl fun X=>bl 0 (vs:=[_,_,_,_,_,_,_]) (C':=[_,_,_,_,_,_,_]) (L':=[_,_,_,_,_,_,_,_,_,_]++X) l9 rfl rfl rfl rfl rfl rfl rfl rfl<|⟨[_,_,_,_,_,_,_,_,_,_],rfl,gM (L1:=[_,_,_,_]) [6,7,8,9] rfl rfl rfl,HY.nil ?_⟩⟩⟩⟩⟩⟩⟩⟩))
 refine ag<|ak<|VC.q (ah (aM (vs:=[_,_,_,_,_]) vS (.r rfl) (ax 9 rfl ⟨_,rfl⟩) rfl) rfl<|ah (aM (vs:=[_,_,_,_,_,_,_]) Dx (.r rfl) (ax 0 rfl ⟨_,rfl⟩) rfl) rfl<|ah (bD (xs:=[_,_]) (vs:=[_,_]) C84 ⟨(.r rfl),(.r rfl),trivial⟩ (fun w hw=>yH g ⟨s5.2.2,l,f,grow⟩ _ _ _ _ w (show s5.2.2.length<_ by omega) (show l.length<_ by omega) (dE hw 2 rfl) (dE hw 1 rfl))) rfl<|VO.a rfl<|VO.n<|VC.q (VO.m rfl<|VO.u rfl<|aI ?_))
 refine ag<|ay rfl (fun h28=>?_) (fun h28=>?_)
 ·
  refine VC.q (ah (dC (ps:=[]) (vs:=[]) (C:=[_,_,_,_,_,_,_]) agK trivial rfl rfl) rfl<|VO.m rfl<|bU<|bl 6 (vs:=[_,_,_,_,_,_,_]) (C':=[_,_,_,_,_,_,_]) (L':=[_,_,_,_,_,_,_,_,_,_]) l9 rfl rfl rfl rfl rfl rfl rfl rfl<|VO.a rfl<|VO.n<|aP (VE.cJ (dh (vs:=[_,_]) rfl ⟨iA (vs:=[_,_,_,_,_,_,_]) Dx rfl (ax 6 rfl ⟨_,rfl⟩) rfl,rfl,trivial⟩ (fun w hw=>?_))))
  first |exact Vo h28 hs5 hw|exact abg h28 hs5 (hw.fO [2,1] rfl)
 ·
  refine aC (ag<|VC.q (ah (aM (vs:=[_,_,_,_,_,_,_]) Dx (.r rfl) (ax 0 rfl ⟨_,rfl⟩) rfl) rfl<|bU<|bl 6 (vs:=[_,_,_,_,_,_,_]) (C':=[_,_,_,_,_,_,_]) (L':=[_,_,_,_,_,_,_,_,_,_]) l9 rfl rfl rfl rfl rfl rfl rfl rfl<|VO.a rfl<|VO.n<|aP (dh (vs:=[_,_]) rfl ⟨iA (vs:=[_,_,_,_,_,_,_]) Dx rfl (ax 6 rfl ⟨_,rfl⟩) rfl,rfl,trivial⟩ (fun w hw=>?_))))
  first |exact Vo h28 hs5 hw|exact abg h28 hs5 (hw.fO [2,1] rfl)
end Go.Proofs.YtffbohecdocajaaGreat
namespace Go.Proofs.YtffbohecdocajaaGreat
open Go.SL Go.Proofs Go.qO Go.Cell
set_option linter.unusedVariables false
def Q8 (x:mj) (i:Nat) (t:jf):Au:=
 if t.fr=0 then uR (FN oS (jy (gw x) (fG x 0) (fG x 1) 5 (t.ar.getD 0 0) i 2)) (FY oS (jy (gw x) (fG x 0) (fG x 1) 5 (t.ar.getD 0 0) i 2)) (FN oT (jy (gw x) (fG x 0) (fG x 1) 5 (t.ar.getD 0 0) i 2)) (FY oT (jy (gw x) (fG x 0) (fG x 1) 5 (t.ar.getD 0 0) i 2)) (iH x:Int) 0
 else uR (-2) 2 (-2) 2 (iH x:Int) 0
def ksI (x:mj) (i:Nat):List Int:=(vl (gW (gw x)) (gH (gw x)) (fG x 1) 5 i).flatten.map jB
def pxL (x:mj):List (List Nat):=eU (gW (gw x)) (gH (gw x)) (ga (fG x 1) 5)
structure XT (x:mj) (s:rk) (i:Nat) (c:cZ):Prop where
 gr:c.grow=0
 may:∃l,(pxL x)[i]? =some l∧c.may=l.map jB
 sure:qF (fW (ksI x i)) c.sure
 fl:∃k t,MrT x s i k t∧c.fh=Q8 x i t
section
variable {x:mj} {n i k:Nat} {s:rk} {t:jf} {c:cZ}
theorem G3 {a m T:Int} (hT:0<T) (h:a≤m):tq a T 0*T≤1000000*m:=by
 unfold tq
 have:=Int.ediv_mul_le (1000*(1000*a-0)) (show T≠0 by omega)
 omega
theorem GV {b m T:Int} (hT:0<T) (h:m≤b):1000000*m≤tJ b T 0*T:=by
 unfold tJ
 have:=Int.ediv_mul_le (-(1000*(1000*b+0))) (show T≠0 by omega)
 rw[Int.neg_mul]
 omega
theorem B1 {a b T:Int} (hT:100≤T) (ha: -2≤a) (hab:a≤b) (hb:b≤2): -100000≤tq a T 0∧tq a T 0≤tJ b T 0∧tJ b T 0≤100000:=by
 have h1:=G3 (a:=a) (m:=a) (T:=T) (by omega) (dx _)
 have h2:=GV (b:=b) (m:=b) (T:=T) (by omega) (dx _)
 have key:tq a T 0≤tJ b T 0:=Int.le_of_mul_le_mul_right (a:=T) (by omega) (by omega)
 refine⟨?_,key,?_⟩
 ·unfold tq
  exact(oL (by omega)).2 (by omega)
 ·unfold tJ
  have: -100000≤ -(1000*(1000*b+0)) / T:=(oL (by omega)).2 (by omega)
  omega
theorem Ch {l:List Mv} {f:Mv→Int} (hne:l≠[]) (hb:∀d,d∈l→ -2≤f d∧f d≤2): -2≤FN f l∧FN f l≤FY f l∧FY f l≤2:=by
 obtain⟨d0,hd0⟩:=List.exists_mem_of_ne_nil l hne
 have hd:=UK (f:=f) hd0
 have hh:Bb f l∈l.map f:=by
  cases l with
  |nil=>exact absurd rfl hne
  |cons a l=>exact bE (f:=f) (gI ..)
 obtain⟨d1,hd1,e1⟩:=bQ.1 hh
 have b1:=hb d1 hd1
 refine⟨?_,by omega,?_⟩
 ·unfold FN
  rcases(B8 (f:=f) (l:=l) (bA _)).2.2 with⟨m,hm,e⟩|e
  ·rw[e];exact(hb m hm).1
  ·rw[e];omega
 ·unfold FY
  rcases(Cc (f:=f) (l:=l) (bA _)).2.2 with⟨m,hm,e⟩|e
  ·rw[e];exact(hb m hm).2
  ·rw[e];omega
theorem abc (h:MrT x s i k t):im (Q8 x i t)∧((Q8 x i t).a*(iH x:Int)≤1000000*B2 x∧1000000*B2 x≤(Q8 x i t).b*(iH x:Int))∧((Q8 x i t).c*(iH x:Int)≤1000000*Cb x∧1000000*Cb x≤(Q8 x i t).d*(iH x:Int)):=by
 have hT:(100:Int)≤(iH x:Int):=by unfold iH;omega
 obtain⟨q1,q2,q3,q4⟩:=Ig x
 have key:∀x1 x2 y1 y2:Int,(-2≤x1∧x1≤x2∧x2≤2)→(-2≤y1∧y1≤y2∧y2≤2)→(x1≤B2 x∧B2 x≤x2)→(y1≤Cb x∧Cb x≤y2)→
   im (uR x1 x2 y1 y2 (iH x:Int) 0)∧((uR x1 x2 y1 y2 (iH x:Int) 0).a*(iH x:Int)≤1000000*B2 x∧1000000*B2 x≤(uR x1 x2 y1 y2 (iH x:Int) 0).b*(iH x:Int))∧((uR x1 x2 y1 y2 (iH x:Int) 0).c*(iH x:Int)≤1000000*Cb x∧1000000*Cb x≤(uR x1 x2 y1 y2 (iH x:Int) 0).d*(iH x:Int)):=fun x1 x2 y1 y2 ha hb hc hd=>
  ⟨⟨B1 hT ha.1 ha.2.1 ha.2.2,B1 hT hb.1 hb.2.1 hb.2.2⟩,⟨G3 (by omega) hc.1,GV (by omega) hc.2⟩,G3 (by omega) hd.1,GV (by omega) hd.2⟩
 by_cases hf:t.fr=0
 ·obtain⟨a,ha,hm⟩:=h.kept hf
  have e:t.ar.getD 0 0=a:=by rw[ha];rfl
  unfold Q8
  rw[if_pos hf,e]
  have hne:jy (gw x) (fG x 0) (fG x 1) 5 a i 2≠[]:=fun z=>by rw[z]at hm;cases hm
  have bx:=Ch (f:=oS) hne fun d hd=>by have:=G0 hd;omega
  have by_:=Ch (f:=oT) hne fun d hd=>by have:=G0 hd;omega
  exact key _ _ _ _ bx by_ (UK (f:=oS) hm) (UK (f:=oT) hm)
 ·unfold Q8
  rw[if_neg hf]
  exact key _ _ _ _ (by omega) (by omega) (by omega) (by omega)
theorem Fv:gW (gw x)*gH (gw x)=gA x*kK x:=by rw[Bf.1,Bf.2]
theorem T6 {l:List Nat} (h:(pxL x)[i]? =some l):l.Pairwise (· < ·)∧(∀p,p∈l→p<gA x*kK x)∧l≠[]:=by
 obtain⟨p,hp,hs,rfl⟩:=kS (al h)
 refine⟨lS hp,fun q hq=>?_,DE hp⟩
 rw[←Fv];exact uW hp hq
theorem I1 {l:List Nat} (h:(pxL x)[i]? =some l) {p:Nat} (hp:(p:Int)∈ksI x i):p<gA x*kK x∧p∈l∧wR x 1 p=true:=by
 unfold ksI at hp
 obtain⟨q,hq,e⟩:=bQ.1 hp
 have e2:q=p:=Int.ofNat.inj e
 subst e2
 obtain⟨kk,hk1,hk2⟩:=nI.1 hq
 obtain⟨g1,g2,g3⟩:=Nh (fun y hy hi=>CJ (n:=1) (by rw[←Fv];exact hy) hi) hk1 hk2
 have g1':q<gA x*kK x:=by rw[←Fv];exact g1
 refine⟨g1',?_,Jr g1' g2⟩
 have ho:=PT (W:=gW (gw x)) (H:=gH (gw x)) (M:=ga (fG x 1) 5)
 rw[ho.get _ g1]at g3
 obtain⟨j,l2,h1,h2,h3⟩:=Ak (q:=q) (ls:=eU (gW (gw x)) (gH (gw x)) (ga (fG x 1) 5)) (by rw[g3];exact dD _)
 rw[h3]at g3
 have ej:j=i:=by omega
 subst ej
 have:(pxL x)[j]? =some l2:=h1
 rw[this]at h
 cases h
 exact h2
theorem XT.ok (h:XT x s i c):fy (gw x) c=0:=by
 obtain⟨l,hl,hm⟩:=h.may
 obtain⟨k,t,ht,hf⟩:=h.fl
 obtain⟨p1,p2,p3⟩:=T6 hl
 obtain⟨f1,_⟩:=abc ht
 have hgw:(gw x).wide*(gw x).high=((gA x*kK x:Nat):Int):=(dB _ _).symm
 unfold fy
 rw[if_neg (fun z=>z (vY x)),if_neg (fun z=>z (by rw[hf];exact f1)),if_neg (fun z=>z (by rw[h.gr];decide)),if_neg (fun z=>p3 (List.map_eq_nil_iff.1 (by rw[←hm];exact z)))]
 have gm:∀j,j<l.length→c.may.getD j 0=((l.getD j 0:Nat):Int):=fun j hj=>by
  rw[hm,av,aw,af hj,av,af hj];rfl
 have ml:c.may.length=l.length:=by rw[hm,aq]
 have e1:gy (lO (gw x) c.may) c.may.length=0:=iw fun j hj=>by
  rw[ml]at hj
  have hb:=p2 (l.getD j 0) (kQ hj)
  unfold lO
  rw[gm j hj,hgw,if_neg (by omega),if_neg]
  rintro ⟨h0,h1⟩
  rw[gm (j-1) (by omega)]at h1
  have:=(be.1 p1) (j-1) j (by omega) hj (by omega)
  rw[av,af hj,av,af (show j-1<l.length by omega)]at h1
  simp only[dk]at h1
  omega
 rw[if_neg (fun z=>z e1)]
 refine iw fun j hj=>?_
 unfold rK
 obtain⟨a1,a2⟩:=h.sure
 rw[if_neg,if_neg]
 ·intro hn
  have hmem:c.sure.getD j 0∈c.sure:=kQ hj
  have hk:=of_decide_eq_true ((a2 _).1 hmem)
  obtain⟨q,hq,e⟩:=bQ.1 hk
  have e2:((q:Nat):Int)=c.sure.getD j 0:=e
  have z:=I1 hl (p:=q) (by rw[e2];exact hk)
  exact hn (by rw[←e2,hm];exact bE (f:=jB) z.2.1)
 ·rintro ⟨h0,h1⟩
  have:=(be.1 a1) (j-1) j (by omega) hj (by omega)
  rw[av,af hj,av,af (show j-1<c.sure.length by omega)]at h1
  simp only[dk]at h1
  omega
theorem Ns:Ha x n≤64:=by
 have h:=lF (W:=gW (gw x)) (H:=gH (gw x)) (S:=ga (fG x n) 5) (p:=gW (gw x)*gH (gw x))
 have h2:gW (gw x)*gH (gw x)≤64:=by rw[Fv];exact rS x
 unfold Ha nP eU
 exact Nat.le_trans h h2
theorem LA.of {l:List cZ} (hl:l.length=Ha x 1) (h:∀i c,l[i]? =some c→XT x s i c):LA x l where
 ok:=fun c hc=>by
  obtain⟨i,hi,e⟩:=cC.1 hc
  exact(h i c (by rw[af hi,e])).ok
 n:=by rw[hl];exact Ns
 gr:=fun c hc=>by
  obtain⟨i,hi,e⟩:=cC.1 hc
  exact(h i c (by rw[af hi,e])).gr
 may:=fun p hp hi=>by
  have hm:=CO hp hi
  have hp2:p<gW (gw x)*gH (gw x):=by rw[Fv];exact hp
  obtain⟨i,l2,h1,h2,h3⟩:=Ak ((Fs (S:=ga (fG x 1) 5) hp2).2 hm)
  have hil:i<l.length:=by rw[hl];exact(aj.1 h1).1
  have hc:=h i _ (af hil)
  refine⟨_,List.getElem_mem hil,?_⟩
  obtain⟨l3,h4,h5⟩:=hc.may
  have:(pxL x)[i]? =some l2:=h1
  rw[this]at h4
  cases h4
  rw[h5]
  exact bE (f:=jB) h2
 sure:=fun c hc p hp hs=>by
  obtain⟨i,hi,e⟩:=cC.1 hc
  have hcr:=h i c (by rw[af hi,e])
  obtain⟨l3,h4,_⟩:=hcr.may
  exact(I1 h4 (of_decide_eq_true ((hcr.sure.2 _).1 hs))).2.2
 fl:=fun c hc=>by
  obtain⟨i,hi,e⟩:=cC.1 hc
  obtain⟨k,t,ht,hf⟩:=(h i c (by rw[af hi,e])).fl
  rw[hf]
  exact(abc ht).2
end
theorem agU:ef ae 140:=⟨_,Tryz.func140,by decide,rfl⟩
theorem ai6:ef ae 142:=⟨_,Tryz.func142,by decide,rfl⟩
theorem ai1:ef ae 141:=⟨_,Tryz.func141,by decide,rfl⟩
theorem ain:ef ae 143:=⟨_,Tryz.func143,by decide,rfl⟩
theorem ai4:ef ae 144:=⟨_,Tryz.func144,by decide,rfl⟩
theorem PS (a b:Int) (w:World):
 Calls ae 141 #[.int .i64 a,.int .i64 b] w fun e w'=>e= .returned (.int .i64 (BI a b))∧St (bs w) [] w':=by
 refine enter (vs:=[_,_]) (env:=[(0,_),(1,_)]) Tryz.func141 rfl rfl rfl rfl ?_
 refine VC.q (VO.a rfl<|VO.n<|ak<|aG<|VC.q (VO.m rfl<|VO.m rfl<|VO.t rfl<|VO.a rfl<|aI ?_))
 refine ag<|ay rfl (fun h5=>?_) (fun h5=>?_)
 ·
  refine VC.q (VO.a rfl<|VO.n<|aP (VE.mB (VE.cJ (VE.s rfl rfl (fun w hw=>?_)))))
  refine⟨congrArg (fun z=>cW (.int .i64 z)) ?_,hw.nil⟩
  unfold BI
  first |rw[if_pos h5]|rw[if_neg h5,if_pos h9]|rw[if_neg h5,if_neg h9]
 ·
  refine VC.q (VO.m rfl<|VO.m rfl<|ah (iX (.r rfl) (.r rfl)) rfl<|VO.a rfl<|VO.n<|ay rfl (fun h9=>?_) (fun h9=>?_))
  ·
   refine VC.q (VO.a rfl<|VO.n<|aP (VE.mB (VE.cJ (VE.s rfl rfl (fun w hw=>?_)))))
   refine⟨congrArg (fun z=>cW (.int .i64 z)) ?_,hw.nil⟩
   unfold BI
   first |rw[if_pos h5]|rw[if_neg h5,if_pos h9]|rw[if_neg h5,if_neg h9]
  ·
   refine aC (bB (ag<|VC.q (VO.a rfl<|VO.n<|aP (VE.s rfl rfl (fun w hw=>?_)))))
   refine⟨congrArg (fun z=>cW (.int .i64 z)) ?_,hw.nil⟩
   unfold BI
   first |rw[if_pos h5]|rw[if_neg h5,if_pos h9]|rw[if_neg h5,if_neg h9]
theorem abl (m n:Mv) (w:World):
 Calls ae 140 #[Xg m,Xg n] w fun e w'=>e= .returned (.int .i64 (BI m.x n.x))∧St (bs w) [] w':=by
 refine enter (vs:=[_,_]) (env:=[(0,_),(1,_)]) Tryz.func140 rfl rfl rfl rfl ?_
 refine VC.q (aD rfl<|cf (C:=#[_,_]) rfl rfl fun b1=>aD rfl<|cf (C:=#[_,_]) rfl rfl fun b2=>VO.a rfl<|VO.n<|VC.q (VO.f (r:=0) GG rfl<|VO.c 1 O3 rfl rfl ⟨_,rfl⟩ rfl<|VO.f (r:=0) GG rfl<|VO.c 0 O3 rfl rfl ⟨_,rfl⟩ rfl<|ah (bD (xs:=[_,_]) (vs:=[_,_]) ai1 ⟨(.r rfl),(.r rfl),trivial⟩ (fun w2 _=>PS _ _ w2)) rfl<|VO.a rfl<|VO.n<|aP (VE.s rfl rfl (fun w hw=>?_))))
 exact⟨rfl,hw.nil⟩
theorem abx (m n:Mv) (w:World):
 Calls ae 142 #[Xg m,Xg n] w fun e w'=>e= .returned (.int .i64 (BI m.y n.y))∧St (bs w) [] w':=by
 refine enter (vs:=[_,_]) (env:=[(0,_),(1,_)]) Tryz.func142 rfl rfl rfl rfl ?_
 refine VC.q (aD rfl<|cf (C:=#[_,_]) rfl rfl fun b1=>aD rfl<|cf (C:=#[_,_]) rfl rfl fun b2=>VO.a rfl<|VO.n<|VC.q (VO.f (r:=1) Hd rfl<|VO.c 1 O3 rfl rfl ⟨_,rfl⟩ rfl<|VO.f (r:=1) Hd rfl<|VO.c 0 O3 rfl rfl ⟨_,rfl⟩ rfl<|ah (bD (xs:=[_,_]) (vs:=[_,_]) ai1 ⟨(.r rfl),(.r rfl),trivial⟩ (fun w2 _=>PS _ _ w2)) rfl<|VO.a rfl<|VO.n<|aP (VE.s rfl rfl (fun w hw=>?_))))
 exact⟨rfl,hw.nil⟩
theorem Fi (f:Mv→Int) (fq:FuncId) (l:List Mv) (p:Option Addr) (c:Nat) (w:World) (hl:RO 2 kD w p l) (hn:0<l.length) (hn2:l.length≤1000) (hf:ef ae fq) (hq:∀{L:List cq} (w2:World) (m n:Mv),St (bs w) L w2→Calls ae fq #[Xg m,Xg n] w2 fun e w'=>e= .returned (.int .i64 (BI (f m) (f n)))∧St (bs w2) [] w'):
 Calls ae 143 #[.slice p l.length c,.func (.func fq) #[] #[]] w fun e w'=>∃m:Mv,(m∈l∧∀i x,i<l.length→l[i]? =some x→f m≤f x)∧e= .returned (Xg m)∧St (bs w) [] w':=by
 obtain⟨m0,h0x⟩:=gE (l:=l) (n:=0) (by omega)
 refine enter (vs:=[_,_]) (env:=[(0,_),(1,_)]) Tryz.func143 rfl rfl rfl rfl ?_
 refine VC.q (aD rfl<|bI (C:=#[_,_]) Ra rfl fun b1=>VO.n<|ak<|VC.q (VO.m rfl<|ah (bW wx (.r rfl) rfl) rfl<|VO.t rfl<|VO.n ?_))
 refine ay rfl (fun h9=>?_) (fun h9=>?_)
 · (exfalso;omega)
 ·
  refine aC (ag<|VC.q (VO.m rfl<|ah (cw wx xn hl.sm (.r rfl) (.r rfl) (j:=0) rfl (by omega)) rfl<|ah (aM (vs:=[_,_]) xH (.r rfl) (fun w hw=>bq (off:=0) ((fun w3 h3=>gB (hl.keep w3 h3) h0x) w hw) ⟨_,rfl⟩) rfl) rfl<|aD rfl<|bI (C:=#[_,_]) Ra rfl fun b2=>bU<|bl 0 (vs:=[_,_]) (C':=[_,_]) (L':=[_,_]) xn rfl rfl rfl rfl rfl rfl rfl rfl<|VO.n<|ak<|VC.q (VO.a rfl<|aI ?_)))
  refine ag<|aG<|bY (α:=Nat×Mv) 1 (fun gx=>[(6,.int .i64 (gx.1:Nat))]) [(0,_),(1,_),(4,_),(5,_)] (fun gx=>[de b2 (.cells #[.int .i64 gx.2.x,.int .i64 gx.2.y] 210)]) (fun gx=>(1≤gx.1∧gx.1≤l.length)∧gx.2∈l∧∀k y,k<gx.1→l[k]? =some y→f gx.2≤f y) (fun gx=>l.length-gx.1) (1,m0) (by exact⟨⟨bA _,hn⟩,al h0x,aa4 (P:=fun _ y=>f m0≤f y) h0x (dx _)⟩) (.c4 rfl rfl rfl rfl (.cons rfl .nil)) (fun _ h=>h) ?_
  rintro ⟨i,m⟩ ⟨hi,hm,hz⟩
  show VC _ _ _ _ _ ([(6,.int .i64 (i:Nat))]++_) ([de b2 (.cells #[.int .i64 m.x,.int .i64 m.y] 210)]++_) _ _
  dsimp only at hi hm hz
  refine ak<|VC.q (VO.m rfl<|VO.m rfl<|ah (bW wx (.r rfl) rfl) rfl<|VO.t rfl<|VO.n<|ay rfl (fun h17=>?_) (fun h17=>?_))
  ·
   obtain⟨x,hx⟩:=gE (l:=l) (n:=i) (by omega)
   refine aC (ag<|ak<|aG<|ak<|eH mixed (LL.m rfl<|LL.m rfl<|LL.m rfl<|aV (cw wx xn hl.sm (.r rfl) (.r rfl) rfl (by omega)) rfl<|aV (aM (vs:=[_,_]) xH (.r rfl) (fun w hw=>bq (off:=0) ((fun w3 h3=>gB (hl.keep w3 h3) hx) w hw) ⟨_,rfl⟩) rfl) rfl<|aV (aM (vs:=[_,_]) xH (.r rfl) (ax 0 rfl ⟨_,rfl⟩) rfl) rfl<|aV (LO.wN (first:=[]) (cap:=[]) (xs:=[_,_]) (vs:=[_,_]) (.r rfl) hf ⟨.r rfl,.r rfl,trivial⟩ (fun w2 hw2=>hq w2 x m hw2)) rfl<|aV (LO.lt (.r rfl) (.r rfl)) rfl<|ft) (by kernel_rfl)<|ag<|ay rfl (fun h27=>?_) (fun h27=>?_))
   ·
    refine aF (VO.m rfl<|VO.m rfl<|ah (cw wx xn hl.sm (.r rfl) (.r rfl) rfl (by omega)) rfl<|ah (aM (vs:=[_,_]) xH (.r rfl) (fun w hw=>bq (off:=0) ((fun w3 h3=>gB (hl.keep w3 h3) hx) w hw) ⟨_,rfl⟩) rfl) rfl<|bU<|bl 0 (vs:=[_,_]) (C':=[_,_]) (L':=[_,_]) xn rfl rfl rfl rfl rfl rfl rfl rfl<|aI<|bB (ag<|aF (VO.m rfl<|VO.p rfl rfl (by omega) (by omega) rfl<|VO.a rfl<|aI<|bn fun a w ha hw=>⟨(i+1,x),⟨by dsimp only;omega,al hx,Hc (P:=fun _ y=>f x≤f y) (fun k y hk hy=>by have:=hz k y hk hy;have:=VH.1 h27;omega) hx (dx _)⟩,(by dsimp only;omega),ha.sub (.c4 rfl rfl rfl rfl (.cons rfl .nil)),hw⟩)))
   ·
    refine aC (bB (ag<|aF (VO.m rfl<|VO.p rfl rfl (by omega) (by omega) rfl<|VO.a rfl<|aI<|bn fun a w ha hw=>⟨(i+1,m),⟨by dsimp only;omega,hm,Hc (P:=fun _ y=>f m≤f y) hz hx (Int.not_lt.1 fun z=>h27 (VH.2 z))⟩,(by dsimp only;omega),ha.sub (.c4 rfl rfl rfl rfl (.cons rfl .nil)),hw⟩)))
  ·
   refine ca (aL (aL (cD (ag<|VC.q (ah (aM (vs:=[_,_]) xH (.r rfl) (ax 0 rfl ⟨_,rfl⟩) rfl) rfl<|bU<|bl 1 (vs:=[_,_]) (C':=[_,_]) (L':=[_,_]) xn rfl rfl rfl rfl rfl rfl rfl rfl<|VO.n<|aP (dh (vs:=[_]) rfl ⟨iA (vs:=[_,_]) xH rfl (ax 1 rfl ⟨_,rfl⟩) rfl,trivial⟩ (fun w hw=>?_)))))))
   exact⟨m,⟨hm,fun k y hk hy=>hz k y (by omega) hy⟩,rfl,hw.nil⟩
theorem E8 (f:Mv→Int) (fq:FuncId) (l:List Mv) (p:Option Addr) (c:Nat) (w:World) (hl:RO 2 kD w p l) (hn:0<l.length) (hn2:l.length≤1000) (hf:ef ae fq) (hq:∀{L:List cq} (w2:World) (m n:Mv),St (bs w) L w2→Calls ae fq #[Xg m,Xg n] w2 fun e w'=>e= .returned (.int .i64 (BI (f m) (f n)))∧St (bs w2) [] w'):
 Calls ae 144 #[.slice p l.length c,.func (.func fq) #[] #[]] w fun e w'=>∃m:Mv,(m∈l∧∀i x,i<l.length→l[i]? =some x→f x≤f m)∧e= .returned (Xg m)∧St (bs w) [] w':=by
 obtain⟨m0,h0x⟩:=gE (l:=l) (n:=0) (by omega)
 refine enter (vs:=[_,_]) (env:=[(0,_),(1,_)]) Tryz.func144 rfl rfl rfl rfl ?_
 refine VC.q (aD rfl<|bI (C:=#[_,_]) Ra rfl fun b1=>VO.n<|ak<|VC.q (VO.m rfl<|ah (bW wx (.r rfl) rfl) rfl<|VO.t rfl<|VO.n ?_))
 refine ay rfl (fun h9=>?_) (fun h9=>?_)
 · (exfalso;omega)
 ·
  refine aC (ag<|VC.q (VO.m rfl<|ah (cw wx xn hl.sm (.r rfl) (.r rfl) (j:=0) rfl (by omega)) rfl<|ah (aM (vs:=[_,_]) xH (.r rfl) (fun w hw=>bq (off:=0) ((fun w3 h3=>gB (hl.keep w3 h3) h0x) w hw) ⟨_,rfl⟩) rfl) rfl<|aD rfl<|bI (C:=#[_,_]) Ra rfl fun b2=>bU<|bl 0 (vs:=[_,_]) (C':=[_,_]) (L':=[_,_]) xn rfl rfl rfl rfl rfl rfl rfl rfl<|VO.n<|ak<|VC.q (VO.a rfl<|aI ?_)))
  refine ag<|aG<|bY (α:=Nat×Mv) 1 (fun gx=>[(6,.int .i64 (gx.1:Nat))]) [(0,_),(1,_),(4,_),(5,_)] (fun gx=>[de b2 (.cells #[.int .i64 gx.2.x,.int .i64 gx.2.y] 210)]) (fun gx=>(1≤gx.1∧gx.1≤l.length)∧gx.2∈l∧∀k y,k<gx.1→l[k]? =some y→f y≤f gx.2) (fun gx=>l.length-gx.1) (1,m0) (by exact⟨⟨bA _,hn⟩,al h0x,aa4 (P:=fun _ y=>f y≤f m0) h0x (dx _)⟩) (.c4 rfl rfl rfl rfl (.cons rfl .nil)) (fun _ h=>h) ?_
  rintro ⟨i,m⟩ ⟨hi,hm,hz⟩
  show VC _ _ _ _ _ ([(6,.int .i64 (i:Nat))]++_) ([de b2 (.cells #[.int .i64 m.x,.int .i64 m.y] 210)]++_) _ _
  dsimp only at hi hm hz
  refine ak<|VC.q (VO.m rfl<|VO.m rfl<|ah (bW wx (.r rfl) rfl) rfl<|VO.t rfl<|VO.n<|ay rfl (fun h17=>?_) (fun h17=>?_))
  ·
   obtain⟨x,hx⟩:=gE (l:=l) (n:=i) (by omega)
   refine aC (ag<|ak<|aG<|ak<|eH mixed (LL.m rfl<|LL.m rfl<|LL.m rfl<|aV (cw wx xn hl.sm (.r rfl) (.r rfl) rfl (by omega)) rfl<|aV (aM (vs:=[_,_]) xH (.r rfl) (fun w hw=>bq (off:=0) ((fun w3 h3=>gB (hl.keep w3 h3) hx) w hw) ⟨_,rfl⟩) rfl) rfl<|aV (aM (vs:=[_,_]) xH (.r rfl) (ax 0 rfl ⟨_,rfl⟩) rfl) rfl<|aV (LO.wN (first:=[]) (cap:=[]) (xs:=[_,_]) (vs:=[_,_]) (.r rfl) hf ⟨.r rfl,.r rfl,trivial⟩ (fun w2 hw2=>hq w2 x m hw2)) rfl<|aV (iX (.r rfl) (.r rfl)) rfl<|ft) (by kernel_rfl)<|ag<|ay rfl (fun h27=>?_) (fun h27=>?_))
   ·
    refine aF (VO.m rfl<|VO.m rfl<|ah (cw wx xn hl.sm (.r rfl) (.r rfl) rfl (by omega)) rfl<|ah (aM (vs:=[_,_]) xH (.r rfl) (fun w hw=>bq (off:=0) ((fun w3 h3=>gB (hl.keep w3 h3) hx) w hw) ⟨_,rfl⟩) rfl) rfl<|bU<|bl 0 (vs:=[_,_]) (C':=[_,_]) (L':=[_,_]) xn rfl rfl rfl rfl rfl rfl rfl rfl<|aI<|bB (ag<|aF (VO.m rfl<|VO.p rfl rfl (by omega) (by omega) rfl<|VO.a rfl<|aI<|bn fun a w ha hw=>⟨(i+1,x),⟨by dsimp only;omega,al hx,Hc (P:=fun _ y=>f y≤f x) (fun k y hk hy=>by have:=hz k y hk hy;have:=Ui.1 h27;omega) hx (dx _)⟩,(by dsimp only;omega),ha.sub (.c4 rfl rfl rfl rfl (.cons rfl .nil)),hw⟩)))
   ·
    refine aC (bB (ag<|aF (VO.m rfl<|VO.p rfl rfl (by omega) (by omega) rfl<|VO.a rfl<|aI<|bn fun a w ha hw=>⟨(i+1,m),⟨by dsimp only;omega,hm,Hc (P:=fun _ y=>f y≤f m) hz hx (Int.not_lt.1 fun z=>h27 (Ui.2 z))⟩,(by dsimp only;omega),ha.sub (.c4 rfl rfl rfl rfl (.cons rfl .nil)),hw⟩)))
  ·
   refine ca (aL (aL (cD (ag<|VC.q (ah (aM (vs:=[_,_]) xH (.r rfl) (ax 0 rfl ⟨_,rfl⟩) rfl) rfl<|bU<|bl 1 (vs:=[_,_]) (C':=[_,_]) (L':=[_,_]) xn rfl rfl rfl rfl rfl rfl rfl rfl<|VO.n<|aP (dh (vs:=[_]) rfl ⟨iA (vs:=[_,_]) xH rfl (ax 1 rfl ⟨_,rfl⟩) rfl,trivial⟩ (fun w hw=>?_)))))))
   exact⟨m,⟨hm,fun k y hk hy=>hz k y (by omega) hy⟩,rfl,hw.nil⟩
theorem acV (l:List Mv) (p:Option Addr) (c:Nat) (w:World) (hl:RO 2 kD w p l) (hn:l.length≤1000):
 Calls ae 67 #[.slice p l.length c] w fun e w'=>e= .returned (Vu l)∧St (bs w) [] w':=by
 refine enter (vs:=[_]) (env:=[(0,_)]) Tryz.func67 rfl rfl rfl rfl ?_
 refine VC.q (aD rfl<|bI (C:=#[_,_]) IT rfl fun b1=>aD rfl<|bI (C:=#[_,_]) IT rfl fun b2=>VO.a rfl<|VO.n<|ak<|VC.q (VO.m rfl<|ah (bW wx (.r rfl) rfl) rfl<|ah (fN (.r rfl) (.r rfl)) rfl<|VO.n ?_))
 refine ay rfl (fun h9=>?_) (fun h9=>?_)
 ·
  refine VC.q (ah (dC (ps:=[]) (vs:=[]) (C:=[_,_]) EE trivial rfl rfl) rfl<|ah (dC (ps:=[]) (vs:=[]) (C:=[_,_]) EE trivial rfl rfl) rfl<|bU<|bl 1 (vs:=[_,_]) (C':=[_,_]) (L':=[_,_]) sC rfl rfl rfl rfl rfl rfl rfl rfl<|bU<|bl 0 (vs:=[_,_]) (C':=[_,_]) (L':=[_,_]) sC rfl rfl rfl rfl rfl rfl rfl rfl<|VO.a rfl<|VO.n<|aP (VE.cJ (dh (vs:=[_,_,_]) rfl ⟨iA (vs:=[_,_]) xb rfl (ax 1 rfl ⟨_,rfl⟩) rfl,iA (vs:=[_,_]) xb rfl (ax 0 rfl ⟨_,rfl⟩) rfl,rfl,trivial⟩ (fun w hw=>?_))))
  have hz:=Vt h9
  subst hz
  exact⟨rfl,hw.nil⟩
 ·
  refine aC (ag<|VC.q (VO.a rfl<|VO.n<|VC.q (VO.a rfl<|VO.n ?_)))
  refine VC.q (VO.m rfl<|VO.m rfl<|aD rfl<|cz (xs:=[_,_]) (vs:=[_,_]) ain ⟨(.r rfl),(.r rfl),trivial⟩ (fun w2 hw=>Fi oS 140 l p c w2 (hl.keep w2 hw) (by omega) hn agU (fun w3 m n h3=>abl m n w3)) fun m1 hm1=>aD rfl<|aO (LO.fd1 (F:=_) jc rfl rfl O3 (.r rfl) rfl)<|VO.m rfl<|VO.m rfl<|aD rfl<|cz (xs:=[_,_]) (vs:=[_,_]) ai4 ⟨(.r rfl),(.r rfl),trivial⟩ (fun w2 hw=>E8 oS 140 l p c w2 (hl.keep w2 hw) (by omega) hn agU (fun w3 m n h3=>abl m n w3)) fun m2 hm2=>aD rfl<|aO (LO.fd1 (F:=_) jc rfl rfl O3 (.r rfl) rfl)<|aD rfl<|aO (dC (ps:=[(_,_),(_,_)]) (vs:=[(_,_),(_,_)]) (C:=[_,_]) EE ⟨(.r rfl),(.r rfl),trivial⟩ rfl ⟨_,[_],[_,_],rfl,rfl,rfl,rfl,⟨_,[_],[_,_],rfl,rfl,rfl,rfl,rfl⟩⟩)<|bU<|bl 1 (vs:=[_,_]) (C':=[_,_]) (L':=[_,_]) sC rfl rfl rfl rfl rfl rfl rfl rfl<|VO.n<|VC.q (VO.m rfl<|VO.m rfl<|aD rfl<|cz (xs:=[_,_]) (vs:=[_,_]) ain ⟨(.r rfl),(.r rfl),trivial⟩ (fun w2 hw=>Fi oT 142 l p c w2 (hl.keep w2 hw) (by omega) hn ai6 (fun w3 m n h3=>abx m n w3)) fun m3 hm3=>aD rfl<|aO (LO.fd1 (F:=_) jc rfl rfl O3 (.r rfl) rfl)<|VO.m rfl<|VO.m rfl<|aD rfl<|cz (xs:=[_,_]) (vs:=[_,_]) ai4 ⟨(.r rfl),(.r rfl),trivial⟩ (fun w2 hw=>E8 oT 142 l p c w2 (hl.keep w2 hw) (by omega) hn ai6 (fun w3 m n h3=>abx m n w3)) fun m4 hm4=>aD rfl<|aO (LO.fd1 (F:=_) jc rfl rfl O3 (.r rfl) rfl)<|aD rfl<|aO (dC (ps:=[(_,_),(_,_)]) (vs:=[(_,_),(_,_)]) (C:=[_,_]) EE ⟨(.r rfl),(.r rfl),trivial⟩ rfl ⟨_,[_],[_,_],rfl,rfl,rfl,rfl,⟨_,[_],[_,_],rfl,rfl,rfl,rfl,rfl⟩⟩)<|bU<|bl 0 (vs:=[_,_]) (C':=[_,_]) (L':=[_,_]) sC rfl rfl rfl rfl rfl rfl rfl rfl<|VO.n<|ak ?_))
  refine VC.gu [[0,1],[0],[]] [some 0,some 1,none,none,some 2] mixed (by kernel_rfl) rfl (aA (fun _ hJ=>aM (vs:=[_,_]) xb (.r rfl) (fun _ hw=>aX (hJ _ hw) 1 rfl ⟨_,rfl⟩) rfl) rfl<|aA (fun _ hJ=>aM (vs:=[_,_]) xb (.r rfl) (fun _ hw=>aX (hJ _ hw) 0 rfl ⟨_,rfl⟩) rfl) rfl<|cn<|cn<|aA (fun _ hJ=>LO.as (.r rfl)) rfl<|dw) (au<|au<|HX.h0<|bl 1 (vs:=[_,_]) (C':=[_,_]) (L':=[_,_]) sC rfl rfl rfl rfl rfl rfl rfl rfl<|⟨fun _ hw=>hw.fO [0] rfl,HX.h0<|bl 0 (vs:=[_,_]) (C':=[_,_]) (L':=[_,_]) sC rfl rfl rfl rfl rfl rfl rfl rfl<|⟨fun _ hw=>hw.fO [] rfl,au<|HX.nil ?_⟩⟩)
  refine ag<|aP (dh (vs:=[_,_,_]) rfl ⟨iA (vs:=[_,_]) xb rfl (ax 1 rfl ⟨_,rfl⟩) rfl,iA (vs:=[_,_]) xb rfl (ax 0 rfl ⟨_,rfl⟩) rfl,rfl,trivial⟩ (fun w hw=>?_))
  refine⟨?_,hw.nil⟩
  show cW _=cW (Vu l)
  unfold Vu
  rw[←abV hm1.1 hm1.2, ←abm hm2.1 hm2.2, ←abV hm3.1 hm3.2, ←abm hm4.1 hm4.2,UR h9]
  rfl
theorem C25:ef ae 25:=⟨_,Tryz.func25,by decide,rfl⟩
theorem C67:ef ae 67:=⟨_,Tryz.func67,by decide,rfl⟩
theorem C69:ef ae 69:=⟨_,Tryz.func69,by decide,rfl⟩
structure LD (x:mj) (h:qt) (n:Nat) (s:rk) (XA:List cq):Prop where
 eq:h=⟨gw x,5,2,h.bm⟩
 b:PC x h.bm n s XA
section
variable {x:mj} {h:qt} {n:Nat} {s:rk} {XA:List cq}
theorem LD.P (k:LD x h n s XA):BjP h 2 n s (LJ x n):=by rw[k.eq];exact k.b.P
theorem LD.tm (k:LD x h n s XA) (hn:n≤1):oU h s.la n ((n:Int)*(iH x:Int)) (gw x) (fG x n)=0:=by rw[k.eq];exact k.b.tm hn
theorem LD.add {y:AjY} (k:LD x h n s XA) (hn:n≤1) (hy:AjP h 2 n ((n:Int)*(iH x:Int)) (gw x) (fG x n) s (LJ x n) y):LD x h (n+1) y.s (XA++y.X):=by
 have e:=k.eq
 refine⟨e,k.b.add hn ?_⟩
 rw[e]at hy;exact hy
theorem LD.xa (k:LD x h n s XA) (w:World) (hX:∀r,r∈XA→r.inv w) (m:Nat) (y:qZ) (hy:s.ys[m]? =some y):Ex w y (pF (gW h.g) (gH h.g) (ga ((LJ x n).getD m []) h.lv)):=by
 have e:=k.eq
 rw[e];exact k.b.xa w hX m y hy
theorem LD.zero (x:mj) (bm:Nat):LD x ⟨gw x,5,2,bm⟩ 0 (bk0 ⟨gw x,5,2,bm⟩) []:=⟨rfl,PC.zero x bm⟩
theorem LD.lv (k:LD x h n s XA):1≤h.lv∧h.lv≤1073741824:=by rw[k.eq];exact⟨show(1:Int)≤5 by decide,show(5:Int)≤1073741824 by decide⟩
end
theorem zZ {β:Bs} {X XA L:List cq} {w:World} (h:St β (bS X::bS XA::L) w):St β (bS (XA++X)::L) w:=St.aez (St.uQ h)
theorem TP (b:Nat) (h:qt) (s:rk) (w:World) (hI:ML w b h s) (htb:∀t,t∈s.tk→TkB t) (hl:s.tk.length≤1000000):
 Calls ae 64 #[.pointer (some ⟨b,0,none⟩)] w fun e w'=>∃y:RY,y.tk.map dA.m=s.tk.map dA.m∧e= .returned (.slice y.p y.tk.length y.c)∧St (bs w) [bS y.R] w':=
 (RM b h s.la ⟨s.pm,s.ys.length,s.cm⟩ s.pt s.ct s.kd s.tk w hI.c hI.tk hI.ti htb hl).mono fun e w' ⟨y,h1,h2,h3⟩=>⟨y,h1,h2,fH (Rs:=y.R) (L:=[]) (by rw[c9];exact h3)⟩
theorem aey {w:World} {y:RY} (k:∀r,r∈y.R→r.inv w):RO 6 dA.cells w y.p y.tk:=jT (k (own 204 6 y.p y.c (y.tk.map dA.cells)) (by unfold RY.R;simp))
theorem alB (b:Nat) (h:qt) (s:rk) (i k:Nat) (w:World) (hI:ML w b h s) (hof:s.of (1,i)=some k):Calls ae 65 #[.pointer (some ⟨b,0,none⟩),.int .i64 1,.int .i64 (i:Int)] w fun e w'=>e= .returned (.tuple #[.int .i64 (k:Int),.int .i64 0])∧St (bs w) [] w':=by
 have z:=ai9 b h s.la ⟨s.pm,s.ys.length,s.cm⟩ s.pt s.ct s.kd s.tk w hI.c s.of hI.of ((1:Nat):Int) (i:Int)
 rw[Ca,hof]at z
 exact z
theorem Z6 {β:Bs} {A r:cq} {w:World} (h:St β [A,Xb [r]] w):St β [A,r] w:=by
 refine Fy h.os h.tape h.output h.size h.fr (fun q hq=>?_) (fun q hq k hk=>?_) ?_
 ·rcases cA.1 hq with e|e
  ·rw[e];exact h.inv 0 A rfl
  ·rw[bT.1 e];exact h.inv 1 _ rfl r (bT.2 rfl)
 ·rcases cA.1 hq with e|e
  ·rw[e]at hk;exact h.pM 0 A rfl k hk
  ·rw[bT.1 e]at hk;exact h.pM 1 _ rfl k ⟨r,bT.2 rfl,hk⟩
 ·refine fL.2 ⟨fun q hq=>?_,fL.2 ⟨fun q hq=>(by cases hq),wj⟩⟩
  rw[bT.1 hq]
  exact fun k hk hr=>h.wG 0 1 A _ (by decide) rfl rfl k hk ⟨r,bT.2 rfl,hr⟩
structure S1Y where
 p:Option Addr
 c:Nat
 r:eB Mv
theorem Y4 (x:mj) (b:Nat) (h:qt) (s:rk) (XA:List cq) (i k a:Nat) (t:jf) (w:World) (hI:ML w b h s) (hW:BkW w h s (LJ x 2)) (hC:LD x h 2 s XA) (hT:MrT x s i k t) (hf:t.fr=0) (ha:t.ar=[a,i]):
  Calls ae 66 #[.pointer (some ⟨b,0,none⟩),.int .i64 (k:Int)] w fun e w'=>∃y:S1Y,y.r.l=jy (gw x) (fG x 0) (fG x 1) 5 a i 2∧e= .returned (.tuple #[.slice y.p 1 y.c,.int .i64 0])∧St (bs w) [own 208 1 y.p y.c ([y.r].map sw),own 210 2 y.r.p y.r.c (y.r.l.map kD)] w':=by
 have hk:k<(s.tk.map dA.m).length:=(aj.1 hT.tt).1
 refine(ZT b h s (LJ x 2) 2 (s.tk.map dA.m) (hC.P.bk (by decide)) (k:Int) w hI hW hC.P.A).mono fun e w' ⟨y,h1,h2,h3⟩=>?_
 have eT:(s.tk.map dA.m).getD k zT=t:=by rw[av,hT.tt];rfl
 rw[abn hk,eT,ha]at h1
 have h1':y.rs.map fZ=[jy (gw x) (fG x 0) (fG x 1) 5 a i 2]:=by
  rw[h1]
  show[Rv h 2 (LJ x 2) t 0]=_
  unfold Rv
  rw[hf,ha,hC.eq]
  rfl
 obtain⟨r,hq⟩:∃r,y.rs=[r]:=List.length_eq_one_iff.1 (by have z:=congrArg fT h1';rwa [aq]at z)
 rw[hq]at h1'
 have hr:r.l=jy (gw x) (fG x 0) (fG x 1) 5 a i 2:=by simpa using h1'
 refine⟨⟨y.p,y.c,r⟩,hr,?_,?_⟩
 ·rw[h2,hq,abt (by omega)];rfl
 ·rw[hq]at h3
  exact Z6 h3
structure McY where
 l:List CP
 p:Option Addr
 c:Nat
 R:List cq
 s:rk
structure McP (x:mj) (y:McY):Prop where
 n:y.l.length=Ha x 1
 rd:∀w:World,(∀r,r∈y.R→r.inv w)→∀q,q∈y.l→Ints w q.ps q.c.sure∧Ints w q.pm q.c.may
 ln:∀q,q∈y.l→q.c.sure.length≤4096∧q.c.may.length≤4096
 bk:∃bm XA,PC x bm 2 y.s XA
 cl:∀i q,y.l[i]? =some q→XT x y.s i q.c
theorem O6 {g:cU} {v1 v2:List Span} {lv:Int} {i j:Nat}:(jy g v1 v2 lv i j 2).length≤25:=by
 unfold jy tL lz
 refine Nat.le_trans (cH _ _) ?_
 rw[aq,kF]
 decide
theorem Vq {x1 x2 y1 y2:Int} (x:mj) (ha: -2≤x1∧x1≤x2∧x2≤2) (hb: -2≤y1∧y1≤y2∧y2≤2):Az x1 x2 y1 y2 (iH x:Int) 0=0∧Ap x1 x2 y1 y2 (iH x:Int) 0=uR x1 x2 y1 y2 (iH x:Int) 0:=by
 have hT:=qk x
 have h1:pV x1 x2 y1 y2 (iH x:Int) 0:=by unfold pV;omega
 have h2:im (uR x1 x2 y1 y2 (iH x:Int) 0):=⟨B1 (by omega) ha.1 ha.2.1 ha.2.2,B1 (by omega) hb.1 hb.2.1 hb.2.2⟩
 have h3:Az x1 x2 y1 y2 (iH x:Int) 0=0:=by unfold Az;rw[if_neg (fun z=>z h1),if_neg (fun z=>z h2)]
 exact⟨h3,by unfold Ap;rw[if_pos h3]⟩
def qM (l:List Nat):List Int:=l.map jB
def XJ (r:eB Nat):eB Int:=⟨r.p,r.c,qM r.l⟩
theorem C6 {rs:List (eB Nat)}:u6 (rs.map XJ)=qM (rs.map fZ).flatten:=by
 unfold u6 qM
 rw[dG,List.map_flatten,dG]
 rfl
theorem adw {w:World} {p:Option Addr} {rs:List (eB Nat)} (h:RR 1 nC w p rs):PD w p (rs.map XJ):=by
 refine⟨?_,fun r hr=>?_⟩
 ·have z:=h.1
  unfold RO at z ⊢
  have e:(rs.map XJ).map sw=rs.map sw:=by
   rw[dG]
   refine fU fun r _=>?_
   show[mn r.p (qM r.l).length r.c]=[mn r.p r.l.length r.c]
   unfold qM;rw[aq]
  rw[e];exact z
 ·obtain⟨r0,h0,rfl⟩:=bQ.1 hr
  obtain⟨h1,h2⟩:=h.2 r0 h0
  refine⟨?_,?_⟩
  ·show(qM r0.l).length≤r0.c
   unfold qM;rw[aq];exact h1
  ·unfold RO at h2 ⊢
   have e:(XJ r0).l.map lT=r0.l.map nC:=by
    show(qM r0.l).map lT=_
    unfold qM
    rw[dG];rfl
   rw[e];exact h2
theorem adG {w:World} {p:Option Addr} {l:List Nat} (h:RO 1 nC w p l):Ints w p (qM l):=by
 unfold RO at h
 unfold Ints qM
 rw[dG]
 exact h
theorem Zs (g:cU) (a:eC) (f:Au) (w:World) (hp:a.px.l.length≤64) (hk:a.kr.length≤64) (hkb:∀r,r∈a.kr→r.l.length≤64) (hkv:∀r,r∈a.kr→∀n,n∈r.l→n≤4096) (hpx:RO 1 nC w a.px.p a.px.l) (hkr:RR 1 nC w a.kp a.kr) (hok:∀s,qF (fW (qM (a.kr.map fZ).flatten)) s→fy g ⟨s,qM a.px.l,f,0⟩=0):
  Calls ae 69 #[uk g,.agg #[.slice a.px.p a.px.l.length a.px.c,.slice a.kp a.kr.length a.kc,.int .i64 a.s.xl,.int .i64 a.s.xh,.int .i64 a.s.yl,.int .i64 a.s.yh,.int .i64 a.s.sl,.int .i64 a.s.sh],uo f,.int .i64 0] w fun e w'=>∃y:OfX,(qF (fW (qM (a.kr.map fZ).flatten)) y.s∧y.s.length≤4096)∧e= .returned (.tuple #[.agg #[.slice y.ps y.s.length y.cs,.slice y.pm (qM a.px.l).length y.cm,.int .i64 f.a,.int .i64 f.b,.int .i64 f.c,.int .i64 f.d,.int .i64 0],.int .i64 0])∧St (bs w) [own 3 1 y.ps y.cs (y.s.map lT),own 3 1 y.pm y.cm ((qM a.px.l).map lT)] w':=by
 have hl1:(qM a.px.l).length=a.px.l.length:=by unfold qM;rw[aq]
 have hl2:(a.kr.map XJ).length=a.kr.length:=by rw[aq]
 have hb:∀r,r∈a.kr.map XJ→r.l.length≤64:=fun r hr=>by
  obtain⟨r0,h0,rfl⟩:=bQ.1 hr
  show(qM r0.l).length≤64
  unfold qM;rw[aq];exact hkb r0 h0
 have z:=ane g ⟨a.s.xl,a.s.xh,a.s.yl,a.s.yh,a.s.sl,a.s.sh⟩ (qM a.px.l) a.px.p a.px.c (a.kr.map XJ) a.kp a.kc f 0 w (by omega) (by omega) hb (fun n hn=>by
  rw[C6]at hn
  obtain⟨m,hm,rfl⟩:=bQ.1 hn
  obtain⟨l,hl,hml⟩:=nI.1 hm
  obtain⟨r0,h0,rfl⟩:=bQ.1 hl
  have:=hkv r0 h0 m hml
  have e:jB m=(m:Int):=rfl
  omega) (adG hpx) (adw hkr)
 rw[hl1,hl2,C6]at z
 refine z.mono fun e w' ⟨y,⟨h1,h2⟩,h3,h4⟩=>?_
 have hc:=hok y.s h1
 have e1:ui g ⟨y.s,qM a.px.l,f,0⟩=⟨y.s,qM a.px.l,f,0⟩:=if_pos hc
 rw[e1]at h3 h4
 rw[hc]at h3
 have h5:(u6 (a.kr.map XJ)).length≤64*(a.kr.map XJ).length:=Il hb
 rw[C6]at h5
 exact⟨y,⟨h1,by omega⟩,h3,h4⟩
structure ClI (x:mj) (s:rk) (i:Nat) (cl:List CP) (YC:List cq):Prop where
 n:cl.length=i
 cr:∀(j:Nat) (q:CP),cl[j]? =some q→XT x s j q.c
 rd:∀w:World,(∀r,r∈YC→r.inv w)→∀q:CP,q∈cl→Ints w q.ps q.c.sure∧Ints w q.pm q.c.may
 ln:∀q:CP,q∈cl→q.c.sure.length≤4096∧q.c.may.length≤4096
theorem ClI.zero (x:mj) (s:rk):ClI x s 0 [] []:=⟨rfl,fun j q h=>(by cases h),fun w _ q h=>(by cases h),fun q h=>(by cases h)⟩
theorem ClI.add {x:mj} {s:rk} {i:Nat} {cl:List CP} {YC:List cq} {q:CP} (h:ClI x s i cl YC) (hq:XT x s i q.c) (hl:q.c.sure.length≤4096∧q.c.may.length≤4096):ClI x s (i+1) (cl++[q]) (YC++[own 3 1 q.ps q.cs (q.c.sure.map lT),own 3 1 q.pm q.cm (q.c.may.map lT)]) where
 n:=by rw[aZ,h.n];rfl
 cr:=fun j r hr=>by
  by_cases e:j<cl.length
  ·rw[List.getElem?_append_left e]at hr;exact h.cr j r hr
  ·have hj:=(aj.1 hr).1
   rw[aZ,List.length_singleton]at hj
   have e2:j=cl.length:=by omega
   subst e2
   rw[List.getElem?_append_right (bA _),Nat.sub_self]at hr
   cases hr
   rw[h.n];exact hq
 rd:=fun w k r hr=>by
  rcases bZ.1 hr with z|z
  ·exact h.rd w (fun u hu=>k u (List.mem_append_left _ hu)) r z
  ·rw[bT.1 z]
   exact⟨eI (k _ (eX _ (gI ..))),eI (k _ (eX _ (gd _ (gI ..))))⟩
 ln:=fun r hr=>by
  rcases bZ.1 hr with z|z
  ·exact h.ln r z
  ·rw[bT.1 z];exact hl
theorem UD {x:mj} {i:Nat} {l:List eC} {a:eC} (hl:l.map eC.m=mq (gW (gw x)) (gH (gw x)) (fG x 1) 5) (ha:l[i]? =some a):
  (pxL x)[i]? =some a.px.l∧(a.kr.map fZ)=vl (gW (gw x)) (gH (gw x)) (fG x 1) 5 i∧a.px.l.length≤64∧a.kr.length≤64∧(∀r,r∈a.kr→r.l.length≤64)∧∀r,r∈a.kr→∀n,n∈r.l→n≤4096:=by
 have h1:(mq (gW (gw x)) (gH (gw x)) (fG x 1) 5)[i]? =some a.m:=by rw[←hl,aw,ha];rfl
 have hks:(a.kr.map fZ)=vl (gW (gw x)) (gH (gw x)) (fG x 1) 5 i:=by unfold vl;rw[h1];rfl
 have h64:gW (gw x)*gH (gw x)≤64:=by rw[Fv];exact rS x
 have h2:=h1
 unfold mq at h2
 rw[aw]at h2
 obtain⟨p0,h3,h4⟩:=j8.1 h2
 have h5:p0=a.px.l:=congrArg yA.px h4
 have h6:(eU (gW (gw x)) (gH (gw x)) (yf (fG x 1) 5)).filter (fun k=>decide (k.headD 0∈p0))=a.kr.map fZ:=congrArg yA.ks h4
 subst h5
 have hpl:=yL (al h3)
 have hkl:∀r,r∈a.kr→r.l∈eU (gW (gw x)) (gH (gw x)) (yf (fG x 1) 5):=fun r hr=>by
  have:r.l∈a.kr.map fZ:=bE hr
  rw[←h6]at this
  exact(List.mem_filter.1 this).1
 refine⟨h3,hks,by omega,?_,fun r hr=>by have:=yL (hkl r hr);omega,fun r hr n hn=>?_⟩
 ·have e1:a.kr.length=(a.kr.map fZ).length:=by rw[aq]
  rw[e1, ←h6]
  have e2:=lF (W:=gW (gw x)) (H:=gH (gw x)) (S:=yf (fG x 1) 5) (p:=gW (gw x)*gH (gw x))
  have e3:=cH (fun k=>decide (k.headD 0∈a.px.l)) (eU (gW (gw x)) (gH (gw x)) (yf (fG x 1) 5))
  unfold eU at e3 ⊢
  omega
 ·obtain⟨p1,hp1,hs1,e⟩:=kS (hkl r hr)
  rw[e]at hn
  have:=uW hp1 hn
  omega
theorem C8 (x:mj) (w:World) (hx:YB w x) (hk:MvK x):
 Calls ae 20 #[x.V] w fun e w'=>∃y:McY,McP x y∧e= .returned (.tuple #[.slice y.p y.l.length y.c,.bool true])∧St (bs w) [own 218 7 y.p y.c (y.l.map nk),bS y.R] w':=by
 obtain⟨hw1_,hw2_,hh1_,hh2_⟩:=sR x
 have hT:=qk x
 have hkx:=hk.xx
 have hky:=hk.yy
 obtain⟨hq1,hq2,hq3,hq4⟩:=Ig x
 refine enter (vs:=[_]) (env:=[(0,_)]) Tryz.func20 rfl rfl rfl rfl ?_
 refine VC.q (aD rfl<|cf (C:=#[_,_,_,_,_,_,_]) rfl rfl fun b1=>VO.a rfl<|VO.a rfl<|VO.n<|VC.q (ah (aM (vs:=[_,_,_,_,_,_,_]) F5 (.r rfl) (ax 0 rfl ⟨_,rfl⟩) rfl) rfl<|ah (bD (xs:=[_]) (vs:=[_]) C31 ⟨(.r rfl),trivial⟩ (fun w _=>vf x w hk)) rfl<|aD rfl<|bI (C:=#[_,_,_,_,_]) Z88 rfl fun b2=>bU<|bl 0 (vs:=[_,_,_,_,_]) (C':=[_,_,_,_,_]) (L':=[_,_]) N88 rfl rfl rfl rfl rfl rfl rfl rfl<|VO.n<|ak ?_))
 refine aF (ah (aM (vs:=[_,_,_,_,_]) vS (.r rfl) (ax 0 rfl ⟨_,rfl⟩) rfl) rfl<|aD rfl<|cz (xs:=[_,_,_]) (vs:=[_,_,_]) C62 ⟨(.r rfl),(.r rfl),(.r rfl),trivial⟩ (fun w2 _=>Re (gw x) 5 2 w2 Y8) fun yb _=>aD rfl<|aO (bJ (.r rfl))<|aD rfl<|aO (bN (.r rfl) rfl)<|aD rfl<|aO (bN (.r rfl) rfl)<|aD rfl<|aO (LO.as (.r rfl))<|aD rfl<|aO (LO.as (.r rfl))<|VO.n<|ak<|VC.q (VO.m rfl<|VO.u rfl<|VO.n<|ay rfl (fun h34=>?_) (fun h34=>?_)))
 · (exfalso;exact h34 rfl)
 ·
  obtain⟨h,hh⟩:∃h:qt,h=⟨gw x,5,2,yb.2⟩:=⟨_,rfl⟩
  rw[←hh]
  refine aC (ag<|ak<|VC.q (VO.a rfl<|VO.n<|aG<|bY (α:=Nat×rk×(List cq)) 1 (fun gx=>[(7,.int .i64 (gx.1:Nat))]) [(1,_),(4,_),(5,_)] (fun gx=>[bS (gx.2.1.F yb.1 h),bS gx.2.2]) (fun gx=>gx.1≤2∧LD x h gx.1 gx.2.1 gx.2.2) (fun gx=>2-gx.1) (0,(bk0 h),[]) (by exact⟨bG _,by rw[hh];exact LD.zero x yb.2⟩) (.c4 rfl rfl rfl rfl .nil) (fun _ h=>((fH (Rs:=[]) h)).fO [1,0,2,3] rfl) ?_))
  rintro ⟨k,s,XA⟩ ⟨hkk,hB⟩
  show VC _ _ _ _ _ ([(7,.int .i64 (k:Nat))]++_) ([bS (s.F yb.1 h),bS XA]++_) _ _
  dsimp only at hkk hB
  refine ak<|VC.q (VO.m rfl<|VO.t rfl<|VO.n<|ay rfl (fun h36=>?_) (fun h36=>?_))
  ·
   have hkt:0≤(k:Int)*(iH x:Int)∧(k:Int)*(iH x:Int)≤599:=by(have:k=0∨k=1:=by omega);rcases this with r|r<;>subst r<;>omega
   refine aC (ag<|ak<|aG<|ak<|VC.Z2 9 mixed (by kernel_rfl) (VA.gu [[0,1,2,3],[0,1,2,3],[1,2,3]] [some 1,some 1,some 0,some 0,some 1,some 0,some 0,none,none] (by kernel_rfl) rfl (LX.m rfl<|LX.m rfl<|aA (fun _ hJ=>aM (vs:=[_,_,_,_,_,_,_]) F5 (.r rfl) (fun _ hw=>aX (hJ _ hw) 3 rfl ⟨_,rfl⟩) rfl) rfl<|aA (fun _ hJ=>bD (xs:=[_]) (vs:=[_]) C22 ⟨(.r rfl),trivial⟩ (fun w _=>x7 x w hk)) rfl<|aA (fun _ hJ=>LO.mul (.r rfl) (.r rfl) (wi (by omega) (by omega))) rfl<|aA (fun _ hJ=>aM (vs:=[_,_,_,_,_,_,_]) F5 (.r rfl) (fun _ hw=>aX (hJ _ hw) 3 rfl ⟨_,rfl⟩) rfl) rfl<|LX.m rfl<|cn<|cn<|dw) (au<|au<|au<|au<|au<|au<|au<|HX.h rfl<|cz (xs:=[_,_]) (vs:=[_,_]) C25 ⟨(.r rfl),(.r rfl),trivial⟩ (fun w hw=>Cf x k w (hx.keep w hw) hk (by omega)) fun ym _=>⟨fun _ hw=>hw.fO [1,2,3,4] rfl,HX.h rfl<|HO.pS (first:=[]) (cap:=[]) (xs:=[_,_,_]) (vs:=[_,_,_]) [_] [_,_,_,_] (bM (L1:=[_]++[_,_,_,_]) [1,0,2,3,4] rfl rfl) (.r rfl) C63 ⟨(.r rfl),(.r rfl),(.r rfl),trivial⟩ (fun w hw hh=>aiP yb.1 h s (LJ x k) 2 k ((k:Int)*(iH x:Int)) (gw x) (fG x k) ym.p ym.c w hh (fun hs=>eI ((iB (l4 (R:=[bS (s.F yb.1 h)]) (rest:=[_,_,_,_]) (bM (L1:=[_,_,_,_,_]) [1,0,2,3,4] rfl rfl _ hw) hs)).inv 0 _ rfl)) (fun hs=>hB.xa _ ((iB (l4 (R:=[bS (s.F yb.1 h)]) (rest:=[_,_,_,_]) (bM (L1:=[_,_,_,_,_]) [1,0,2,3,4] rfl rfl _ hw) hs)).inv 1 _ rfl).1) hB.P (by omega) hB.lv (ML.mkF (hw.inv 1 _ rfl).1).c) fun ya hya=>⟨fun _ hw=>hw.fO [4,5,6] rfl,HX.nil (VE.any (VA.draw (LL.m rfl<|aV (bN (.r rfl) rfl) rfl<|aV (bN (.r rfl) rfl) rfl<|aV (LO.as (.r rfl)) rfl<|aV (LO.as (.r rfl)) rfl<|ft) (by kernel_rfl) ?_))⟩⟩)))
   refine ag<|VC.q (VO.m rfl<|VO.u rfl<|VO.n<|ay rfl (fun h52=>?_) (fun h52=>?_))
   · (exfalso;exact h52 (hB.tm (by omega)))
   ·
    refine aC (bB (ag<|aF (VO.m rfl<|VO.p rfl rfl (by omega) (by omega) rfl<|VO.a rfl<|aI<|bn fun a w ha hw=>⟨((k+1),ya.s,(XA++ya.X)),⟨by dsimp only;omega,hB.add (by omega) hya⟩,(by dsimp only;omega),ha.sub (.c4 rfl rfl rfl rfl .nil),(by dsimp only;exact bM (L1:=[_,_,_,_]) [1,0,2,3] rfl rfl _ (zZ (X:=ya.X) (XA:=XA) (bM (L1:=[bS ya.X,bS XA,_,_,_]) [1,4,0,5,6] rfl rfl _ hw)))⟩)))
  ·
   have hk2:k=2:=by omega
   subst hk2
   refine ca (aL (aL (cD (ag<|VC.q (ah (aM (vs:=[_,_,_,_,_,_,_]) F5 (.r rfl) (ax 3 rfl ⟨_,rfl⟩) rfl) rfl<|aD rfl<|cz (xs:=[_,_]) (vs:=[_,_]) C25 ⟨(.r rfl),(.r rfl),trivial⟩ (fun w hw=>Cf x 1 w (hx.keep w hw) hk (by omega)) fun ym _=>aD rfl<|cz (xs:=[_,_]) (vs:=[_,_]) C43 ⟨(.r rfl),(.r rfl),trivial⟩ (fun w hw=>Yo (gw x) (fG x 1) ym.p ym.c 5 w (eI (hw.inv 0 _ rfl))) fun ya hya=>aD rfl<|aO (bJ (.r rfl))<|aD rfl<|aO (bN (.r rfl) rfl)<|aD rfl<|aO (bN (.r rfl) rfl)<|aD rfl<|aO (LO.as (.r rfl))<|aD rfl<|aO (LO.as (.r rfl))<|VO.n<|ak ?_)))))
   have hTB:=TkB.of hB.P.I (by have:=hB.P.A.ms;exact this) (by have:=hB.P.tk;omega)
   have htkl:=hB.P.tk
   refine aF (VO.m rfl<|aD rfl<|cz (xs:=[_]) (vs:=[_]) C64 ⟨(.r rfl),trivial⟩ (fun w hw=>TP yb.1 h s w (ML.mkF (hw.inv 2 _ rfl).1) hTB (by omega)) fun yt hyt=>aD rfl<|aO (LO.as (.r rfl))<|VO.n<|ak<|ak<|VC.tn fun w1 hw1=>?_)
   have hBI:ML w1 yb.1 h s:=ML.mkF (hw1.inv 3 _ rfl).1
   have hBW:BkW w1 h s (LJ x 2):=⟨afb (hw1.inv 3 _ rfl).1,hB.xa w1 (hw1.inv 4 _ rfl).1⟩
   have hAR:AL w1 ya.p ya.l:=hya.rd w1 (hw1.inv 1 _ rfl).1
   have hTK:RO 6 dA.cells w1 yt.p yt.tk:=aey (hw1.inv 0 _ rfl).1
   have hX1:fk w1 ⟨b1,0,none⟩ [.int .u8 (x.wi:Int),.int .u8 (x.hi:Int),.slice x.pi x.ins.length x.ci,.int .u8 (x.x:Int),.int .u8 (x.y:Int),.slice x.pd x.db.length x.cd,.int .u16 (x.sec:Int)]:=aX hw1 6 rfl ⟨[],rfl⟩
   have hG1:fk w1 ⟨b2,0,none⟩ [.int .i64 0,.int .i64 0,.int .i64 1000,.int .i64 (gA x:Int),.int .i64 (kK x:Int)]:=aX hw1 5 rfl ⟨[],rfl⟩
   have hal:ya.l.map eC.m=mq (gW (gw x)) (gH (gw x)) (fG x 1) 5:=by rw[hya.m,if_pos OT]
   have hall:ya.l.length=Ha x 1:=by have z:=congrArg fT hal;rw[aq]at z;rw[z];unfold mq Ha nP;rw[aq]
   have hal64:Ha x 1≤64:=Ns
   have hytl:yt.tk.length=s.tk.length:=by have z:=congrArg fT hyt;rwa [aq,aq]at z
   refine aF (VO.m rfl<|VO.u rfl<|VO.m rfl<|VO.gf rfl (fun hg=>bJ (.r rfl))<|VO.gf rfl (fun hg=>bW BC (.g hg rfl) rfl)<|VO.gf rfl (fun hg=>iX (.g hg rfl) (.r rfl))<|ah (dO (.r rfl) (.r rfl) rfl rfl) rfl<|VO.n<|ay rfl (fun h67=>?_) (fun h67=>?_))
   · (exfalso;(rcases h67 with z|z;(· exact z OT);(· omega)))
   ·
    refine aC (ag<|ak<|eH mixed (aV (aE (r:=3) abi (.r rfl) rfl) rfl<|aV (aB O5 (.r rfl) (aW (aU (off:=3) hX1 ⟨_,rfl⟩))) rfl<|aV (LO.cv ⟨_,gj⟩ cM (.r rfl) (cv8 hkx)) rfl<|aV (dy (LO.rem (.r rfl) (.r rfl) (by omega)) (congrArg (bX .i64) (x9 (m:=5)))) rfl<|aV (dy (LO.sub (.r rfl) (.r rfl) (wi (by omega) (by omega))) (congrArg (bX .i64) (show _=B2 x from rfl))) rfl<|aV (aE (r:=4) aby (.r rfl) rfl) rfl<|aV (aB O5 (.r rfl) (aW (aU (off:=4) hX1 ⟨_,rfl⟩))) rfl<|aV (LO.cv ⟨_,gj⟩ cM (.r rfl) (cv8 hky)) rfl<|aV (dy (LO.rem (.r rfl) (.r rfl) (by omega)) (congrArg (bX .i64) (x9 (m:=5)))) rfl<|aV (dy (LO.sub (.r rfl) (.r rfl) (wi (by omega) (by omega))) (congrArg (bX .i64) (show _=Cb x from rfl))) rfl<|aV (LO.as (.r rfl)) rfl<|aV (LO.as (.r rfl)) rfl<|ft) (by kernel_rfl)<|ag<|VC.q (VO.a rfl<|VO.n ?_))
    refine ak<|VC.q (VO.a rfl<|VO.n<|aG<|bY (α:=Nat×(List CP)×(Option Addr)×Nat×(List cq)) 0 (fun gx=>[(14,.slice gx.2.2.1 gx.2.1.length gx.2.2.2.1),(15,.int .i64 (gx.1:Nat))]) [(1,_),(4,_),(5,_),(10,_),(11,_),(12,_),(13,_)] (fun gx=>[own 218 7 gx.2.2.1 gx.2.2.2.1 (gx.2.1.map nk),bS gx.2.2.2.2]) (fun gx=>gx.1≤ya.l.length∧ClI x s gx.1 gx.2.1 gx.2.2.2.2) (fun gx=>ya.l.length-gx.1) (0,[],none,0,[]) (by exact⟨bG _,ClI.zero x s⟩) (.c4 rfl rfl rfl rfl (.c4 rfl rfl rfl rfl (.cons rfl .nil))) (fun _ h=>((fH (Rs:=[]) h).fX 218 7)) ?_)
    rintro ⟨i,cl,po,co,YC⟩ ⟨hi,hC⟩
    show VC _ _ _ _ _ ([(14,.slice po cl.length co),(15,.int .i64 (i:Nat))]++_) ([own 218 7 po co (cl.map nk),bS YC]++_) _ _
    dsimp only at hi hC
    have hCn:=hC.n
    refine ak<|VC.q (VO.m rfl<|VO.m rfl<|ah (bW BC (.r rfl) rfl) rfl<|VO.t rfl<|VO.n<|ay rfl (fun h81=>?_) (fun h81=>?_))
    ·
     obtain⟨k,t,hMT⟩:=hB.b.alN (i:=i) (by omega)
     have hkl:k<yt.tk.length:=by have z:=(aj.1 hMT.tt).1;rw[aq]at z;omega
     obtain⟨tr,htr⟩:=gE (l:=yt.tk) (n:=k) hkl
     have htm:tr.m=t:=by have z:=hMT.tt;rw[←hyt,aw,htr]at z;exact gV z
     obtain⟨ar,har⟩:=gE (l:=ya.l) (n:=i) (by omega)
     have harm:=al har
     obtain⟨har1,har2,har3,har4,har5,har6⟩:=UD hal har
     refine aC (ag<|ak<|aG<|VC.q (VO.m rfl<|VO.m rfl<|ah (bD (xs:=[_,_,_]) (vs:=[_,_,_]) C65 ⟨(.r rfl),(.r rfl),(.r rfl),trivial⟩ (fun w2 hw=>alB yb.1 h s i k w2 (hBI.keep w2 hw) hMT.of)) rfl<|VO.m rfl<|ah (bN (.r rfl) rfl) rfl<|ah (bN (.r rfl) rfl) rfl<|VO.a rfl<|VO.a rfl<|VO.n<|ak ?_))
     refine VC.q (VO.m rfl<|VO.u rfl<|VO.m rfl<|VO.gf rfl (fun hg=>bJ (.r rfl))<|VO.gf rfl (fun hg=>LO.lt (.g hg rfl) (.r rfl))<|ah (dO (.r rfl) (.r rfl) rfl rfl) rfl<|VO.m rfl<|VO.gf rfl (fun hg=>bJ (.r rfl))<|VO.gf rfl (fun hg=>bJ (.r rfl))<|VO.gf rfl (fun hg=>bW tv (.g hg rfl) rfl)<|VO.gf rfl (fun hg=>LO.ge (.g hg rfl) (.g hg rfl))<|ah (dO (.r rfl) (.r rfl) rfl rfl) rfl<|VO.n<|ay rfl (fun h101=>?_) (fun h101=>?_))
     · (exfalso;omega)
     ·
      refine aC (ag<|VC.q (ah (dC (ps:=[(_,_),(_,_)]) (vs:=[(_,_),(_,_)]) (C:=[_,_]) EE ⟨(.r rfl),(.r rfl),trivial⟩ rfl ⟨_,[_],[_,_],rfl,rfl,rfl,rfl,⟨_,[_],[_,_],rfl,rfl,rfl,rfl,rfl⟩⟩) rfl<|ah (dC (ps:=[(_,_),(_,_)]) (vs:=[(_,_),(_,_)]) (C:=[_,_]) EE ⟨(.r rfl),(.r rfl),trivial⟩ rfl ⟨_,[_],[_,_],rfl,rfl,rfl,rfl,⟨_,[_],[_,_],rfl,rfl,rfl,rfl,rfl⟩⟩) rfl<|aD rfl<|bI (C:=#[_,_]) IT rfl fun b19=>aD rfl<|bI (C:=#[_,_]) IT rfl fun b20=>bU<|bl 1 (vs:=[_,_]) (C':=[_,_]) (L':=[_,_,_,_]) sC rfl rfl rfl rfl rfl rfl rfl rfl<|bU<|bl 0 (vs:=[_,_]) (C':=[_,_]) (L':=[_,_,_,_]) sC rfl rfl rfl rfl rfl rfl rfl rfl<|VO.n<|ak<|VC.q (VO.m rfl<|VO.m rfl<|ah (cw tv wH hTK.sm (.r rfl) (.r rfl) rfl (by omega)) rfl<|VO.f MP rfl<|ah (aB O3 (.r rfl) (fun w hw=>bq (off:=1) ((fun w3 h3=>gB (hTK.keep w3 h3) htr) w hw) ⟨_,rfl⟩)) rfl<|ah (fN (.r rfl) (.r rfl)) rfl<|aI ?_)))
      refine ag<|ay rfl (fun h109=>?_) (fun h109=>?_)
      ·
       have hf:t.fr=0:=by rw[←htm];show tr.fr=0;omega
       obtain⟨a,hta,hmem⟩:=hMT.kept hf
       have hml:=O6 (g:=gw x) (v1:=fG x 0) (v2:=fG x 1) (lv:=5) (i:=a) (j:=i)
       refine VC.q (VO.m rfl<|VO.m rfl<|aD rfl<|cz (xs:=[_,_]) (vs:=[_,_]) C66 ⟨(.r rfl),(.r rfl),trivial⟩ (fun w2 hw=>Y4 x yb.1 h s XA i k a t w2 (hBI.keep w2 hw) (hBW.keep w2 hw) hB hMT hf hta) fun y1 hy1=>aD rfl<|aO (bJ (.r rfl))<|aD rfl<|aO (bN (.r rfl) rfl)<|aD rfl<|aO (bN (.r rfl) rfl)<|aD rfl<|aO (LO.as (.r rfl))<|aD rfl<|aO (LO.as (.r rfl))<|aI ?_)
       have hyl:y1.r.l.length≤25:=by rw[hy1];exact O6
       refine ag<|ak<|VC.q (VO.m rfl<|VO.u rfl<|VO.m rfl<|VO.gf rfl (fun hg=>bJ (.r rfl))<|VO.gf rfl (fun hg=>bW MX (.g hg rfl) rfl)<|VO.gf rfl (fun hg=>tO (.g hg rfl) (.r rfl))<|ah (dO (.r rfl) (.r rfl) rfl rfl) rfl<|VO.n<|ay rfl (fun h122=>?_) (fun h122=>?_))
       · (exfalso;omega)
       ·
        refine aC (ag<|VC.q (VO.a rfl<|VO.n<|ak<|VC.q (VO.a rfl<|aI ?_)))
        refine ag<|aG<|bY (α:=Nat) 0 (fun gx=>[(22,.bool (E9 y1.r.l gx (B2 x) (Cb x))),(23,.int .i64 (gx:Nat))]) [(1,_),(4,_),(5,_),(10,_),(11,_),(12,_),(13,_),(14,_),(15,_),(18,_),(19,_),(20,_)] (fun gx=>[]) (fun gx=>gx≤y1.r.l.length) (fun gx=>y1.r.l.length-gx) 0 (by exact bG _) (.c4 rfl rfl rfl rfl (.c4 rfl rfl rfl rfl (.c4 rfl rfl rfl rfl (.cons rfl (.cons rfl .nil))))) (fun _ h=>h) ?_
        rintro m hm
        refine ak<|VC.q (VO.m rfl<|VO.m rfl<|ah (LO.wy MX ZX (fun _ hw=>(dE hw 0 rfl).some (by rfl)) (.r rfl) (.r rfl) (j:=0) rfl uy) rfl<|ah (aB ae5 (.r rfl) (fun w hw=>bq (off:=0) (gN hw 0 rfl (show[y1.r][0]? =some y1.r from rfl)) ⟨_,rfl⟩)) rfl<|ah (bW wx (.r rfl) rfl) rfl<|VO.t rfl<|VO.n<|ay rfl (fun h128=>?_) (fun h128=>?_))
        ·
         obtain⟨md,hmd⟩:=gE (l:=y1.r.l) (n:=m) (by omega)
         refine aC (ag<|ak<|aG<|aF (VO.m rfl<|VO.m rfl<|VO.gf rfl (fun hg=>bJ (.r rfl))<|VO.gf rfl (fun hg=>LO.wy MX ZX (fun _ hw=>(dE hw 0 rfl).some (by rfl)) (.g hg rfl) (.r rfl) (j:=0) rfl uy)<|VO.gf rfl (fun hg=>aB ae5 (.g hg rfl) (fun w hw=>bq (off:=0) (gN hw 0 rfl (show[y1.r][0]? =some y1.r from rfl)) ⟨_,rfl⟩))<|VO.gf rfl (fun hg=>bJ (.r rfl))<|VO.gf rfl (fun hg=>LO.wy wx xn (fun _ hw=>(dE hw 1 rfl).some (by rw[aq])) (.g hg rfl) (.g hg rfl) rfl (by omega))<|VO.gf rfl (fun hg=>aM (vs:=[_,_]) xH (.g hg rfl) (fun w hw=>bq (off:=0) (gN hw 1 rfl hmd) ⟨_,rfl⟩) rfl)<|VO.gf rfl (fun hg=>bJ (.r rfl))<|VO.gf rfl (fun hg=>bJ (.r rfl))<|VO.gf rfl (fun hg=>dC (ps:=[(_,_),(_,_)]) (vs:=[(_,_),(_,_)]) (C:=[_,_]) aeA ⟨(.g hg rfl),(.g hg rfl),trivial⟩ rfl ⟨_,[_],[_,_],rfl,rfl,rfl,rfl,⟨_,[_],[_,_],rfl,rfl,rfl,rfl,rfl⟩⟩)<|VO.gf rfl (fun hg=>LO.eqA («as» :=[_,_]) (bs:=[_,_]) agu (.g hg rfl) (.g hg rfl) rfl rfl)<|ah (dO (.r rfl) (.r rfl) rfl rfl) rfl<|VO.a rfl<|aI<|bB (ag<|aF (VO.m rfl<|VO.p rfl rfl (by omega) (by omega) rfl<|VO.a rfl<|aI<|bn fun a w ha hw=>⟨m+1,(by omega),(by omega),ha.sub (.cons (congrArg (fun z=>some (iS z)) (any_succ hmd).symm) (.c4 rfl rfl rfl rfl (.c4 rfl rfl rfl rfl (.c4 rfl rfl rfl rfl (.cons rfl .nil))))),hw⟩))))
        ·
         have hme:m=y1.r.l.length:=by omega
         subst hme
         have hm1:(⟨B2 x,Cb x⟩:Mv)∈y1.r.l:=by rw[hy1];exact hmem
         rw[Yh hm1]
         have hne:y1.r.l≠[]:=fun z=>by rw[z]at hm1;cases hm1
         have hbx:=Ch (f:=oS) hne fun d hd=>by rw[hy1]at hd;have:=G0 hd;omega
         have hby:=Ch (f:=oT) hne fun d hd=>by rw[hy1]at hd;have:=G0 hd;omega
         have hfit:=Vq (x1:=(FN oS y1.r.l)) (x2:=(FY oS y1.r.l)) (y1:=(FN oT y1.r.l)) (y2:=(FY oT y1.r.l)) x hbx hby
         have hflow:Ap (FN oS y1.r.l) (FY oS y1.r.l) (FN oT y1.r.l) (FY oT y1.r.l) (iH x:Int) 0=Q8 x i t:=by rw[hfit.2];unfold Q8;rw[if_pos hf,hy1,hta];rfl
         obtain⟨F,hF⟩:∃F,F=Ap (FN oS y1.r.l) (FY oS y1.r.l) (FN oT y1.r.l) (FY oT y1.r.l) (iH x:Int) 0:=⟨_,rfl⟩
         have hFit:∀w2:World,Calls ae 68 #[.agg #[.int .i64 (FN oS y1.r.l),.int .i64 (FY oS y1.r.l)],.agg #[.int .i64 (FN oT y1.r.l),.int .i64 (FY oT y1.r.l)],.int .i64 (iH x:Int),.int .i64 0] w2 fun e w3=>e= .returned (.tuple #[uo F,.int .i64 0])∧St (bs w2) [] w3:=fun w2=>by have z:=ab0 (FN oS y1.r.l) (FY oS y1.r.l) (FN oT y1.r.l) (FY oT y1.r.l) (iH x:Int) 0 w2;rw[←hF,hfit.1]at z;exact z
         have hcr:∀u,qF (fW (qM (ar.kr.map fZ).flatten)) u→XT x s i ⟨u,qM ar.px.l,F,0⟩:=fun u hu=>⟨rfl,⟨_,har1,rfl⟩,by rw[har2]at hu;exact hu,⟨k,t,hMT,by rw[hF];exact hflow⟩⟩
         have hokc:∀u,qF (fW (qM (ar.kr.map fZ).flatten)) u→fy (gw x) ⟨u,qM ar.px.l,F,0⟩=0:=fun u hu=>(hcr u hu).ok
         have hpl:(qM ar.px.l).length=ar.px.l.length:=by unfold qM;rw[aq]
         refine ca (aL (aL (cD (ag<|ak<|VC.q (VO.m rfl<|ah (LO.not (.r rfl)) rfl<|VO.n<|ay rfl (fun h145=>?_) (fun h145=>?_))))))
         · (exfalso;simp at h145)
         ·
          refine aC (ag<|VC.q (VO.m rfl<|ah (LO.wy MX ZX (fun _ hw=>(dE hw 0 rfl).some (by rfl)) (.r rfl) (.r rfl) (j:=0) rfl uy) rfl<|ah (aB ae5 (.r rfl) (fun w hw=>bq (off:=0) (gN hw 0 rfl (show[y1.r][0]? =some y1.r from rfl)) ⟨_,rfl⟩)) rfl<|ah (bD (xs:=[_]) (vs:=[_]) C67 ⟨(.r rfl),trivial⟩ (fun w2 hw=>acV y1.r.l y1.r.p y1.r.c w2 (RO.kg hw 1 rfl) (by omega))) rfl<|VO.m rfl<|ah (bN (.r rfl) rfl) rfl<|ah (bN (.r rfl) rfl) rfl<|ah (bN (.r rfl) rfl) rfl<|bU<|bl 3 (vs:=[_,_]) (C':=[_,_]) (L':=[_,_,_,_,_,_]) sC rfl rfl rfl rfl rfl rfl rfl rfl<|bU<|bl 2 (vs:=[_,_]) (C':=[_,_]) (L':=[_,_,_,_,_,_]) sC rfl rfl rfl rfl rfl rfl rfl rfl<|VO.a rfl<|VO.n<|VC.q (VO.m rfl<|VO.u rfl<|VO.n ?_)))
          refine ay rfl (fun h155=>?_) (fun h155=>?_)
          · (exfalso;exact h155 (Y9 hm1))
          ·
           refine aC (ag<|ak<|VC.gu [[0,1,2,3,4,5],[0,1,2,3,4,5],[0,1,2,3,4,5]] [some 1,some 1,some 1,some 1,some 1,some 1,some 1,some 2,none,none,some 2] mixed (by kernel_rfl) rfl (aA (fun _ hJ=>aM (vs:=[_,_]) xb (.r rfl) (fun _ hw=>aX (hJ _ hw) 3 rfl ⟨_,rfl⟩) rfl) rfl<|aA (fun _ hJ=>aM (vs:=[_,_]) xb (.r rfl) (fun _ hw=>aX (hJ _ hw) 2 rfl ⟨_,rfl⟩) rfl) rfl<|aA (fun _ hJ=>aM (vs:=[_,_,_,_,_,_,_]) F5 (.r rfl) (aW (aU (off:=0) hX1 ⟨_,rfl⟩)) rfl) rfl<|aA (fun _ hJ=>bD (xs:=[_]) (vs:=[_]) C22 ⟨(.r rfl),trivial⟩ (fun w _=>x7 x w hk)) rfl<|aA (fun _ hJ=>bD (xs:=[_,_,_,_]) (vs:=[_,_,_,_]) C68 ⟨(.r rfl),(.r rfl),(.r rfl),(.r rfl),trivial⟩ (fun w2 _=>hFit w2)) rfl<|LX.m rfl<|aA (fun _ hJ=>bN (.r rfl) rfl) rfl<|aA (fun _ hJ=>bN (.r rfl) rfl) rfl<|cn<|cn<|aA (fun _ hJ=>LO.as (.r rfl)) rfl<|dw) (au<|au<|au<|au<|au<|au<|au<|au<|HX.h rfl<|bI (C:=#[_,_,_,_]) Yw rfl fun b29=>⟨fun _ hw=>hw.fO [1,2,3,4,5,6] rfl,HX.h0<|bl 0 (vs:=[_,_,_,_]) (C':=[_,_,_,_]) (L':=[_,_,_,_,_,_,_]) RQ rfl rfl rfl rfl rfl rfl rfl rfl<|⟨fun _ hw=>hw.fO [1,2,3,4,5,6] rfl,au<|HX.nil ?_⟩⟩))
           refine ag<|ak<|VC.q (VO.m rfl<|VO.u rfl<|VO.n<|ay rfl (fun h165=>?_) (fun h165=>?_))
           · (exfalso;exact h165 rfl)
           ·
            refine aC (ag<|ak<|VC.abZ (G:=OfX×Nat) (fun y=>[(25,.pointer (some ⟨y.2,0,none⟩)),(17,.int .i64 0)]) [(1,_),(4,_),(5,_),(10,_),(11,_),(12,_),(13,_),(14,_),(15,_)] (fun y=>[de y.2 (.cells #[.slice y.1.ps y.1.s.length y.1.cs,.slice y.1.pm (qM ar.px.l).length y.1.cm,.int .i64 F.a,.int .i64 F.b,.int .i64 F.c,.int .i64 F.d,.int .i64 0] 218),own 3 1 y.1.ps y.1.cs (y.1.s.map lT),own 3 1 y.1.pm y.1.cm ((qM ar.px.l).map lT)]) [_,_,_,_,_,_,_] (fun y=>qF (fW (qM (ar.kr.map fZ).flatten)) y.1.s∧y.1.s.length≤4096) 8 [some 0,some 0,some 0,some 0,some 0,some 0,none,none,none,none,none,none,none] mixed (by kernel_rfl) (aA (fun _ hJ=>aM (vs:=[_,_,_,_,_]) vS (.r rfl) (aW (aU (off:=0) hG1 ⟨_,rfl⟩)) rfl) rfl<|LX.m rfl<|LX.m rfl<|aA (fun _ hJ=>cw BC Ny hAR.ar.sm (.r rfl) (.r rfl) rfl (by omega)) rfl<|aA (fun _ hJ=>aM (vs:=[_,_,_,_,_,_,_,_]) aeH (.r rfl) (fun w hw=>bq (off:=0) ((fun w3 h3=>gB (hAR.ar.keep w3 h3) har) w (hJ _ hw)) ⟨_,rfl⟩) rfl) rfl<|aA (fun _ hJ=>aM (vs:=[_,_,_,_]) EA (.r rfl) (fun _ hw=>aX (hJ _ hw) 0 rfl ⟨_,rfl⟩) rfl) rfl<|cn<|cn<|cn<|cn<|cn<|cn<|cn<|dw) (fun hf=>(cB [6,10] (by kernel_rfl) rfl ⟨(cE rfl rfl<|cz (xs:=[_,_,_,_]) (vs:=[_,_,_,_]) C69 ⟨(.r rfl),(.r rfl),(.r rfl),(.r rfl),trivial⟩ (fun w2 hw=>Zs (gw x) ar F w2 har3 har4 har5 har6 ((hAR.px ar harm).keep w2 hw) ((hAR.kr ar harm).keep w2 hw) hokc) fun yo hyo=>⟨bM (L1:=[_,_,_,_,_,_,_]) [2,3,4,5,6,7,8] rfl rfl,(cB [7,10] (by kernel_rfl) rfl ⟨(cE rfl rfl<|aO (bJ (.r rfl))<|⟨bM (L1:=[_,_,_,_,_,_,_]) [2,3,4,5,6,7,8] rfl rfl,(cB [8,9,10] (by kernel_rfl) rfl ⟨(cE rfl rfl<|aO (bN (.r rfl) rfl)<|⟨bM (L1:=[_,_,_,_,_,_,_]) [2,3,4,5,6,7,8] rfl rfl,(cB [9,10] (by kernel_rfl) rfl ⟨(cE rfl rfl<|aO (bN (.r rfl) rfl)<|⟨bM (L1:=[_,_,_,_,_,_,_]) [2,3,4,5,6,7,8] rfl rfl,(cB [10] (by kernel_rfl) rfl ⟨(cE rfl rfl<|bI (C:=#[_,_,_,_,_,_,_]) sx rfl fun b33=>⟨bM (L1:=[_,_,_,_,_,_,_]) [3,4,5,6,7,8,9] rfl rfl,(cB [11] (by kernel_rfl) rfl ⟨(ic rfl<|bl 0 (vs:=[_,_,_,_,_,_,_]) (C':=[_,_,_,_,_,_,_]) (L':=[_,_,_,_,_,_,_,_,_,_]) l9 rfl rfl rfl rfl rfl rfl rfl rfl<|⟨bM (L1:=[_,_,_,_,_,_,_]) [3,4,5,6,7,8,9] rfl rfl,(cB [12] (by kernel_rfl) rfl ⟨(cE rfl rfl<|aO (LO.as (.r rfl))<|⟨bM (L1:=[_,_,_,_,_,_,_]) [3,4,5,6,7,8,9] rfl rfl,(ie (by kernel_rfl) (gn (.c4 rfl rfl rfl rfl (.c4 rfl rfl rfl rfl (.cons rfl (.cons rfl (.cons rfl .nil))))) (bM (L1:=[_,_,_]++[_,_,_,_,_,_,_]) [0,1,2,3,4,5,6,7,8,9] rfl rfl) (hf (yo,b33) hyo)))⟩),trivial⟩)⟩),trivial⟩)⟩),trivial⟩)⟩),(cE rfl rfl<|bI (C:=#[_,_,_,_,_,_,_]) sx rfl fun b33=>⟨bM (L1:=[_,_,_,_,_,_,_]) [3,4,5,6,7,8,9] rfl rfl,(cB [9,11] (by kernel_rfl) rfl ⟨(cE rfl rfl<|aO (bN (.r rfl) rfl)<|⟨bM (L1:=[_,_,_,_,_,_,_]) [3,4,5,6,7,8,9] rfl rfl,(cB [11] (by kernel_rfl) rfl ⟨(ic rfl<|bl 0 (vs:=[_,_,_,_,_,_,_]) (C':=[_,_,_,_,_,_,_]) (L':=[_,_,_,_,_,_,_,_,_,_]) l9 rfl rfl rfl rfl rfl rfl rfl rfl<|⟨bM (L1:=[_,_,_,_,_,_,_]) [3,4,5,6,7,8,9] rfl rfl,(cB [12] (by kernel_rfl) rfl ⟨(cE rfl rfl<|aO (LO.as (.r rfl))<|⟨bM (L1:=[_,_,_,_,_,_,_]) [3,4,5,6,7,8,9] rfl rfl,(ie (by kernel_rfl) (gn (.c4 rfl rfl rfl rfl (.c4 rfl rfl rfl rfl (.cons rfl (.cons rfl (.cons rfl .nil))))) (bM (L1:=[_,_,_]++[_,_,_,_,_,_,_]) [0,1,2,3,4,5,6,7,8,9] rfl rfl) (hf (yo,b33) hyo)))⟩),trivial⟩)⟩),trivial⟩)⟩),(ic rfl<|bl 0 (vs:=[_,_,_,_,_,_,_]) (C':=[_,_,_,_,_,_,_]) (L':=[_,_,_,_,_,_,_,_,_,_]) l9 rfl rfl rfl rfl rfl rfl rfl rfl<|⟨bM (L1:=[_,_,_,_,_,_,_]) [3,4,5,6,7,8,9] rfl rfl,(cB [9] (by kernel_rfl) rfl ⟨(cE rfl rfl<|aO (bN (.r rfl) rfl)<|⟨bM (L1:=[_,_,_,_,_,_,_]) [3,4,5,6,7,8,9] rfl rfl,(cB [12] (by kernel_rfl) rfl ⟨(cE rfl rfl<|aO (LO.as (.r rfl))<|⟨bM (L1:=[_,_,_,_,_,_,_]) [3,4,5,6,7,8,9] rfl rfl,(ie (by kernel_rfl) (gn (.c4 rfl rfl rfl rfl (.c4 rfl rfl rfl rfl (.cons rfl (.cons rfl (.cons rfl .nil))))) (bM (L1:=[_,_,_]++[_,_,_,_,_,_,_]) [0,1,2,3,4,5,6,7,8,9] rfl rfl) (hf (yo,b33) hyo)))⟩),trivial⟩)⟩),trivial⟩)⟩),trivial⟩)⟩),trivial⟩)⟩),(cE rfl rfl<|aO (bN (.r rfl) rfl)<|⟨bM (L1:=[_,_,_,_,_,_,_]) [2,3,4,5,6,7,8] rfl rfl,(cB [8,10] (by kernel_rfl) rfl ⟨(cE rfl rfl<|aO (bN (.r rfl) rfl)<|⟨bM (L1:=[_,_,_,_,_,_,_]) [2,3,4,5,6,7,8] rfl rfl,(cB [10] (by kernel_rfl) rfl ⟨(cE rfl rfl<|bI (C:=#[_,_,_,_,_,_,_]) sx rfl fun b33=>⟨bM (L1:=[_,_,_,_,_,_,_]) [3,4,5,6,7,8,9] rfl rfl,(cB [11] (by kernel_rfl) rfl ⟨(ic rfl<|bl 0 (vs:=[_,_,_,_,_,_,_]) (C':=[_,_,_,_,_,_,_]) (L':=[_,_,_,_,_,_,_,_,_,_]) l9 rfl rfl rfl rfl rfl rfl rfl rfl<|⟨bM (L1:=[_,_,_,_,_,_,_]) [3,4,5,6,7,8,9] rfl rfl,(cB [12] (by kernel_rfl) rfl ⟨(cE rfl rfl<|aO (LO.as (.r rfl))<|⟨bM (L1:=[_,_,_,_,_,_,_]) [3,4,5,6,7,8,9] rfl rfl,(ie (by kernel_rfl) (gn (.c4 rfl rfl rfl rfl (.c4 rfl rfl rfl rfl (.cons rfl (.cons rfl (.cons rfl .nil))))) (bM (L1:=[_,_,_]++[_,_,_,_,_,_,_]) [0,1,2,3,4,5,6,7,8,9] rfl rfl) (hf (yo,b33) hyo)))⟩),trivial⟩)⟩),trivial⟩)⟩),trivial⟩)⟩),(cE rfl rfl<|bI (C:=#[_,_,_,_,_,_,_]) sx rfl fun b33=>⟨bM (L1:=[_,_,_,_,_,_,_]) [3,4,5,6,7,8,9] rfl rfl,(cB [8] (by kernel_rfl) rfl ⟨(cE rfl rfl<|aO (bN (.r rfl) rfl)<|⟨bM (L1:=[_,_,_,_,_,_,_]) [3,4,5,6,7,8,9] rfl rfl,(cB [11] (by kernel_rfl) rfl ⟨(ic rfl<|bl 0 (vs:=[_,_,_,_,_,_,_]) (C':=[_,_,_,_,_,_,_]) (L':=[_,_,_,_,_,_,_,_,_,_]) l9 rfl rfl rfl rfl rfl rfl rfl rfl<|⟨bM (L1:=[_,_,_,_,_,_,_]) [3,4,5,6,7,8,9] rfl rfl,(cB [12] (by kernel_rfl) rfl ⟨(cE rfl rfl<|aO (LO.as (.r rfl))<|⟨bM (L1:=[_,_,_,_,_,_,_]) [3,4,5,6,7,8,9] rfl rfl,(ie (by kernel_rfl) (gn (.c4 rfl rfl rfl rfl (.c4 rfl rfl rfl rfl (.cons rfl (.cons rfl (.cons rfl .nil))))) (bM (L1:=[_,_,_]++[_,_,_,_,_,_,_]) [0,1,2,3,4,5,6,7,8,9] rfl rfl) (hf (yo,b33) hyo)))⟩),trivial⟩)⟩),trivial⟩)⟩),trivial⟩)⟩),trivial⟩)⟩),(cE rfl rfl<|bI (C:=#[_,_,_,_,_,_,_]) sx rfl fun b33=>⟨bM (L1:=[_,_,_,_,_,_,_]) [3,4,5,6,7,8,9] rfl rfl,(cB [8,9] (by kernel_rfl) rfl ⟨(cE rfl rfl<|aO (bN (.r rfl) rfl)<|⟨bM (L1:=[_,_,_,_,_,_,_]) [3,4,5,6,7,8,9] rfl rfl,(cB [9,11] (by kernel_rfl) rfl ⟨(cE rfl rfl<|aO (bN (.r rfl) rfl)<|⟨bM (L1:=[_,_,_,_,_,_,_]) [3,4,5,6,7,8,9] rfl rfl,(cB [11] (by kernel_rfl) rfl ⟨(ic rfl<|bl 0 (vs:=[_,_,_,_,_,_,_]) (C':=[_,_,_,_,_,_,_]) (L':=[_,_,_,_,_,_,_,_,_,_]) l9 rfl rfl rfl rfl rfl rfl rfl rfl<|⟨bM (L1:=[_,_,_,_,_,_,_]) [3,4,5,6,7,8,9] rfl rfl,(cB [12] (by kernel_rfl) rfl ⟨(cE rfl rfl<|aO (LO.as (.r rfl))<|⟨bM (L1:=[_,_,_,_,_,_,_]) [3,4,5,6,7,8,9] rfl rfl,(ie (by kernel_rfl) (gn (.c4 rfl rfl rfl rfl (.c4 rfl rfl rfl rfl (.cons rfl (.cons rfl (.cons rfl .nil))))) (bM (L1:=[_,_,_]++[_,_,_,_,_,_,_]) [0,1,2,3,4,5,6,7,8,9] rfl rfl) (hf (yo,b33) hyo)))⟩),trivial⟩)⟩),trivial⟩)⟩),(ic rfl<|bl 0 (vs:=[_,_,_,_,_,_,_]) (C':=[_,_,_,_,_,_,_]) (L':=[_,_,_,_,_,_,_,_,_,_]) l9 rfl rfl rfl rfl rfl rfl rfl rfl<|⟨bM (L1:=[_,_,_,_,_,_,_]) [3,4,5,6,7,8,9] rfl rfl,(cB [9] (by kernel_rfl) rfl ⟨(cE rfl rfl<|aO (bN (.r rfl) rfl)<|⟨bM (L1:=[_,_,_,_,_,_,_]) [3,4,5,6,7,8,9] rfl rfl,(cB [12] (by kernel_rfl) rfl ⟨(cE rfl rfl<|aO (LO.as (.r rfl))<|⟨bM (L1:=[_,_,_,_,_,_,_]) [3,4,5,6,7,8,9] rfl rfl,(ie (by kernel_rfl) (gn (.c4 rfl rfl rfl rfl (.c4 rfl rfl rfl rfl (.cons rfl (.cons rfl (.cons rfl .nil))))) (bM (L1:=[_,_,_]++[_,_,_,_,_,_,_]) [0,1,2,3,4,5,6,7,8,9] rfl rfl) (hf (yo,b33) hyo)))⟩),trivial⟩)⟩),trivial⟩)⟩),trivial⟩)⟩),(cE rfl rfl<|aO (bN (.r rfl) rfl)<|⟨bM (L1:=[_,_,_,_,_,_,_]) [3,4,5,6,7,8,9] rfl rfl,(cB [8] (by kernel_rfl) rfl ⟨(cE rfl rfl<|aO (bN (.r rfl) rfl)<|⟨bM (L1:=[_,_,_,_,_,_,_]) [3,4,5,6,7,8,9] rfl rfl,(cB [11] (by kernel_rfl) rfl ⟨(ic rfl<|bl 0 (vs:=[_,_,_,_,_,_,_]) (C':=[_,_,_,_,_,_,_]) (L':=[_,_,_,_,_,_,_,_,_,_]) l9 rfl rfl rfl rfl rfl rfl rfl rfl<|⟨bM (L1:=[_,_,_,_,_,_,_]) [3,4,5,6,7,8,9] rfl rfl,(cB [12] (by kernel_rfl) rfl ⟨(cE rfl rfl<|aO (LO.as (.r rfl))<|⟨bM (L1:=[_,_,_,_,_,_,_]) [3,4,5,6,7,8,9] rfl rfl,(ie (by kernel_rfl) (gn (.c4 rfl rfl rfl rfl (.c4 rfl rfl rfl rfl (.cons rfl (.cons rfl (.cons rfl .nil))))) (bM (L1:=[_,_,_]++[_,_,_,_,_,_,_]) [0,1,2,3,4,5,6,7,8,9] rfl rfl) (hf (yo,b33) hyo)))⟩),trivial⟩)⟩),trivial⟩)⟩),trivial⟩)⟩),trivial⟩)⟩),trivial⟩)⟩),(cE rfl rfl<|bI (C:=#[_,_,_,_,_,_,_]) sx rfl fun b33=>⟨bM (L1:=[_,_,_,_,_,_,_]) [3,4,5,6,7,8,9] rfl rfl,(cB [7] (by kernel_rfl) rfl ⟨(cE rfl rfl<|aO (bJ (.r rfl))<|⟨bM (L1:=[_,_,_,_,_,_,_]) [3,4,5,6,7,8,9] rfl rfl,(cB [8,9] (by kernel_rfl) rfl ⟨(cE rfl rfl<|aO (bN (.r rfl) rfl)<|⟨bM (L1:=[_,_,_,_,_,_,_]) [3,4,5,6,7,8,9] rfl rfl,(cB [9,11] (by kernel_rfl) rfl ⟨(cE rfl rfl<|aO (bN (.r rfl) rfl)<|⟨bM (L1:=[_,_,_,_,_,_,_]) [3,4,5,6,7,8,9] rfl rfl,(cB [11] (by kernel_rfl) rfl ⟨(ic rfl<|bl 0 (vs:=[_,_,_,_,_,_,_]) (C':=[_,_,_,_,_,_,_]) (L':=[_,_,_,_,_,_,_,_,_,_]) l9 rfl rfl rfl rfl rfl rfl rfl rfl<|⟨bM (L1:=[_,_,_,_,_,_,_]) [3,4,5,6,7,8,9] rfl rfl,(cB [12] (by kernel_rfl) rfl ⟨(cE rfl rfl<|aO (LO.as (.r rfl))<|⟨bM (L1:=[_,_,_,_,_,_,_]) [3,4,5,6,7,8,9] rfl rfl,(ie (by kernel_rfl) (gn (.c4 rfl rfl rfl rfl (.c4 rfl rfl rfl rfl (.cons rfl (.cons rfl (.cons rfl .nil))))) (bM (L1:=[_,_,_]++[_,_,_,_,_,_,_]) [0,1,2,3,4,5,6,7,8,9] rfl rfl) (hf (yo,b33) hyo)))⟩),trivial⟩)⟩),trivial⟩)⟩),(ic rfl<|bl 0 (vs:=[_,_,_,_,_,_,_]) (C':=[_,_,_,_,_,_,_]) (L':=[_,_,_,_,_,_,_,_,_,_]) l9 rfl rfl rfl rfl rfl rfl rfl rfl<|⟨bM (L1:=[_,_,_,_,_,_,_]) [3,4,5,6,7,8,9] rfl rfl,(cB [9] (by kernel_rfl) rfl ⟨(cE rfl rfl<|aO (bN (.r rfl) rfl)<|⟨bM (L1:=[_,_,_,_,_,_,_]) [3,4,5,6,7,8,9] rfl rfl,(cB [12] (by kernel_rfl) rfl ⟨(cE rfl rfl<|aO (LO.as (.r rfl))<|⟨bM (L1:=[_,_,_,_,_,_,_]) [3,4,5,6,7,8,9] rfl rfl,(ie (by kernel_rfl) (gn (.c4 rfl rfl rfl rfl (.c4 rfl rfl rfl rfl (.cons rfl (.cons rfl (.cons rfl .nil))))) (bM (L1:=[_,_,_]++[_,_,_,_,_,_,_]) [0,1,2,3,4,5,6,7,8,9] rfl rfl) (hf (yo,b33) hyo)))⟩),trivial⟩)⟩),trivial⟩)⟩),trivial⟩)⟩),(cE rfl rfl<|aO (bN (.r rfl) rfl)<|⟨bM (L1:=[_,_,_,_,_,_,_]) [3,4,5,6,7,8,9] rfl rfl,(cB [8] (by kernel_rfl) rfl ⟨(cE rfl rfl<|aO (bN (.r rfl) rfl)<|⟨bM (L1:=[_,_,_,_,_,_,_]) [3,4,5,6,7,8,9] rfl rfl,(cB [11] (by kernel_rfl) rfl ⟨(ic rfl<|bl 0 (vs:=[_,_,_,_,_,_,_]) (C':=[_,_,_,_,_,_,_]) (L':=[_,_,_,_,_,_,_,_,_,_]) l9 rfl rfl rfl rfl rfl rfl rfl rfl<|⟨bM (L1:=[_,_,_,_,_,_,_]) [3,4,5,6,7,8,9] rfl rfl,(cB [12] (by kernel_rfl) rfl ⟨(cE rfl rfl<|aO (LO.as (.r rfl))<|⟨bM (L1:=[_,_,_,_,_,_,_]) [3,4,5,6,7,8,9] rfl rfl,(ie (by kernel_rfl) (gn (.c4 rfl rfl rfl rfl (.c4 rfl rfl rfl rfl (.cons rfl (.cons rfl (.cons rfl .nil))))) (bM (L1:=[_,_,_]++[_,_,_,_,_,_,_]) [0,1,2,3,4,5,6,7,8,9] rfl rfl) (hf (yo,b33) hyo)))⟩),trivial⟩)⟩),trivial⟩)⟩),trivial⟩)⟩),trivial⟩)⟩),trivial⟩)⟩),trivial⟩)⟩),(cE rfl rfl<|bI (C:=#[_,_,_,_,_,_,_]) sx rfl fun b31=>⟨bM (L1:=[_,_,_,_,_,_,_]) [1,2,3,4,5,6,7] rfl rfl,(cB [6] (by kernel_rfl) rfl ⟨(cE rfl rfl<|cz (xs:=[_,_,_,_]) (vs:=[_,_,_,_]) C69 ⟨(.r rfl),(.r rfl),(.r rfl),(.r rfl),trivial⟩ (fun w2 hw=>Zs (gw x) ar F w2 har3 har4 har5 har6 ((hAR.px ar harm).keep w2 hw) ((hAR.kr ar harm).keep w2 hw) hokc) fun yo hyo=>⟨bM (L1:=[_,_,_,_,_,_,_]) [3,4,5,6,7,8,9] rfl rfl,(cB [7] (by kernel_rfl) rfl ⟨(cE rfl rfl<|aO (bJ (.r rfl))<|⟨bM (L1:=[_,_,_,_,_,_,_]) [3,4,5,6,7,8,9] rfl rfl,(cB [8,9] (by kernel_rfl) rfl ⟨(cE rfl rfl<|aO (bN (.r rfl) rfl)<|⟨bM (L1:=[_,_,_,_,_,_,_]) [3,4,5,6,7,8,9] rfl rfl,(cB [9,11] (by kernel_rfl) rfl ⟨(cE rfl rfl<|aO (bN (.r rfl) rfl)<|⟨bM (L1:=[_,_,_,_,_,_,_]) [3,4,5,6,7,8,9] rfl rfl,(cB [11] (by kernel_rfl) rfl ⟨(ic rfl<|bl 2 (vs:=[_,_,_,_,_,_,_]) (C':=[_,_,_,_,_,_,_]) (L':=[_,_,_,_,_,_,_,_,_,_]) l9 rfl rfl rfl rfl rfl rfl rfl rfl<|⟨bM (L1:=[_,_,_,_,_,_,_]) [3,4,5,6,7,8,9] rfl rfl,(cB [12] (by kernel_rfl) rfl ⟨(cE rfl rfl<|aO (LO.as (.r rfl))<|⟨bM (L1:=[_,_,_,_,_,_,_]) [3,4,5,6,7,8,9] rfl rfl,(ie (by kernel_rfl) (gn (.c4 rfl rfl rfl rfl (.c4 rfl rfl rfl rfl (.cons rfl (.cons rfl (.cons rfl .nil))))) (bM (L1:=[_,_,_]++[_,_,_,_,_,_,_]) [2,0,1,3,4,5,6,7,8,9] rfl rfl) (hf (yo,b31) hyo)))⟩),trivial⟩)⟩),trivial⟩)⟩),(ic rfl<|bl 2 (vs:=[_,_,_,_,_,_,_]) (C':=[_,_,_,_,_,_,_]) (L':=[_,_,_,_,_,_,_,_,_,_]) l9 rfl rfl rfl rfl rfl rfl rfl rfl<|⟨bM (L1:=[_,_,_,_,_,_,_]) [3,4,5,6,7,8,9] rfl rfl,(cB [9] (by kernel_rfl) rfl ⟨(cE rfl rfl<|aO (bN (.r rfl) rfl)<|⟨bM (L1:=[_,_,_,_,_,_,_]) [3,4,5,6,7,8,9] rfl rfl,(cB [12] (by kernel_rfl) rfl ⟨(cE rfl rfl<|aO (LO.as (.r rfl))<|⟨bM (L1:=[_,_,_,_,_,_,_]) [3,4,5,6,7,8,9] rfl rfl,(ie (by kernel_rfl) (gn (.c4 rfl rfl rfl rfl (.c4 rfl rfl rfl rfl (.cons rfl (.cons rfl (.cons rfl .nil))))) (bM (L1:=[_,_,_]++[_,_,_,_,_,_,_]) [2,0,1,3,4,5,6,7,8,9] rfl rfl) (hf (yo,b31) hyo)))⟩),trivial⟩)⟩),trivial⟩)⟩),trivial⟩)⟩),(cE rfl rfl<|aO (bN (.r rfl) rfl)<|⟨bM (L1:=[_,_,_,_,_,_,_]) [3,4,5,6,7,8,9] rfl rfl,(cB [8] (by kernel_rfl) rfl ⟨(cE rfl rfl<|aO (bN (.r rfl) rfl)<|⟨bM (L1:=[_,_,_,_,_,_,_]) [3,4,5,6,7,8,9] rfl rfl,(cB [11] (by kernel_rfl) rfl ⟨(ic rfl<|bl 2 (vs:=[_,_,_,_,_,_,_]) (C':=[_,_,_,_,_,_,_]) (L':=[_,_,_,_,_,_,_,_,_,_]) l9 rfl rfl rfl rfl rfl rfl rfl rfl<|⟨bM (L1:=[_,_,_,_,_,_,_]) [3,4,5,6,7,8,9] rfl rfl,(cB [12] (by kernel_rfl) rfl ⟨(cE rfl rfl<|aO (LO.as (.r rfl))<|⟨bM (L1:=[_,_,_,_,_,_,_]) [3,4,5,6,7,8,9] rfl rfl,(ie (by kernel_rfl) (gn (.c4 rfl rfl rfl rfl (.c4 rfl rfl rfl rfl (.cons rfl (.cons rfl (.cons rfl .nil))))) (bM (L1:=[_,_,_]++[_,_,_,_,_,_,_]) [2,0,1,3,4,5,6,7,8,9] rfl rfl) (hf (yo,b31) hyo)))⟩),trivial⟩)⟩),trivial⟩)⟩),trivial⟩)⟩),trivial⟩)⟩),trivial⟩)⟩),trivial⟩)⟩),trivial⟩)) (fun y hy=>?_))
            obtain⟨yo,bo_⟩:=y
            have hyo:=hy
            dsimp only at hyo
            refine ag<|ak<|VC.q (VO.m rfl<|VO.u rfl<|VO.n<|ay rfl (fun h177=>?_) (fun h177=>?_))
            · (exfalso;exact h177 rfl)
            ·
             refine aC (ag<|aF (VO.m rfl<|ah (aM (vs:=[_,_,_,_,_,_,_]) Dx (.r rfl) (ax 0 rfl ⟨_,rfl⟩) rfl) rfl<|aD rfl<|HO.bs (ps:=[(_,_)]) (vs:=[(_,_)]) (Z:=[_,_,_,_,_,_,_]) (C:=[_,_,_,_,_,_,_]) MO sx l9 ⟨(.r rfl),trivial⟩ rfl rfl rfl rfl ⟨_,[_,_,_,_,_,_,_],[_,_,_,_,_,_,_],rfl,rfl,rfl,rfl,rfl⟩ fun b35=>aD rfl<|HO.kT ((CP.mk ⟨yo.s,qM ar.px.l,F,0⟩ yo.ps yo.cs yo.pm yo.cm)) 9 0 (fun R=>[_,_,_,_,_,_,_,_,_,R,_]) MO MO aeu (.r rfl) (.r rfl) rfl rfl rfl rfl rfl rfl rfl (fun _=>rfl) rfl (by omega) fun p3 c3=>aD rfl<|aO (LO.as (.r rfl))<|aI<|bB (ag<|aF (VO.m rfl<|VO.p rfl rfl (by omega) (by omega) rfl<|VO.a rfl<|aI<|bn fun a w ha hw=>⟨((i+1),(cl++[CP.mk ⟨yo.s,qM ar.px.l,F,0⟩ yo.ps yo.cs yo.pm yo.cm]),p3,c3,(YC++[own 3 1 yo.ps yo.cs (yo.s.map lT),own 3 1 yo.pm yo.cm ((qM ar.px.l).map lT)])),⟨by dsimp only;omega,hC.add (hcr yo.s hyo.1) ⟨hyo.2,by show(qM ar.px.l).length≤4096;omega⟩⟩,(by dsimp only;omega),ha.sub (.c4 rfl rfl rfl rfl (.c4 rfl rfl rfl rfl (.cons rfl .nil))),(by dsimp only;exact bM (L1:=[_,_]) [1,0] rfl rfl _ (zZ (XA:=YC) (fH (Rs:=[_,_]) (bM (L1:=[_,_,bS YC,_]) [2,3,10,9] rfl rfl _ hw))))⟩))))
      ·
       have hf:¬t.fr=0:=by rw[←htm];show ¬tr.fr=0;omega
       have hfit:=Vq (x1:=(-2)) (x2:=2) (y1:=(-2)) (y2:=2) x (by omega) (by omega)
       have hflow:Ap (-2) 2 (-2) 2 (iH x:Int) 0=Q8 x i t:=by rw[hfit.2];unfold Q8;rw[if_neg hf]
       obtain⟨F,hF⟩:∃F,F=Ap (-2) 2 (-2) 2 (iH x:Int) 0:=⟨_,rfl⟩
       have hFit:∀w2:World,Calls ae 68 #[.agg #[.int .i64 (-2),.int .i64 2],.agg #[.int .i64 (-2),.int .i64 2],.int .i64 (iH x:Int),.int .i64 0] w2 fun e w3=>e= .returned (.tuple #[uo F,.int .i64 0])∧St (bs w2) [] w3:=fun w2=>by have z:=ab0 (-2) 2 (-2) 2 (iH x:Int) 0 w2;rw[←hF,hfit.1]at z;exact z
       have hcr:∀u,qF (fW (qM (ar.kr.map fZ).flatten)) u→XT x s i ⟨u,qM ar.px.l,F,0⟩:=fun u hu=>⟨rfl,⟨_,har1,rfl⟩,by rw[har2]at hu;exact hu,⟨k,t,hMT,by rw[hF];exact hflow⟩⟩
       have hokc:∀u,qF (fW (qM (ar.kr.map fZ).flatten)) u→fy (gw x) ⟨u,qM ar.px.l,F,0⟩=0:=fun u hu=>(hcr u hu).ok
       have hpl:(qM ar.px.l).length=ar.px.l.length:=by unfold qM;rw[aq]
       refine aC (ag<|ak<|VC.gu [[0,1,2,3],[0,1,2,3],[0,1,2,3]] [some 1,some 1,some 1,some 1,some 1,some 1,some 1,some 2,none,none,some 2] mixed (by kernel_rfl) rfl (aA (fun _ hJ=>aM (vs:=[_,_]) xb (.r rfl) (fun _ hw=>aX (hJ _ hw) 1 rfl ⟨_,rfl⟩) rfl) rfl<|aA (fun _ hJ=>aM (vs:=[_,_]) xb (.r rfl) (fun _ hw=>aX (hJ _ hw) 0 rfl ⟨_,rfl⟩) rfl) rfl<|aA (fun _ hJ=>aM (vs:=[_,_,_,_,_,_,_]) F5 (.r rfl) (aW (aU (off:=0) hX1 ⟨_,rfl⟩)) rfl) rfl<|aA (fun _ hJ=>bD (xs:=[_]) (vs:=[_]) C22 ⟨(.r rfl),trivial⟩ (fun w _=>x7 x w hk)) rfl<|aA (fun _ hJ=>bD (xs:=[_,_,_,_]) (vs:=[_,_,_,_]) C68 ⟨(.r rfl),(.r rfl),(.r rfl),(.r rfl),trivial⟩ (fun w2 _=>hFit w2)) rfl<|LX.m rfl<|aA (fun _ hJ=>bN (.r rfl) rfl) rfl<|aA (fun _ hJ=>bN (.r rfl) rfl) rfl<|cn<|cn<|aA (fun _ hJ=>LO.as (.r rfl)) rfl<|dw) (au<|au<|au<|au<|au<|au<|au<|au<|HX.h rfl<|bI (C:=#[_,_,_,_]) Yw rfl fun b38=>⟨fun _ hw=>hw.fO [1,2,3,4] rfl,HX.h0<|bl 0 (vs:=[_,_,_,_]) (C':=[_,_,_,_]) (L':=[_,_,_,_,_]) RQ rfl rfl rfl rfl rfl rfl rfl rfl<|⟨fun _ hw=>hw.fO [1,2,3,4] rfl,au<|HX.nil ?_⟩⟩))
       refine ag<|ak<|VC.q (VO.m rfl<|VO.u rfl<|VO.n<|ay rfl (fun h165=>?_) (fun h165=>?_))
       · (exfalso;exact h165 rfl)
       ·
        refine aC (ag<|ak<|VC.abZ (G:=OfX×Nat) (fun y=>[(25,.pointer (some ⟨y.2,0,none⟩)),(17,.int .i64 0)]) [(1,_),(4,_),(5,_),(10,_),(11,_),(12,_),(13,_),(14,_),(15,_)] (fun y=>[de y.2 (.cells #[.slice y.1.ps y.1.s.length y.1.cs,.slice y.1.pm (qM ar.px.l).length y.1.cm,.int .i64 F.a,.int .i64 F.b,.int .i64 F.c,.int .i64 F.d,.int .i64 0] 218),own 3 1 y.1.ps y.1.cs (y.1.s.map lT),own 3 1 y.1.pm y.1.cm ((qM ar.px.l).map lT)]) [_,_,_,_,_] (fun y=>qF (fW (qM (ar.kr.map fZ).flatten)) y.1.s∧y.1.s.length≤4096) 8 [some 0,some 0,some 0,some 0,some 0,some 0,none,none,none,none,none,none,none] mixed (by kernel_rfl) (aA (fun _ hJ=>aM (vs:=[_,_,_,_,_]) vS (.r rfl) (aW (aU (off:=0) hG1 ⟨_,rfl⟩)) rfl) rfl<|LX.m rfl<|LX.m rfl<|aA (fun _ hJ=>cw BC Ny hAR.ar.sm (.r rfl) (.r rfl) rfl (by omega)) rfl<|aA (fun _ hJ=>aM (vs:=[_,_,_,_,_,_,_,_]) aeH (.r rfl) (fun w hw=>bq (off:=0) ((fun w3 h3=>gB (hAR.ar.keep w3 h3) har) w (hJ _ hw)) ⟨_,rfl⟩) rfl) rfl<|aA (fun _ hJ=>aM (vs:=[_,_,_,_]) EA (.r rfl) (fun _ hw=>aX (hJ _ hw) 0 rfl ⟨_,rfl⟩) rfl) rfl<|cn<|cn<|cn<|cn<|cn<|cn<|cn<|dw) (fun hf=>(cB [6,10] (by kernel_rfl) rfl ⟨(cE rfl rfl<|cz (xs:=[_,_,_,_]) (vs:=[_,_,_,_]) C69 ⟨(.r rfl),(.r rfl),(.r rfl),(.r rfl),trivial⟩ (fun w2 hw=>Zs (gw x) ar F w2 har3 har4 har5 har6 ((hAR.px ar harm).keep w2 hw) ((hAR.kr ar harm).keep w2 hw) hokc) fun yo hyo=>⟨bM (L1:=[_,_,_,_,_]) [2,3,4,5,6] rfl rfl,(cB [7,10] (by kernel_rfl) rfl ⟨(cE rfl rfl<|aO (bJ (.r rfl))<|⟨bM (L1:=[_,_,_,_,_]) [2,3,4,5,6] rfl rfl,(cB [8,9,10] (by kernel_rfl) rfl ⟨(cE rfl rfl<|aO (bN (.r rfl) rfl)<|⟨bM (L1:=[_,_,_,_,_]) [2,3,4,5,6] rfl rfl,(cB [9,10] (by kernel_rfl) rfl ⟨(cE rfl rfl<|aO (bN (.r rfl) rfl)<|⟨bM (L1:=[_,_,_,_,_]) [2,3,4,5,6] rfl rfl,(cB [10] (by kernel_rfl) rfl ⟨(cE rfl rfl<|bI (C:=#[_,_,_,_,_,_,_]) sx rfl fun b42=>⟨bM (L1:=[_,_,_,_,_]) [3,4,5,6,7] rfl rfl,(cB [11] (by kernel_rfl) rfl ⟨(ic rfl<|bl 0 (vs:=[_,_,_,_,_,_,_]) (C':=[_,_,_,_,_,_,_]) (L':=[_,_,_,_,_,_,_,_]) l9 rfl rfl rfl rfl rfl rfl rfl rfl<|⟨bM (L1:=[_,_,_,_,_]) [3,4,5,6,7] rfl rfl,(cB [12] (by kernel_rfl) rfl ⟨(cE rfl rfl<|aO (LO.as (.r rfl))<|⟨bM (L1:=[_,_,_,_,_]) [3,4,5,6,7] rfl rfl,(ie (by kernel_rfl) (gn (.c4 rfl rfl rfl rfl (.c4 rfl rfl rfl rfl (.cons rfl (.cons rfl (.cons rfl .nil))))) (bM (L1:=[_,_,_]++[_,_,_,_,_]) [0,1,2,3,4,5,6,7] rfl rfl) (hf (yo,b42) hyo)))⟩),trivial⟩)⟩),trivial⟩)⟩),trivial⟩)⟩),(cE rfl rfl<|bI (C:=#[_,_,_,_,_,_,_]) sx rfl fun b42=>⟨bM (L1:=[_,_,_,_,_]) [3,4,5,6,7] rfl rfl,(cB [9,11] (by kernel_rfl) rfl ⟨(cE rfl rfl<|aO (bN (.r rfl) rfl)<|⟨bM (L1:=[_,_,_,_,_]) [3,4,5,6,7] rfl rfl,(cB [11] (by kernel_rfl) rfl ⟨(ic rfl<|bl 0 (vs:=[_,_,_,_,_,_,_]) (C':=[_,_,_,_,_,_,_]) (L':=[_,_,_,_,_,_,_,_]) l9 rfl rfl rfl rfl rfl rfl rfl rfl<|⟨bM (L1:=[_,_,_,_,_]) [3,4,5,6,7] rfl rfl,(cB [12] (by kernel_rfl) rfl ⟨(cE rfl rfl<|aO (LO.as (.r rfl))<|⟨bM (L1:=[_,_,_,_,_]) [3,4,5,6,7] rfl rfl,(ie (by kernel_rfl) (gn (.c4 rfl rfl rfl rfl (.c4 rfl rfl rfl rfl (.cons rfl (.cons rfl (.cons rfl .nil))))) (bM (L1:=[_,_,_]++[_,_,_,_,_]) [0,1,2,3,4,5,6,7] rfl rfl) (hf (yo,b42) hyo)))⟩),trivial⟩)⟩),trivial⟩)⟩),(ic rfl<|bl 0 (vs:=[_,_,_,_,_,_,_]) (C':=[_,_,_,_,_,_,_]) (L':=[_,_,_,_,_,_,_,_]) l9 rfl rfl rfl rfl rfl rfl rfl rfl<|⟨bM (L1:=[_,_,_,_,_]) [3,4,5,6,7] rfl rfl,(cB [9] (by kernel_rfl) rfl ⟨(cE rfl rfl<|aO (bN (.r rfl) rfl)<|⟨bM (L1:=[_,_,_,_,_]) [3,4,5,6,7] rfl rfl,(cB [12] (by kernel_rfl) rfl ⟨(cE rfl rfl<|aO (LO.as (.r rfl))<|⟨bM (L1:=[_,_,_,_,_]) [3,4,5,6,7] rfl rfl,(ie (by kernel_rfl) (gn (.c4 rfl rfl rfl rfl (.c4 rfl rfl rfl rfl (.cons rfl (.cons rfl (.cons rfl .nil))))) (bM (L1:=[_,_,_]++[_,_,_,_,_]) [0,1,2,3,4,5,6,7] rfl rfl) (hf (yo,b42) hyo)))⟩),trivial⟩)⟩),trivial⟩)⟩),trivial⟩)⟩),trivial⟩)⟩),(cE rfl rfl<|aO (bN (.r rfl) rfl)<|⟨bM (L1:=[_,_,_,_,_]) [2,3,4,5,6] rfl rfl,(cB [8,10] (by kernel_rfl) rfl ⟨(cE rfl rfl<|aO (bN (.r rfl) rfl)<|⟨bM (L1:=[_,_,_,_,_]) [2,3,4,5,6] rfl rfl,(cB [10] (by kernel_rfl) rfl ⟨(cE rfl rfl<|bI (C:=#[_,_,_,_,_,_,_]) sx rfl fun b42=>⟨bM (L1:=[_,_,_,_,_]) [3,4,5,6,7] rfl rfl,(cB [11] (by kernel_rfl) rfl ⟨(ic rfl<|bl 0 (vs:=[_,_,_,_,_,_,_]) (C':=[_,_,_,_,_,_,_]) (L':=[_,_,_,_,_,_,_,_]) l9 rfl rfl rfl rfl rfl rfl rfl rfl<|⟨bM (L1:=[_,_,_,_,_]) [3,4,5,6,7] rfl rfl,(cB [12] (by kernel_rfl) rfl ⟨(cE rfl rfl<|aO (LO.as (.r rfl))<|⟨bM (L1:=[_,_,_,_,_]) [3,4,5,6,7] rfl rfl,(ie (by kernel_rfl) (gn (.c4 rfl rfl rfl rfl (.c4 rfl rfl rfl rfl (.cons rfl (.cons rfl (.cons rfl .nil))))) (bM (L1:=[_,_,_]++[_,_,_,_,_]) [0,1,2,3,4,5,6,7] rfl rfl) (hf (yo,b42) hyo)))⟩),trivial⟩)⟩),trivial⟩)⟩),trivial⟩)⟩),(cE rfl rfl<|bI (C:=#[_,_,_,_,_,_,_]) sx rfl fun b42=>⟨bM (L1:=[_,_,_,_,_]) [3,4,5,6,7] rfl rfl,(cB [8] (by kernel_rfl) rfl ⟨(cE rfl rfl<|aO (bN (.r rfl) rfl)<|⟨bM (L1:=[_,_,_,_,_]) [3,4,5,6,7] rfl rfl,(cB [11] (by kernel_rfl) rfl ⟨(ic rfl<|bl 0 (vs:=[_,_,_,_,_,_,_]) (C':=[_,_,_,_,_,_,_]) (L':=[_,_,_,_,_,_,_,_]) l9 rfl rfl rfl rfl rfl rfl rfl rfl<|⟨bM (L1:=[_,_,_,_,_]) [3,4,5,6,7] rfl rfl,(cB [12] (by kernel_rfl) rfl ⟨(cE rfl rfl<|aO (LO.as (.r rfl))<|⟨bM (L1:=[_,_,_,_,_]) [3,4,5,6,7] rfl rfl,(ie (by kernel_rfl) (gn (.c4 rfl rfl rfl rfl (.c4 rfl rfl rfl rfl (.cons rfl (.cons rfl (.cons rfl .nil))))) (bM (L1:=[_,_,_]++[_,_,_,_,_]) [0,1,2,3,4,5,6,7] rfl rfl) (hf (yo,b42) hyo)))⟩),trivial⟩)⟩),trivial⟩)⟩),trivial⟩)⟩),trivial⟩)⟩),(cE rfl rfl<|bI (C:=#[_,_,_,_,_,_,_]) sx rfl fun b42=>⟨bM (L1:=[_,_,_,_,_]) [3,4,5,6,7] rfl rfl,(cB [8,9] (by kernel_rfl) rfl ⟨(cE rfl rfl<|aO (bN (.r rfl) rfl)<|⟨bM (L1:=[_,_,_,_,_]) [3,4,5,6,7] rfl rfl,(cB [9,11] (by kernel_rfl) rfl ⟨(cE rfl rfl<|aO (bN (.r rfl) rfl)<|⟨bM (L1:=[_,_,_,_,_]) [3,4,5,6,7] rfl rfl,(cB [11] (by kernel_rfl) rfl ⟨(ic rfl<|bl 0 (vs:=[_,_,_,_,_,_,_]) (C':=[_,_,_,_,_,_,_]) (L':=[_,_,_,_,_,_,_,_]) l9 rfl rfl rfl rfl rfl rfl rfl rfl<|⟨bM (L1:=[_,_,_,_,_]) [3,4,5,6,7] rfl rfl,(cB [12] (by kernel_rfl) rfl ⟨(cE rfl rfl<|aO (LO.as (.r rfl))<|⟨bM (L1:=[_,_,_,_,_]) [3,4,5,6,7] rfl rfl,(ie (by kernel_rfl) (gn (.c4 rfl rfl rfl rfl (.c4 rfl rfl rfl rfl (.cons rfl (.cons rfl (.cons rfl .nil))))) (bM (L1:=[_,_,_]++[_,_,_,_,_]) [0,1,2,3,4,5,6,7] rfl rfl) (hf (yo,b42) hyo)))⟩),trivial⟩)⟩),trivial⟩)⟩),(ic rfl<|bl 0 (vs:=[_,_,_,_,_,_,_]) (C':=[_,_,_,_,_,_,_]) (L':=[_,_,_,_,_,_,_,_]) l9 rfl rfl rfl rfl rfl rfl rfl rfl<|⟨bM (L1:=[_,_,_,_,_]) [3,4,5,6,7] rfl rfl,(cB [9] (by kernel_rfl) rfl ⟨(cE rfl rfl<|aO (bN (.r rfl) rfl)<|⟨bM (L1:=[_,_,_,_,_]) [3,4,5,6,7] rfl rfl,(cB [12] (by kernel_rfl) rfl ⟨(cE rfl rfl<|aO (LO.as (.r rfl))<|⟨bM (L1:=[_,_,_,_,_]) [3,4,5,6,7] rfl rfl,(ie (by kernel_rfl) (gn (.c4 rfl rfl rfl rfl (.c4 rfl rfl rfl rfl (.cons rfl (.cons rfl (.cons rfl .nil))))) (bM (L1:=[_,_,_]++[_,_,_,_,_]) [0,1,2,3,4,5,6,7] rfl rfl) (hf (yo,b42) hyo)))⟩),trivial⟩)⟩),trivial⟩)⟩),trivial⟩)⟩),(cE rfl rfl<|aO (bN (.r rfl) rfl)<|⟨bM (L1:=[_,_,_,_,_]) [3,4,5,6,7] rfl rfl,(cB [8] (by kernel_rfl) rfl ⟨(cE rfl rfl<|aO (bN (.r rfl) rfl)<|⟨bM (L1:=[_,_,_,_,_]) [3,4,5,6,7] rfl rfl,(cB [11] (by kernel_rfl) rfl ⟨(ic rfl<|bl 0 (vs:=[_,_,_,_,_,_,_]) (C':=[_,_,_,_,_,_,_]) (L':=[_,_,_,_,_,_,_,_]) l9 rfl rfl rfl rfl rfl rfl rfl rfl<|⟨bM (L1:=[_,_,_,_,_]) [3,4,5,6,7] rfl rfl,(cB [12] (by kernel_rfl) rfl ⟨(cE rfl rfl<|aO (LO.as (.r rfl))<|⟨bM (L1:=[_,_,_,_,_]) [3,4,5,6,7] rfl rfl,(ie (by kernel_rfl) (gn (.c4 rfl rfl rfl rfl (.c4 rfl rfl rfl rfl (.cons rfl (.cons rfl (.cons rfl .nil))))) (bM (L1:=[_,_,_]++[_,_,_,_,_]) [0,1,2,3,4,5,6,7] rfl rfl) (hf (yo,b42) hyo)))⟩),trivial⟩)⟩),trivial⟩)⟩),trivial⟩)⟩),trivial⟩)⟩),trivial⟩)⟩),(cE rfl rfl<|bI (C:=#[_,_,_,_,_,_,_]) sx rfl fun b42=>⟨bM (L1:=[_,_,_,_,_]) [3,4,5,6,7] rfl rfl,(cB [7] (by kernel_rfl) rfl ⟨(cE rfl rfl<|aO (bJ (.r rfl))<|⟨bM (L1:=[_,_,_,_,_]) [3,4,5,6,7] rfl rfl,(cB [8,9] (by kernel_rfl) rfl ⟨(cE rfl rfl<|aO (bN (.r rfl) rfl)<|⟨bM (L1:=[_,_,_,_,_]) [3,4,5,6,7] rfl rfl,(cB [9,11] (by kernel_rfl) rfl ⟨(cE rfl rfl<|aO (bN (.r rfl) rfl)<|⟨bM (L1:=[_,_,_,_,_]) [3,4,5,6,7] rfl rfl,(cB [11] (by kernel_rfl) rfl ⟨(ic rfl<|bl 0 (vs:=[_,_,_,_,_,_,_]) (C':=[_,_,_,_,_,_,_]) (L':=[_,_,_,_,_,_,_,_]) l9 rfl rfl rfl rfl rfl rfl rfl rfl<|⟨bM (L1:=[_,_,_,_,_]) [3,4,5,6,7] rfl rfl,(cB [12] (by kernel_rfl) rfl ⟨(cE rfl rfl<|aO (LO.as (.r rfl))<|⟨bM (L1:=[_,_,_,_,_]) [3,4,5,6,7] rfl rfl,(ie (by kernel_rfl) (gn (.c4 rfl rfl rfl rfl (.c4 rfl rfl rfl rfl (.cons rfl (.cons rfl (.cons rfl .nil))))) (bM (L1:=[_,_,_]++[_,_,_,_,_]) [0,1,2,3,4,5,6,7] rfl rfl) (hf (yo,b42) hyo)))⟩),trivial⟩)⟩),trivial⟩)⟩),(ic rfl<|bl 0 (vs:=[_,_,_,_,_,_,_]) (C':=[_,_,_,_,_,_,_]) (L':=[_,_,_,_,_,_,_,_]) l9 rfl rfl rfl rfl rfl rfl rfl rfl<|⟨bM (L1:=[_,_,_,_,_]) [3,4,5,6,7] rfl rfl,(cB [9] (by kernel_rfl) rfl ⟨(cE rfl rfl<|aO (bN (.r rfl) rfl)<|⟨bM (L1:=[_,_,_,_,_]) [3,4,5,6,7] rfl rfl,(cB [12] (by kernel_rfl) rfl ⟨(cE rfl rfl<|aO (LO.as (.r rfl))<|⟨bM (L1:=[_,_,_,_,_]) [3,4,5,6,7] rfl rfl,(ie (by kernel_rfl) (gn (.c4 rfl rfl rfl rfl (.c4 rfl rfl rfl rfl (.cons rfl (.cons rfl (.cons rfl .nil))))) (bM (L1:=[_,_,_]++[_,_,_,_,_]) [0,1,2,3,4,5,6,7] rfl rfl) (hf (yo,b42) hyo)))⟩),trivial⟩)⟩),trivial⟩)⟩),trivial⟩)⟩),(cE rfl rfl<|aO (bN (.r rfl) rfl)<|⟨bM (L1:=[_,_,_,_,_]) [3,4,5,6,7] rfl rfl,(cB [8] (by kernel_rfl) rfl ⟨(cE rfl rfl<|aO (bN (.r rfl) rfl)<|⟨bM (L1:=[_,_,_,_,_]) [3,4,5,6,7] rfl rfl,(cB [11] (by kernel_rfl) rfl ⟨(ic rfl<|bl 0 (vs:=[_,_,_,_,_,_,_]) (C':=[_,_,_,_,_,_,_]) (L':=[_,_,_,_,_,_,_,_]) l9 rfl rfl rfl rfl rfl rfl rfl rfl<|⟨bM (L1:=[_,_,_,_,_]) [3,4,5,6,7] rfl rfl,(cB [12] (by kernel_rfl) rfl ⟨(cE rfl rfl<|aO (LO.as (.r rfl))<|⟨bM (L1:=[_,_,_,_,_]) [3,4,5,6,7] rfl rfl,(ie (by kernel_rfl) (gn (.c4 rfl rfl rfl rfl (.c4 rfl rfl rfl rfl (.cons rfl (.cons rfl (.cons rfl .nil))))) (bM (L1:=[_,_,_]++[_,_,_,_,_]) [0,1,2,3,4,5,6,7] rfl rfl) (hf (yo,b42) hyo)))⟩),trivial⟩)⟩),trivial⟩)⟩),trivial⟩)⟩),trivial⟩)⟩),trivial⟩)⟩),trivial⟩)⟩),(cE rfl rfl<|bI (C:=#[_,_,_,_,_,_,_]) sx rfl fun b40=>⟨bM (L1:=[_,_,_,_,_]) [1,2,3,4,5] rfl rfl,(cB [6] (by kernel_rfl) rfl ⟨(cE rfl rfl<|cz (xs:=[_,_,_,_]) (vs:=[_,_,_,_]) C69 ⟨(.r rfl),(.r rfl),(.r rfl),(.r rfl),trivial⟩ (fun w2 hw=>Zs (gw x) ar F w2 har3 har4 har5 har6 ((hAR.px ar harm).keep w2 hw) ((hAR.kr ar harm).keep w2 hw) hokc) fun yo hyo=>⟨bM (L1:=[_,_,_,_,_]) [3,4,5,6,7] rfl rfl,(cB [7] (by kernel_rfl) rfl ⟨(cE rfl rfl<|aO (bJ (.r rfl))<|⟨bM (L1:=[_,_,_,_,_]) [3,4,5,6,7] rfl rfl,(cB [8,9] (by kernel_rfl) rfl ⟨(cE rfl rfl<|aO (bN (.r rfl) rfl)<|⟨bM (L1:=[_,_,_,_,_]) [3,4,5,6,7] rfl rfl,(cB [9,11] (by kernel_rfl) rfl ⟨(cE rfl rfl<|aO (bN (.r rfl) rfl)<|⟨bM (L1:=[_,_,_,_,_]) [3,4,5,6,7] rfl rfl,(cB [11] (by kernel_rfl) rfl ⟨(ic rfl<|bl 2 (vs:=[_,_,_,_,_,_,_]) (C':=[_,_,_,_,_,_,_]) (L':=[_,_,_,_,_,_,_,_]) l9 rfl rfl rfl rfl rfl rfl rfl rfl<|⟨bM (L1:=[_,_,_,_,_]) [3,4,5,6,7] rfl rfl,(cB [12] (by kernel_rfl) rfl ⟨(cE rfl rfl<|aO (LO.as (.r rfl))<|⟨bM (L1:=[_,_,_,_,_]) [3,4,5,6,7] rfl rfl,(ie (by kernel_rfl) (gn (.c4 rfl rfl rfl rfl (.c4 rfl rfl rfl rfl (.cons rfl (.cons rfl (.cons rfl .nil))))) (bM (L1:=[_,_,_]++[_,_,_,_,_]) [2,0,1,3,4,5,6,7] rfl rfl) (hf (yo,b40) hyo)))⟩),trivial⟩)⟩),trivial⟩)⟩),(ic rfl<|bl 2 (vs:=[_,_,_,_,_,_,_]) (C':=[_,_,_,_,_,_,_]) (L':=[_,_,_,_,_,_,_,_]) l9 rfl rfl rfl rfl rfl rfl rfl rfl<|⟨bM (L1:=[_,_,_,_,_]) [3,4,5,6,7] rfl rfl,(cB [9] (by kernel_rfl) rfl ⟨(cE rfl rfl<|aO (bN (.r rfl) rfl)<|⟨bM (L1:=[_,_,_,_,_]) [3,4,5,6,7] rfl rfl,(cB [12] (by kernel_rfl) rfl ⟨(cE rfl rfl<|aO (LO.as (.r rfl))<|⟨bM (L1:=[_,_,_,_,_]) [3,4,5,6,7] rfl rfl,(ie (by kernel_rfl) (gn (.c4 rfl rfl rfl rfl (.c4 rfl rfl rfl rfl (.cons rfl (.cons rfl (.cons rfl .nil))))) (bM (L1:=[_,_,_]++[_,_,_,_,_]) [2,0,1,3,4,5,6,7] rfl rfl) (hf (yo,b40) hyo)))⟩),trivial⟩)⟩),trivial⟩)⟩),trivial⟩)⟩),(cE rfl rfl<|aO (bN (.r rfl) rfl)<|⟨bM (L1:=[_,_,_,_,_]) [3,4,5,6,7] rfl rfl,(cB [8] (by kernel_rfl) rfl ⟨(cE rfl rfl<|aO (bN (.r rfl) rfl)<|⟨bM (L1:=[_,_,_,_,_]) [3,4,5,6,7] rfl rfl,(cB [11] (by kernel_rfl) rfl ⟨(ic rfl<|bl 2 (vs:=[_,_,_,_,_,_,_]) (C':=[_,_,_,_,_,_,_]) (L':=[_,_,_,_,_,_,_,_]) l9 rfl rfl rfl rfl rfl rfl rfl rfl<|⟨bM (L1:=[_,_,_,_,_]) [3,4,5,6,7] rfl rfl,(cB [12] (by kernel_rfl) rfl ⟨(cE rfl rfl<|aO (LO.as (.r rfl))<|⟨bM (L1:=[_,_,_,_,_]) [3,4,5,6,7] rfl rfl,(ie (by kernel_rfl) (gn (.c4 rfl rfl rfl rfl (.c4 rfl rfl rfl rfl (.cons rfl (.cons rfl (.cons rfl .nil))))) (bM (L1:=[_,_,_]++[_,_,_,_,_]) [2,0,1,3,4,5,6,7] rfl rfl) (hf (yo,b40) hyo)))⟩),trivial⟩)⟩),trivial⟩)⟩),trivial⟩)⟩),trivial⟩)⟩),trivial⟩)⟩),trivial⟩)⟩),trivial⟩)) (fun y hy=>?_))
        obtain⟨yo,bo_⟩:=y
        have hyo:=hy
        dsimp only at hyo
        refine ag<|ak<|VC.q (VO.m rfl<|VO.u rfl<|VO.n<|ay rfl (fun h177=>?_) (fun h177=>?_))
        · (exfalso;exact h177 rfl)
        ·
         refine aC (ag<|aF (VO.m rfl<|ah (aM (vs:=[_,_,_,_,_,_,_]) Dx (.r rfl) (ax 0 rfl ⟨_,rfl⟩) rfl) rfl<|aD rfl<|HO.bs (ps:=[(_,_)]) (vs:=[(_,_)]) (Z:=[_,_,_,_,_,_,_]) (C:=[_,_,_,_,_,_,_]) MO sx l9 ⟨(.r rfl),trivial⟩ rfl rfl rfl rfl ⟨_,[_,_,_,_,_,_,_],[_,_,_,_,_,_,_],rfl,rfl,rfl,rfl,rfl⟩ fun b44=>aD rfl<|HO.kT ((CP.mk ⟨yo.s,qM ar.px.l,F,0⟩ yo.ps yo.cs yo.pm yo.cm)) 7 0 (fun R=>[_,_,_,_,_,_,_,R,_]) MO MO aeu (.r rfl) (.r rfl) rfl rfl rfl rfl rfl rfl rfl (fun _=>rfl) rfl (by omega) fun p3 c3=>aD rfl<|aO (LO.as (.r rfl))<|aI<|bB (ag<|aF (VO.m rfl<|VO.p rfl rfl (by omega) (by omega) rfl<|VO.a rfl<|aI<|bn fun a w ha hw=>⟨((i+1),(cl++[CP.mk ⟨yo.s,qM ar.px.l,F,0⟩ yo.ps yo.cs yo.pm yo.cm]),p3,c3,(YC++[own 3 1 yo.ps yo.cs (yo.s.map lT),own 3 1 yo.pm yo.cm ((qM ar.px.l).map lT)])),⟨by dsimp only;omega,hC.add (hcr yo.s hyo.1) ⟨hyo.2,by show(qM ar.px.l).length≤4096;omega⟩⟩,(by dsimp only;omega),ha.sub (.c4 rfl rfl rfl rfl (.c4 rfl rfl rfl rfl (.cons rfl .nil))),(by dsimp only;exact bM (L1:=[_,_]) [1,0] rfl rfl _ (zZ (XA:=YC) (fH (Rs:=[_,_]) (bM (L1:=[_,_,bS YC,_]) [2,3,8,7] rfl rfl _ hw))))⟩))))
    ·
     have hie:i=ya.l.length:=by omega
     refine ca (aL (aL (cD (ag<|VC.q (VO.m rfl<|VO.a rfl<|VO.a rfl<|VO.n<|aP (dh (vs:=[_,_]) rfl ⟨rfl,rfl,trivial⟩ (fun w hw=>?_)))))))
     have z:=hw1.call hw
     exact⟨⟨cl,po,co,YC,s⟩,⟨by rw[←hall];exact hC.n.trans hie,hC.rd,hC.ln,⟨h.bm,XA,hB.b⟩,hC.cr⟩,rfl,bM (L1:=[_,_]) [0,1] rfl rfl _ z⟩
theorem Dh {Rs:List cq} {w:World} (h:Has w [bS Rs]):Has w Rs:=by
 have z:=Has.aaY (R:=[]) h
 rw[c9]at z
 exact z
section
variable {s:Sp} {es:List nU} {n:Nat} {o:iG} {w:World}
theorem aif (g:cU) (l:List RG) (pl:Option Addr) (cl:Nat) (a b d:Int) (w:World) (es:List nU) (hll:l.length<1000000000000) (hl:Aq w pl l) (hs:j0 ⟨g,l.map RG.r,a,b,d⟩=0):
 Calls ae 21 #[Dw g pl l.length cl a b d] w fun e w'=>∃o:iG,HU ⟨g,l.map RG.r,a,b,d⟩ es o 0∧e= .returned (.tuple #[jR o.b,.int .i64 0])∧St (bs w) [bS (kh o)] w':=
 (aiU g l pl cl a b d w hll hl hs).mono fun e w' ⟨o,h1,h2,h3⟩=>⟨o,XN h1 rfl hs (fun x hx=>(hl.ok x hx).2),h2,fH (Rs:=kh o) (L:=[]) (by rw[c9];exact h3)⟩
structure StJ where
 o:iG
 es:List Ev
 p:Option Addr
 c:Nat
theorem aed (hB:HU s es o n) {x:nU} (hx:es[n]? =some x) (hlv:x.lv=0) (he:SV s (es.take n) x=0) (m:List CP) (pm:Option Addr) (cm:Nat) (hm:m.map iJ=x.l) (w:World) (hh:Has w [bS (kh o)]) (hcl:∀{L:List cq} {v:World},St ⟨w,lu [bS (kh o)]⟩ L v→l0 v pm m) (hcn:m.length<1000000000) (hcb:∀q,q∈m→q.c.sure.length≤4096∧q.c.may.length≤4096):
  Calls ae 23 #[jR o.b,.int .i64 x.t,.slice pm m.length cm] w fun e w'=>∃y:StJ,(HU s es y.o (n+1)∧y.o.b=o.b∧y.es=P6 s.hold s.fI.length (kq s (es.take n)) ⟨x.t,wF s x.l⟩)∧e= .returned (.tuple #[.slice y.p y.es.length y.c,.int .i64 0])∧St ⟨w,lu [bS (kh o)]⟩ [bS (kh y.o),own 239 7 y.p y.c (y.es.map zP)] w':=by
 have hfp:lu [bS (kh o)]=lu (kh o):=GH
 rw[hfp]at hcl ⊢
 have hk:Zi o x.t x.l=0:=by rw[hB.a.st hlv];exact he
 have hts:=hB.a.wB.wf.ts
 unfold Zi at hk
 split at hk
 ·exact absurd hk (by decide)
 ·rename_i k1
  split at hk
  ·exact absurd hk (by decide)
  ·rename_i k2
   split at hk
   ·exact absurd hk (by decide)
   ·rename_i k3
    have k1':=cL.1 k1
    have hlate:o.ts=[]∨ko o.ts<x.t:=by
     by_cases q:o.ts=[]
     ·exact .inl q
     ·refine .inr ?_
      have:0<o.ts.length:=List.length_pos_iff.2 q
      by_cases z:x.t≤ko o.ts
      ·exact absurd ⟨this,z⟩ k2
      ·omega
    refine(ac9 o _ x.t m pm cm w (Dh hh) hcl hcn hB.a.wB k1'.1 k1'.2 hlate (by omega) (by rw[hm];exact hk)).mono fun e w' ⟨y,⟨h1,h2,h3⟩,h4,h5⟩=>?_
    have hgs:o.sp=s:=hB.a.sp
    rw[hm]at h1 h2 h3
    refine⟨⟨y.o o x.t,y.es,y.pe,y.ce⟩,⟨hB.step hx hlv ⟨by rw[←hm,aq];exact hcn,fun c hc=>?_⟩ h1 h2,rfl,?_⟩,h4,?_⟩
    ·rw[←hm]at hc
     obtain⟨q,hq,rfl⟩:=bQ.1 hc
     have:=hcb q hq
     omega
    ·rw[h3,hB.a.hold,hB.a.n,hgs]
    ·have h6:St ⟨w,lu (kh o)⟩ ([own 239 7 y.pe y.ce (y.es.map zP)]++kh (y.o o x.t)) w':=h5
     exact fH (Rs:=kh (y.o o x.t)) (L:=[_]) (h6.perm List.perm_append_comm)
theorem V2 (hB:HU s es o n) {x:nU} (hx:es[n]? =some x) (hlv:¬x.lv=0) (he:SV s (es.take n) x=0) (hn:n≤256) {b0:Nat} (hb0:o.b=b0) (pv:Option Addr) (cv:Nat) (w:World) (hh:Has w [bS (kh o)]) (hv:∀{L:List cq} {v:World},St ⟨w,lu [bS (kh o)]⟩ L v→lP v pv x.vs):
  Calls ae 24 #[jR b0,.int .i64 x.t,.agg #[.int .i64 x.g.x,.int .i64 x.g.y,.int .i64 x.g.size,.int .i64 x.g.wide,.int .i64 x.g.high,.slice pv x.vs.length cv],.int .i64 x.lv] w fun e w'=>∃y:iG,(HU s es y (n+1)∧y.b=b0)∧e= .returned (.int .i64 0)∧St ⟨w,lu [bS (kh o)]⟩ [bS (kh y)] w':=by
 subst hb0
 have hfp:lu [bS (kh o)]=lu (kh o):=GH
 rw[hfp]at hv ⊢
 have hw:=hB.a.wB.wf.n
 refine(aek o x.t ⟨x.g,x.vs⟩ pv cv x.lv w ⟨hw.1,by have:=hw.2;omega⟩ (Dh hh) hv (by rw[hB.a.nt hlv];exact he)).mono fun e w' ⟨y,_,h2,h3⟩=>⟨_,⟨hB.note (p:=y.1.1) (c:=y.1.2) (q:=y.2.1) (d:=y.2.2) hx hlv he,rfl⟩,h2,?_⟩
 exact fH (L:=[]) (by rw[c9];exact h3)
end
section
variable {x:El}
theorem rq:∀{i:Nat} {r:RE},r∈jq x i→∃j,j<i∧r=⟨HV j,sr x j (Eo x)⟩∧sr x j (Eo x)≠[]
 |0,r,h=>by cases h
 |i+1,r,h=>by
  unfold jq at h
  split at h
  ·obtain⟨j,h1,h2⟩:=rq h;exact⟨j,by omega,h2⟩
  ·rename_i q
   rcases bZ.1 h with z|z
   ·obtain⟨j,h1,h2⟩:=rq z;exact⟨j,by omega,h2⟩
   ·simp at z;exact⟨i,by omega,z,q⟩
theorem zX:∀{i:Nat},i≤3→(jq x i).Pairwise (fun r s=>r.name≠s.name)
 |0,_=>wj
 |i+1,hi=>by
  unfold jq
  split
  ·exact zX (by omega)
  ·rw[List.pairwise_append]
   refine⟨zX (by omega),by simp,fun r hr s hs=>?_⟩
   simp at hs;subst hs
   obtain⟨j,h1,h2,_⟩:=rq hr
   subst h2
   intro e
   have:=Zu (by omega) (by omega) e
   omega
theorem IS {i n:Nat}:Asc n (sr x i n):=M7 _
theorem VZ {r:RE} (h:r∈jq x 3):(∀n,n∈r.pix→0≤n∧n<(gA x.m*kK x.m:Nat))∧r.pix.length≤64:=by
 obtain⟨j,_,rfl,_⟩:=rq h
 have ha:=rS x.m
 refine⟨fun n hn=>IS.2 n hn,?_⟩
 have:=Jv (x:=x) (i:=j) (n:=Eo x)
 unfold Eo at this
 show(sr x j (Eo x)).length≤64
 unfold Eo
 omega
theorem Ze (hne:jq x 3≠[]):j0 ⟨gw x.m,jq x 3,(iH x.m:Int),(iH x.m:Int),(iH x.m:Int)⟩=0:=by
 have hT:=qk x.m
 have hlen:=tg (x:=x) 3
 unfold j0
 dsimp only
 have hz:gy (u9 (gw x.m) (jq x 3)) (jq x 3).length=0:=by
  refine iw fun k hk=>?_
  obtain⟨j,h1,h2,h3⟩:=rq (kQ (d:=default) hk)
  unfold u9
  rw[if_neg,if_neg,h2]
  ·unfold ot
   rw[if_neg h3]
   refine iw fun m hm=>?_
   have ha:=IS (x:=x) (i:=j) (n:=Eo x)
   have hb:=ha.2 _ (kQ (d:=0) hm)
   have e:(gw x.m).wide*(gw x.m).high=((Eo x:Nat):Int):=(dB _ _).symm
   show lO (gw x.m) (sr x j (Eo x)) m=0
   unfold lO
   rw[e,if_neg (fun q=>q ⟨hb.1,by omega⟩),if_neg]
   rintro ⟨z1,z2⟩
   have:=adO ha z1 hm
   omega
  ·intro q
   unfold EM at q
   rw[List.any_eq_true]at q
   obtain⟨r,hr,e⟩:=q
   obtain⟨i,hi⟩:=List.mem_iff_getElem?.1 hr
   rw[List.getElem?_take]at hi
   split at hi
   ·rename_i q
    obtain⟨z1,z2⟩:=aj.1 hi
    have:=be.1 (zX (x:=x) (bA 3)) i k z1 hk q
    rw[z2]at this
    have e2:(jq x 3).getD k default=(jq x 3)[k]:=by rw[av,af hk];rfl
    exact this (by rw[←e2];exact(of_decide_eq_true e).symm)
   ·cases hi
  ·intro q
   rw[h2]at q
   exact q (aeT h1)
 rw[if_neg (fun q=>q (PJ x.m)),if_neg hne,if_neg (by omega),if_neg (fun q=>q hz),if_neg (fun q=>q ⟨⟨by dsimp only;omega,by dsimp only;omega⟩,⟨by dsimp only;omega,by dsimp only;omega⟩,by dsimp only;omega,by dsimp only;omega⟩)]
theorem C7 {w:World} {p:Option Addr} {c:Nat} {rgs:List RG} (hX:rgs.map RG.r=jq x 3) (h1:(own 193 2 p c (rgs.map RG.cells)).inv w) (h2:(bS (rgs.map Dr)).inv w):Aq w p rgs:=by
 refine⟨eI h1,fun y hy=>⟨Cr h2 hy,?_⟩⟩
 have h4:y.r∈jq x 3:=by rw[←hX];exact bE hy
 have:=(VZ h4).2
 omega
end
section
variable {x:mj} {l:List cZ} {s:Sp} {y:McY}
theorem CE {w:World} (h:McP x y) (h1:(own 218 7 y.p y.c (y.l.map nk)).inv w) (h2:(bS y.R).inv w):l0 w y.p y.l:=
 ⟨eI h1,fun q hq=>by
  have z:=h.rd w h2.1 q hq
  have k:=h.ln q hq
  exact⟨z.1,z.2,by omega,by omega⟩⟩
theorem al6 (h:McP x y):LA x (y.l.map iJ):=by
 refine LA.of (s:=y.s) (by rw[aq];exact h.n) fun i c hc=>?_
 rw[aw]at hc
 obtain⟨q,hq,rfl⟩:=j8.1 hc
 exact h.cl i q hq
theorem alw (hs:SpK x s) (h:LA x l):SV s ((iP x l).take 0) (UZ x l)=0:=by
 have hT:=qk x
 show SV s [] (UZ x l)=0
 unfold SV
 rw[if_pos (show(UZ x l).lv=0 from rfl),if_neg (fun z=>z ⟨show(0:Int)≤(iH x:Int) by omega,show(iH x:Int)≤4294967296 by omega⟩),if_neg (by rintro ⟨z,_⟩;exact absurd z (by decide)),if_neg (by decide)]
 show qE s.g l=0
 rw[hs.g]
 exact zQ h (dx _) (by omega)
theorem ahe (hs:SpK x s) {pre:List nU} {t:Int} {n:Nat} (hp:pre.length≤2) (ht:0≤t∧t≤4294967296):SV s pre ⟨t,[],gw x,fG x n,5⟩=0:=by
 unfold SV
 rw[if_neg (show ¬(5:Int)=0 by decide),if_neg (fun z=>z ht),if_neg (by omega),if_neg (fun z=>z CV),if_neg,if_neg (fun z=>z ⟨show(1:Int)≤5 by decide,show(5:Int)≤1073741824 by decide⟩)]
 intro z
 apply z
 rw[hs.g]
theorem aie:(iP x l)[1]? =some ⟨(iH x:Int),[],gw x,fG x 1,5⟩:=by
 show some (ZU x 1)=_
 unfold ZU
 rw[show((1:Nat):Int)*(iH x:Int)=(iH x:Int) by simp]
theorem ahk:(iP x l)[2]? =some ⟨2*(iH x:Int),[],gw x,fG x 2,5⟩:=rfl
theorem P7 {H:Int} {st:pP}:∀k,(EN H [] st [] k).length=(Rc H [] st [] k).length
 |0=>rfl
 |k+1=>by
  have ih:=P7 (H:=H) (st:=st) k
  have e:qT H k []=0:=rfl
  unfold EN Rc wS Fh
  rw[e]
  split
  ·exact ih
  ·rw[if_pos rfl,aZ,aZ,ih];rfl
theorem aha {H:Int} {n:Nat}:(MZ H n (kq s (iP x l))).length=(P6 H n (kq s ((iP x l).take 0)) ⟨(iH x:Int),wF s l⟩).length:=by
 show(EN H [] ⟨(iH x:Int),wF s l⟩ [] n).length=(Rc H [] ⟨(iH x:Int),wF s l⟩ [] n).length
 exact P7 n
theorem agy (hs:SpK x s) (hsp:j0 s=0) (h:LA x l) {k:Nat} (hk:k<s.fI.length):rN s (k:Int) l= .tuple #[.int .i64 (Ar x l (s.fI.getD k default).pix).lv,.int .i64 (Ar x l (s.fI.getD k default).pix).ld,.int .i64 (Ar x l (s.fI.getD k default).pix).px,.int .i64 0]:=by
 have hT:=qk x
 have e:ox s (k:Int) l=0:=by
  unfold ox
  rw[if_neg (fun z=>z hsp),if_neg (fun z=>z ⟨dD _,by omega⟩),hs.g]
  exact zQ h (dx _) (by omega)
 have e2:rT s (k:Int) l=Ar x l (s.fI.getD k default).pix:=by
  unfold rT Ar
  rw[if_neg (fun z=>z e),hs.g,hs.a,hs.b]
  rfl
 unfold rN
 rw[e,e2]
theorem aeq (h:LA x l):(zL (gw x) l 0).length=gA x*kK x:=by
 unfold zL
 rw[if_neg (fun z=>z (zQ h (dx _) (by decide))),aq,kF]
 show((gA x:Int)*(kK x:Int)).toNat=_
 rw[←dB,Int.toNat_natCast]
end
theorem A86:jX ae 86 8:=⟨⟨_,Tryz.underlying86,rfl⟩,by kernel_rfl⟩
theorem C18:ef ae 18:=⟨_,Tryz.func18,by decide,rfl⟩
theorem C19:ef ae 19:=⟨_,Tryz.func19,by decide,rfl⟩
theorem C20:ef ae 20:=⟨_,Tryz.func20,by decide,rfl⟩
theorem clk {w0 w:World} {L:List cq} {p:Option Addr} {l:List CP} (h:l0 w0 p l) (hw:St (bs w0) L w):l0 w p l:=h.keep w hw
theorem ae8 {s:Sp} {x:mj} {l:List cZ} {k:Nat}:(0≤(rh s (iP x l) k).h∧(rh s (iP x l) k).h≤2)∧(0≤(rh s (iP x l) k).a∧(rh s (iP x l) k).a≤2)∧(0≤(rh s (iP x l) k).q∧(rh s (iP x l) k).q≤2)∧(0≤(rh s (iP x l) k).o∧(rh s (iP x l) k).o≤2):=by
 unfold rh IL
 rw[abK]
 exact⟨qL,qL,qL,qL⟩
theorem JE (x:El) (w:World) (hx:Zw w x) (hk:IsK x) (hWk:∀w2:World,Calls ae 19 #[] w2 fun e w3=>e= .returned (.bool true)∧St (bs w2) [] w3):
 Calls ae 5 #[x.V] w fun e w'=>e= .returned (.bool true)∧St (bs w) [] w':=by
 have hT:=qk x.m
 obtain⟨hw1_,hw2_,hh1_,hh2_⟩:=sR x.m
 have har:=rS x.m
 refine enter (vs:=[_]) (env:=[(0,_)]) Tryz.func5 rfl rfl rfl rfl ?_
 refine VC.q (aD rfl<|cf (C:=#[_,_,_,_,_,_,_,_]) rfl rfl fun b1=>VO.a rfl<|VO.n<|VC.q (ah (aM (vs:=[_,_,_,_,_,_,_,_]) A86 (.r rfl) (ax 0 rfl ⟨_,rfl⟩) rfl) rfl<|aD rfl<|cz (xs:=[_]) (vs:=[_]) C18 ⟨(.r rfl),trivial⟩ (fun w2 hw=>JQ x w2 (hx.keep w2 hw) hk) fun ys hys=>aD rfl<|aO (bJ (.r rfl))<|aD rfl<|aO (bN (.r rfl) rfl)<|aD rfl<|aO (bN (.r rfl) rfl)<|aD rfl<|bI (C:=#[_,_,_,_,_,_,_,_,_]) Z93 rfl fun b4=>bU<|bl 0 (vs:=[_,_,_,_,_,_,_,_,_]) (C':=[_,_,_,_,_,_,_,_,_]) (L':=[_,_,_,_]) N93 rfl rfl rfl rfl rfl rfl rfl rfl<|aD rfl<|aO (LO.as (.r rfl))<|VO.n<|ak ?_))
 refine ak ?_
 obtain⟨rgs,pg,cg⟩:=ys
 dsimp only at hys ⊢
 have hrl3:rgs.length≤3:=by rw[←aq (f:=RG.r),hys];exact tg 3
 refine aF (VO.m rfl<|ah (LO.not (.r rfl)) rfl<|VO.n<|ay rfl (fun h26=>?_) (fun h26=>?_))
 ·
  refine VC.q (ah (bD (xs:=[]) (vs:=[]) C19 trivial (fun w2 _=>hWk w2)) rfl<|VO.a rfl<|VO.n<|aP (VE.cJ (VE.s rfl rfl (fun w hw=>?_))))
  exact⟨rfl,hw.nil⟩
 ·
  have hrl:0<rgs.length:=by omega
  obtain⟨S,hS⟩:∃S:Sp,S=⟨gw x.m,rgs.map RG.r,(iH x.m:Int),(iH x.m:Int),(iH x.m:Int)⟩:=⟨_,rfl⟩
  have hne:jq x 3≠[]:=fun z=>by rw[z]at hys;have:=congrArg fT hys;rw[aq]at this;have e:rgs.length=0:=this;omega
  have hsp:j0 S=0:=by rw[hS,hys];exact Ze hne
  have hSK:SpK x.m S:=by rw[hS];exact⟨rfl,rfl,rfl,rfl⟩
  have hSr:S.fI=jq x 3:=by rw[hS];exact hys
  have hSl:S.fI.length=rgs.length:=by rw[hS];exact aq ..
  refine aC (ag<|VC.q (VO.f (r:=0) uj rfl<|ah (aM (vs:=[_,_,_,_,_,_,_]) F5 (.r rfl) (ax 3 rfl ⟨_,rfl⟩) rfl) rfl<|aD rfl<|cz (xs:=[_]) (vs:=[_]) C20 ⟨(.r rfl),trivial⟩ (fun w2 hw=>C8 x.m w2 (hx.m.keep w2 hw) hk.m) fun yc hyc=>aD rfl<|aO (bJ (.r rfl))<|aD rfl<|aO (bN (.r rfl) rfl)<|aD rfl<|aO (bN (.r rfl) rfl)<|aD rfl<|aO (LO.as (.r rfl))<|aD rfl<|aO (LO.as (.r rfl))<|aI ?_))
  have hR:=al6 hyc
  have hycl:yc.l.length≤64:=by rw[hyc.n];exact Ns
  refine ag<|VC.q (ah (aM (vs:=[_,_,_,_,_,_,_,_,_]) Xe (.r rfl) (ax 2 rfl ⟨_,rfl⟩) rfl) rfl<|aD rfl<|cz (xs:=[_]) (vs:=[_]) C21 ⟨(.r rfl),trivial⟩ (fun w2 hw=>by have z:=aif (gw x.m) rgs pg cg (iH x.m:Int) (iH x.m:Int) (iH x.m:Int) w2 (iP x.m (yc.l.map iJ)) (by omega) (C7 hys (hw.inv 3 _ rfl) (hw.inv 4 _ rfl)) (by rw[←hS];exact hsp);rw[←hS]at z;exact z) fun o0 hB0=>aD rfl<|aO (bJ (.r rfl))<|aD rfl<|aO (bN (.r rfl) rfl)<|aD rfl<|aO (bN (.r rfl) rfl)<|aD rfl<|aO (LO.as (.r rfl))<|aD rfl<|aO (LO.as (.r rfl))<|VO.n<|ak<|VC.q (VO.m rfl<|ah (LO.not (.r rfl)) rfl<|VO.m rfl<|VO.gf rfl (fun hg=>bJ (.r rfl))<|VO.gf rfl (fun hg=>tO (.g hg rfl) (.r rfl))<|ah (dO (.r rfl) (.r rfl) rfl rfl) rfl<|aI ?_))
  refine ag<|ay rfl (fun h44=>?_) (fun h44=>?_)
  · (exfalso;simp at h44)
  ·
   refine aC (ag<|VC.q (VO.f (r:=0) uj rfl<|ah (aM (vs:=[_,_,_,_,_,_,_]) F5 (.r rfl) (ax 6 rfl ⟨_,rfl⟩) rfl) rfl<|ah (bD (xs:=[_]) (vs:=[_]) C22 ⟨(.r rfl),trivial⟩ (fun w2 _=>x7 x.m w2 hk.m)) rfl<|VO.a rfl<|VO.n<|VC.q (VO.m rfl<|VO.m rfl<|VO.m rfl<|aD rfl<|HO.pS (first:=[]) (cap:=[]) (xs:=[_,_,_]) (vs:=[_,_,_]) [_] [_,_,_,_,_,_] (bM (L1:=[_]++[_,_,_,_,_,_]) [0,1,2,3,4,5,6] rfl rfl) (.r rfl) C23 ⟨(.r rfl),(.r rfl),(.r rfl),trivial⟩ (fun w hw hh=>aed hB0 (x:=UZ x.m (yc.l.map iJ)) rfl rfl (alw hSK hR) yc.l yc.p yc.c rfl w hh (fun hs=>CE hyc ((iB (l4 (R:=[bS (kh o0)]) (rest:=[_,_,_,_,_,_]) (bM (L1:=[_,_,_,_,_,_,_]) [0,1,2,3,4,5,6] rfl rfl _ hw) hs)).inv 0 _ rfl) ((iB (l4 (R:=[bS (kh o0)]) (rest:=[_,_,_,_,_,_]) (bM (L1:=[_,_,_,_,_,_,_]) [0,1,2,3,4,5,6] rfl rfl _ hw) hs)).inv 1 _ rfl)) (by omega) hyc.ln) fun o1 ho1=>aD rfl<|aO (bJ (.r rfl))<|aD rfl<|aO (bN (.r rfl) rfl)<|aD rfl<|aO (bN (.r rfl) rfl)<|aD rfl<|aO (LO.as (.r rfl))<|aD rfl<|aO (LO.as (.r rfl))<|aI ?_)))
   obtain⟨hB1,hob1,hev⟩:=ho1
   refine ag<|VC.mW (env':=[(1,_),(3,_),(5,_),(6,_),(7,_),(8,_),(9,_)]) (.c4 rfl rfl rfl rfl (.cons rfl (.cons rfl (.cons rfl .nil)))) (fun _ h=>h)<|ak<|VC.q (VO.m rfl<|VO.u rfl<|VO.m rfl<|VO.gf rfl (fun hg=>bJ (.r rfl))<|VO.gf rfl (fun hg=>bJ (.r rfl))<|VO.gf rfl (fun hg=>aE (r:=0) uj (.r rfl) rfl)<|VO.gf rfl (fun hg=>aM (vs:=[_,_,_,_,_,_,_]) F5 (.g hg rfl) (ax 7 rfl ⟨_,rfl⟩) rfl)<|VO.bc (x:=57) rfl (fun hg10_2=>(by exfalso;simp at hg10_2)) (fun hg10_2=>sB rfl rfl (congrArg iS hg10_2) rfl<|cz (xs:=[_,_]) (vs:=[_,_]) C25 ⟨(.g (by rw[hg10_2];rfl) rfl),(.r rfl),trivial⟩ (fun w hw=>Cf x.m 1 w (hx.m.keep w hw) hk.m (by decide)) fun ym1 _=>sB rfl rfl (congrArg iS hg10_2) rfl<|HO.pS (first:=[]) (cap:=[]) (xs:=[_,_,_,_]) (vs:=[_,_,_,_]) [_] [_,_,_,_,_,_,_,_] (bM (L1:=[_]++[_,_,_,_,_,_,_,_]) [1,0,2,3,4,5,6,7,8] rfl rfl) (.r rfl) C24 ⟨(.g (by rw[hg10_2];rfl) rfl),(.g (by rw[hg10_2];rfl) rfl),(.r rfl),(.r rfl),trivial⟩ (fun w hw hh=>V2 hB1 (x:=⟨(iH x.m:Int),[],gw x.m,fG x.m 1,5⟩) aie (show ¬(5:Int)=0 by decide) (ahe hSK (by show(1:Nat)≤2;decide) ⟨by omega,by omega⟩) (by decide) hob1 ym1.p ym1.c w hh (fun hs=>eI ((iB (l4 (R:=[bS (kh o1.o)]) (rest:=[_,_,_,_,_,_,_,_]) (bM (L1:=[_,_,_,_,_,_,_,_,_]) [1,0,2,3,4,5,6,7,8] rfl rfl _ hw) hs)).inv 0 _ rfl))) fun o2 ho2=>sB rfl rfl (congrArg iS hg10_2) rfl<|aO (tO (.r rfl) (.r rfl))<|aD rfl<|aO (LO.pkF (.r rfl) hg10_2 (.r rfl))<|aD rfl<|aO (bJ (.r rfl))<|VO.gf rfl (fun hg=>bJ (.r rfl))<|VO.gf rfl (fun hg=>bJ (.r rfl))<|VO.gf rfl (fun hg=>LO.mul (.r rfl) (.g hg rfl) (wi (by omega) (by omega)))<|VO.gf rfl (fun hg=>aE (r:=0) uj (.r rfl) rfl)<|VO.gf rfl (fun hg=>aM (vs:=[_,_,_,_,_,_,_]) F5 (.g hg rfl) (ax 8 rfl ⟨_,rfl⟩) rfl)<|VO.bc (x:=66) rfl (fun hg10_11=>(by exfalso;simp at hg10_11)) (fun hg10_11=>sB rfl rfl (congrArg iS hg10_11) rfl<|cz (xs:=[_,_]) (vs:=[_,_]) C25 ⟨(.g (by rw[hg10_11];rfl) rfl),(.r rfl),trivial⟩ (fun w hw=>Cf x.m 2 w (hx.m.keep w hw) hk.m (by decide)) fun ym2 _=>sB rfl rfl (congrArg iS hg10_11) rfl<|HO.pS (first:=[]) (cap:=[]) (xs:=[_,_,_,_]) (vs:=[_,_,_,_]) [_] [_,_,_,_,_,_,_,_,_] (bM (L1:=[_]++[_,_,_,_,_,_,_,_,_]) [1,0,2,3,4,5,6,7,8,9] rfl rfl) (.r rfl) C24 ⟨(.g (by rw[hg10_11];rfl) rfl),(.g (by rw[hg10_11];rfl) rfl),(.r rfl),(.r rfl),trivial⟩ (fun w hw hh=>V2 ho2.1 (x:=⟨2*(iH x.m:Int),[],gw x.m,fG x.m 2,5⟩) ahk (show ¬(5:Int)=0 by decide) (ahe hSK (by show(2:Nat)≤2;decide) ⟨by omega,by omega⟩) (by decide) ho2.2 ym2.p ym2.c w hh (fun hs=>eI ((iB (l4 (R:=[bS (kh o2)]) (rest:=[_,_,_,_,_,_,_,_,_]) (bM (L1:=[_,_,_,_,_,_,_,_,_,_]) [1,0,2,3,4,5,6,7,8,9] rfl rfl _ hw) hs)).inv 0 _ rfl))) fun o3 ho3=>sB rfl rfl (congrArg iS hg10_11) rfl<|aO (tO (.r rfl) (.r rfl))<|aD rfl<|aO (LO.pkF (.r rfl) hg10_11 (.r rfl))<|aI ?_)))
   have hB3:HU S (iP x.m (yc.l.map iJ)) o3 3:=ho3.1
   refine ag<|ay rfl (fun h75=>?_) (fun h75=>?_)
   · (exfalso;simp at h75)
   ·
    refine aC (ag<|VC.q (VO.m rfl<|aD rfl<|cz (xs:=[_]) (vs:=[_]) C26 ⟨(.r rfl),trivial⟩ (fun w hw=>by have z:=YG hB3 (by decide) (P:=yu S (iP x.m (yc.l.map iJ))) rfl (Dh ((bM (L1:=[bS _]) [0] rfl rfl w hw).has (y6 _)));rw[ho3.2]at z;exact z) fun xs _=>VO.m rfl<|aD rfl<|cz (xs:=[_]) (vs:=[_]) C27 ⟨(.r rfl),trivial⟩ (fun w hw=>by have z:=TF hB3 (by decide) (Dh ((bM (L1:=[bS _]) [1] rfl rfl w hw).has (y6 _)));rw[ho3.2]at z;exact z) fun xl _=>aD rfl<|aO (LO.as (.r rfl))<|aD rfl<|aO (LO.as (.r rfl))<|aI ?_))
    have htl:(yu S (iP x.m (yc.l.map iJ))).length=S.fI.length:=by unfold yu;rw[aq,kF]
    have hll:((br S.fI.length).map fun k=>qT S.hold k (kq S ((iP x.m (yc.l.map iJ)).take 3))).length=S.fI.length:=by rw[aq,kF]
    have hce:(MZ S.hold S.fI.length (kq S ((iP x.m (yc.l.map iJ)).take 3))).length=o1.es.length:=by rw[hev];exact aha
    refine ag<|ak<|VC.q (VO.m rfl<|ah (bW L7 (.r rfl) rfl) rfl<|VO.f (r:=5) sL rfl<|VO.c 8 Xa rfl rfl ⟨_,rfl⟩ rfl<|ah (bW LI (.r rfl) rfl) rfl<|VO.u rfl<|VO.m rfl<|VO.gf rfl (fun hg=>bJ (.r rfl))<|VO.gf rfl (fun hg=>bW ei (.g hg rfl) rfl)<|VO.gf rfl (fun hg=>bJ (.r rfl))<|VO.gf rfl (fun hg=>bW L7 (.g hg rfl) rfl)<|VO.gf rfl (fun hg=>tO (.g hg rfl) (.g hg rfl))<|ah (dO (.r rfl) (.r rfl) rfl rfl) rfl<|VO.m rfl<|VO.gf rfl (fun hg=>bJ (.r rfl))<|VO.bc (x:=93) rfl (fun hg13_13=>(by exfalso;simp [htl,hll,hSl]at hg13_13)) (fun hg13_13=>sB rfl rfl (congrArg iS hg13_13) rfl<|cz (xs:=[_]) (vs:=[_]) C28 ⟨(.g (by rw[hg13_13];rfl) rfl),trivial⟩ (fun w hw=>by have z:=Z7 hB3 (by decide) (Dh ((bM (L1:=[bS _]) [2] rfl rfl w hw).has (y6 _)));rw[ho3.2]at z;exact z) fun xc _=>sB rfl rfl (congrArg iS hg13_13) rfl<|aO (bW X5 (.r rfl) rfl)<|sB rfl rfl (congrArg iS hg13_13) rfl<|aO (bJ (.r rfl))<|sB rfl rfl (congrArg iS hg13_13) rfl<|aO (bW EO (.r rfl) rfl)<|sB rfl rfl (congrArg iS hg13_13) rfl<|aO (tO (.r rfl) (.r rfl))<|aD rfl<|aO (LO.pkF (.r rfl) hg13_13 (.r rfl))<|VO.n<|VC.mW (env':=[(1,_),(3,_),(5,_),(10,_),(11,_),(100,_)]) (.c4 rfl rfl rfl rfl (.cons rfl (.cons rfl .nil))) (fun _ h=>h)<|ay rfl (fun h100=>?_) (fun h100=>?_)))
    · (exfalso;omega)
    ·
     refine aC (ag<|ak<|ak<|VC.tn fun w1 hw1=>?_)
     have hTA:RO 7 FQ.cells w1 xs.1 (yu S (iP x.m (yc.l.map iJ))):=dE hw1 2 rfl
     have hLV:RO 1 iC w1 xl.1 ((br S.fI.length).map fun k=>qT S.hold k (kq S ((iP x.m (yc.l.map iJ)).take 3))):=dE hw1 1 rfl
     have hRG:Aq w1 pg rgs:=C7 hys (hw1.inv 10 _ rfl) (hw1.inv 11 _ rfl)
     have hCL:l0 w1 yc.p yc.l:=CE hyc (hw1.inv 7 _ rfl) (hw1.inv 8 _ rfl)
     have hX1:fk w1 ⟨b1,0,none⟩ [.int .u8 (x.m.wi:Int),.int .u8 (x.m.hi:Int),.slice x.m.pi x.m.ins.length x.m.ci,.int .u8 (x.m.x:Int),.int .u8 (x.m.y:Int),.slice x.m.pd x.m.db.length x.m.cd,.int .u16 (x.m.sec:Int),.slice x.pr x.rg.length x.cr]:=aX hw1 12 rfl ⟨[],rfl⟩
     have hS1:fk w1 ⟨b4,0,none⟩ [.int .i64 0,.int .i64 0,.int .i64 1000,.int .i64 (gA x.m:Int),.int .i64 (kK x.m:Int),.slice pg rgs.length cg,.int .i64 (iH x.m:Int),.int .i64 (iH x.m:Int),.int .i64 (iH x.m:Int)]:=aX hw1 9 rfl ⟨[],rfl⟩
     have hx1:Zw w1 x:=hx.keep w1 hw1
     refine aF (VO.a rfl<|VO.n<|aG<|bY (α:=Nat) 0 (fun gx=>[(12,.int .i64 (gx:Nat))]) [(1,_),(3,_),(5,_),(10,_),(11,_)] (fun gx=>[]) (fun gx=>gx≤S.fI.length) (fun gx=>S.fI.length-gx) 0 (by exact bG _) (.c4 rfl rfl rfl rfl (.cons rfl (.cons rfl .nil))) (fun _ h=>h) ?_)
     rintro i hi
     refine ak<|VC.q (VO.m rfl<|VO.m rfl<|ah (bW L7 (.r rfl) rfl) rfl<|VO.t rfl<|VO.n<|ay rfl (fun h104=>?_) (fun h104=>?_))
     ·
      have hik:i<S.fI.length:=by omega
      obtain⟨ta,hta⟩:=gE (l:=yu S (iP x.m (yc.l.map iJ))) (n:=i) (by omega)
      have hta2:ta=rh S (iP x.m (yc.l.map iJ)) i:=by have z:=hta;unfold yu at z;rw[aw,eu hik]at z;exact(gV z).symm
      obtain⟨lv,hlv⟩:=gE (l:=(br S.fI.length).map fun k=>qT S.hold k (kq S ((iP x.m (yc.l.map iJ)).take 3))) (n:=i) (by omega)
      obtain⟨th,hth⟩:∃th,th=Ar x.m (yc.l.map iJ) (S.fI.getD i default).pix:=⟨_,rfl⟩
      have hlv2:lv=th.lv:=by have z:=hlv;rw[aw,eu hik]at z;rw[←gV z,hth];exact aaZ hSK hik
      have hpx:∀p,p∈(S.fI.getD i default).pix→0≤p∧p<(gA x.m*kK x.m:Nat):=fun p hp=>(VZ (by rw[←hSr];exact kQ hik)).1 p hp
      have hit:=adF hR hSK hik hpx
      have htb:=ae8 (s:=S) (x:=x.m) (l:=yc.l.map iJ) (k:=i)
      rw[←hta2]at hit htb
      rw[←hth]at hit
      obtain⟨hi1,hi2,hi3,hi4,hi5,hi6⟩:=hit
      obtain⟨⟨hb1,hb2⟩,⟨hb3,hb4⟩,⟨hb5,hb6⟩,hb7,hb8⟩:=htb
      refine aC (ag<|ak<|aG<|VC.q (VO.m rfl<|VO.m rfl<|ah (cw L7 XW hTA.sm (.r rfl) (.r rfl) rfl (by omega)) rfl<|ah (aM (vs:=[_,_,_,_,_,_,_]) aeg (.r rfl) (fun w hw=>bq (off:=0) ((fun w3 h3=>gB (hTA.keep w3 h3) hta) w hw) ⟨_,rfl⟩) rfl) rfl<|aD rfl<|bI (C:=#[_,_,_,_,_,_,_]) ZL rfl fun b18=>bU<|bl 0 (vs:=[_,_,_,_,_,_,_]) (C':=[_,_,_,_,_,_,_]) (L':=[_]) XW rfl rfl rfl rfl rfl rfl rfl rfl<|VO.n<|ak ?_))
      refine VC.q (VO.f (r:=1) Mb rfl<|VO.c 0 O3 rfl rfl ⟨_,rfl⟩ rfl<|VO.u rfl<|VO.m rfl<|VO.gf rfl (fun hg=>aE (r:=0) G6 (.r rfl) rfl)<|VO.gf rfl (fun hg=>aB O3 (.g hg rfl) (ax 0 rfl ⟨_,rfl⟩))<|VO.gf rfl (fun hg=>aE (r:=2) C5 (.r rfl) rfl)<|VO.gf rfl (fun hg=>aB O3 (.g hg rfl) (ax 0 rfl ⟨_,rfl⟩))<|VO.gf rfl (fun hg=>LO.add (.g hg rfl) (.g hg rfl) (wi (by omega) (by omega)))<|VO.gf rfl (fun hg=>aE (r:=3) Me (.r rfl) rfl)<|VO.gf rfl (fun hg=>aB O3 (.g hg rfl) (ax 0 rfl ⟨_,rfl⟩))<|VO.gf rfl (fun hg=>LO.add (.g hg rfl) (.g hg rfl) (wi (by omega) (by omega)))<|VO.gf rfl (fun hg=>aE (r:=4) Mu (.r rfl) rfl)<|VO.gf rfl (fun hg=>aB O3 (.g hg rfl) (ax 0 rfl ⟨_,rfl⟩))<|VO.gf rfl (fun hg=>LO.add (.g hg rfl) (.g hg rfl) (wi (by omega) (by omega)))<|VO.gf rfl (fun hg=>tO (.g hg rfl) (.r rfl))<|ah (dO (.r rfl) (.r rfl) rfl rfl) rfl<|VO.m rfl<|VO.gf rfl (fun hg=>bJ (.r rfl))<|VO.gf rfl (fun hg=>bJ (.r rfl))<|VO.gf rfl (fun hg=>cw ei N3 hLV.sm (.g hg rfl) (.g hg rfl) rfl (by omega))<|VO.gf rfl (fun hg=>aB O3 (.g hg rfl) (fun w hw=>bq (off:=0) ((fun w3 h3=>gB (hLV.keep w3 h3) hlv) w hw) ⟨_,rfl⟩))<|VO.gf rfl (fun hg=>fN (.g hg rfl) (.r rfl))<|VO.gf rfl (fun hg=>bJ (.g hg rfl))<|nv rfl rfl (mz _ _) (fun hg=>aE (r:=2) C5 (.r rfl) rfl) rfl<|nv rfl rfl (mz _ _) (fun hg=>aB O3 (.g hg rfl) (ax 0 rfl ⟨_,rfl⟩)) rfl<|nv rfl rfl (mz _ _) (fun hg=>iX (.g hg rfl) (.r rfl)) rfl<|VO.gf rfl (fun hg=>LO.pE (.g hg rfl) rfl (PI hg) (.r rfl))<|ah (dO (.r rfl) (.r rfl) rfl rfl) rfl<|VO.m rfl<|VO.gf rfl (fun hg=>bJ (.r rfl))<|VO.gf rfl (fun hg=>bJ (.r rfl))<|VO.gf rfl (fun hg=>cw ei N3 hLV.sm (.g hg rfl) (.g hg rfl) rfl (by omega))<|VO.gf rfl (fun hg=>aB O3 (.g hg rfl) (fun w hw=>bq (off:=0) ((fun w3 h3=>gB (hLV.keep w3 h3) hlv) w hw) ⟨_,rfl⟩))<|VO.gf rfl (fun hg=>fN (.g hg rfl) (.r rfl))<|VO.gf rfl (fun hg=>bJ (.g hg rfl))<|nv rfl rfl (mz _ _) (fun hg=>aE (r:=0) G6 (.r rfl) rfl) rfl<|nv rfl rfl (mz _ _) (fun hg=>aB O3 (.g hg rfl) (ax 0 rfl ⟨_,rfl⟩)) rfl<|nv rfl rfl (mz _ _) (fun hg=>aE (r:=2) C5 (.r rfl) rfl) rfl<|nv rfl rfl (mz _ _) (fun hg=>aB O3 (.g hg rfl) (ax 0 rfl ⟨_,rfl⟩)) rfl<|nv rfl rfl (mz _ _) (fun hg=>LO.add (.g hg rfl) (.g hg rfl) (wi (by omega) (by omega))) rfl<|nv rfl rfl (mz _ _) (fun hg=>iX (.g hg rfl) (.r rfl)) rfl<|VO.gf rfl (fun hg=>LO.pE (.g hg rfl) rfl (PI hg) (.r rfl))<|ah (dO (.r rfl) (.r rfl) rfl rfl) rfl<|VO.n<|VC.mW (env':=[(1,_),(3,_),(5,_),(10,_),(11,_),(12,_),(154,_)]) (.c4 rfl rfl rfl rfl (.cons rfl (.cons rfl (.cons rfl .nil)))) (fun _ h=>h)<|ay rfl (fun h154=>?_) (fun h154=>?_))
      · (exfalso;omega)
      ·
       refine aC (ag<|VC.q (ah (aM (vs:=[_,_,_,_,_,_,_,_,_]) Xe (.r rfl) (aW (aU (off:=0) hS1 ⟨_,rfl⟩)) rfl) rfl<|VO.m rfl<|VO.m rfl<|ah (bD (xs:=[_,_,_]) (vs:=[_,_,_]) C29 ⟨(.r rfl),(.r rfl),(.r rfl),trivial⟩ (fun w2 hw=>by have z:=Ji (gw x.m) rgs pg cg (iH x.m:Int) (iH x.m:Int) (iH x.m:Int) (i:Int) yc.l yc.p yc.c w2 (by omega) (hRG.keep hw) (by omega) (clk hCL hw);rw[←hS,agy hSK hsp hR hik, ←hth]at z;exact z)) rfl<|VO.m rfl<|ah (bN (.r rfl) rfl) rfl<|ah (bN (.r rfl) rfl) rfl<|ah (bN (.r rfl) rfl) rfl<|ah (bN (.r rfl) rfl) rfl<|VO.a rfl<|VO.a rfl<|VO.a rfl<|VO.a rfl<|VO.n<|ak<|VC.q (VO.m rfl<|VO.u rfl<|VO.m rfl<|VO.gf rfl (fun hg=>bJ (.r rfl))<|VO.gf rfl (fun hg=>bJ (.r rfl))<|VO.gf rfl (fun hg=>bJ (.r rfl))<|VO.gf rfl (fun hg=>cw ei N3 hLV.sm (.g hg rfl) (.g hg rfl) rfl (by omega))<|VO.gf rfl (fun hg=>aB O3 (.g hg rfl) (fun w hw=>bq (off:=0) ((fun w3 h3=>gB (hLV.keep w3 h3) hlv) w hw) ⟨_,rfl⟩))<|VO.gf rfl (fun hg=>tO (.g hg rfl) (.g hg rfl))<|ah (dO (.r rfl) (.r rfl) rfl rfl) rfl<|aI ?_)))
       refine ag<|ay rfl (fun h173=>?_) (fun h173=>?_)
       · (exfalso;omega)
       ·
        refine aC (ag<|ak<|VC.q (VO.m rfl<|VO.u rfl<|VO.n<|ay rfl (fun h175=>?_) (fun h175=>?_)))
        ·
         refine ca (aL (cD (ag<|aF (VO.m rfl<|VO.p rfl rfl (by omega) (by omega) rfl<|VO.a rfl<|aI<|bn fun a w ha hw=>⟨i+1,(by omega),(by omega),ha.sub (.c4 rfl rfl rfl rfl (.cons rfl (.cons rfl .nil))),hw.fO [] rfl⟩))))
        ·
         have h2:th.lv=2:=by omega
         obtain⟨m,j,hm,hj,hld,hpe,hin⟩:=Pe hR hpx (by rw[←hth];exact h2)
         rw[←hth]at hld hpe
         have hpb:=hpx _ (kQ (d:=0) hj)
         obtain⟨pn,hpq⟩:∃pn:Nat,pn=((S.fI.getD i default).pix.getD j 0).toNat:=⟨_,rfl⟩
         have hpn:th.px=(pn:Int):=by rw[hpe,hpq,Int.toNat_of_nonneg hpb.1]
         have hpl:pn<gA x.m*kK x.m:=by omega
         rw[←hpq]at hin
         refine aC (ag<|VC.q (VO.a rfl<|VO.n<|ak<|VC.q (VO.m rfl<|ah (iX (.r rfl) (.r rfl)) rfl<|aI ?_)))
         refine ag<|ay rfl (fun h177=>?_) (fun h177=>?_)
         ·
          have hmm:m=1:=by(have:m=0∨m=1:=by omega);rcases this with r|r;(· subst r;rw[hld]at h177;simp at h177);(· exact r)
          subst hmm
          refine aF (VO.a rfl<|VO.n<|ak<|eH mixed (aV (aE (r:=0) uj (.r rfl) rfl) rfl<|aV (aM (vs:=[_,_,_,_,_,_,_]) F5 (.r rfl) (aW (aU (off:=0) hX1 ⟨_,rfl⟩)) rfl) rfl<|aV (aE (r:=0) uj (.r rfl) rfl) rfl<|aV (aM (vs:=[_,_,_,_,_,_,_]) F5 (.r rfl) (aW (aU (off:=0) hX1 ⟨_,rfl⟩)) rfl) rfl<|aV (bD (xs:=[_]) (vs:=[_]) C31 ⟨(.r rfl),trivial⟩ (fun w2 _=>vf x.m w2 hk.m)) rfl<|aV (dy (bJ (.r rfl)) (congrArg (bX .i64) (hpn))) rfl<|LL.m rfl<|aV (bD (xs:=[_,_,_,_]) (vs:=[_,_,_,_]) C30 ⟨(.r rfl),(.r rfl),(.r rfl),(.r rfl),trivial⟩ (fun w2 hw=>GI x.m pn 2 w2 (hx1.m.keep w2 hw) hk.m (by decide) hpl)) rfl<|aV (LO.not (.r rfl)) rfl<|ft) (by kernel_rfl)<|ag<|VC.mW (env':=[(1,_),(3,_),(5,_),(10,_),(11,_),(12,_),(186,_)]) (.c4 rfl rfl rfl rfl (.cons rfl (.cons rfl (.cons rfl .nil)))) (fun _ h=>h)<|ay rfl (fun h186=>?_) (fun h186=>?_))
          · (exfalso;simp [hin]at h186)
          ·
           refine aC (bB (ag<|aF (VO.m rfl<|VO.p rfl rfl (by omega) (by omega) rfl<|VO.a rfl<|aI<|bn fun a w ha hw=>⟨i+1,(by omega),(by omega),ha.sub (.c4 rfl rfl rfl rfl (.cons rfl (.cons rfl .nil))),hw.fO [] rfl⟩)))
         ·
          have hmm:m=0:=by(have:m=0∨m=1:=by omega);rcases this with r|r;(· exact r);(· subst r;rw[hld]at h177;simp at h177;omega)
          subst hmm
          refine aC (ag<|ak<|eH mixed (aV (aE (r:=0) uj (.r rfl) rfl) rfl<|aV (aM (vs:=[_,_,_,_,_,_,_]) F5 (.r rfl) (aW (aU (off:=0) hX1 ⟨_,rfl⟩)) rfl) rfl<|aV (aE (r:=0) uj (.r rfl) rfl) rfl<|aV (aM (vs:=[_,_,_,_,_,_,_]) F5 (.r rfl) (aW (aU (off:=0) hX1 ⟨_,rfl⟩)) rfl) rfl<|aV (bD (xs:=[_]) (vs:=[_]) C31 ⟨(.r rfl),trivial⟩ (fun w2 _=>vf x.m w2 hk.m)) rfl<|aV (dy (bJ (.r rfl)) (congrArg (bX .i64) (hpn))) rfl<|LL.m rfl<|aV (bD (xs:=[_,_,_,_]) (vs:=[_,_,_,_]) C30 ⟨(.r rfl),(.r rfl),(.r rfl),(.r rfl),trivial⟩ (fun w2 hw=>GI x.m pn 1 w2 (hx1.m.keep w2 hw) hk.m (by decide) hpl)) rfl<|aV (LO.not (.r rfl)) rfl<|ft) (by kernel_rfl)<|ag<|VC.mW (env':=[(1,_),(3,_),(5,_),(10,_),(11,_),(12,_),(186,_)]) (.c4 rfl rfl rfl rfl (.cons rfl (.cons rfl (.cons rfl .nil)))) (fun _ h=>h)<|ay rfl (fun h186=>?_) (fun h186=>?_))
          · (exfalso;simp [hin]at h186)
          ·
           refine aC (bB (ag<|aF (VO.m rfl<|VO.p rfl rfl (by omega) (by omega) rfl<|VO.a rfl<|aI<|bn fun a w ha hw=>⟨i+1,(by omega),(by omega),ha.sub (.c4 rfl rfl rfl rfl (.cons rfl (.cons rfl .nil))),hw.fO [] rfl⟩)))
     ·
      have hie:i=S.fI.length:=by omega
      refine ca (aL (aL (cD (ag<|VC.q (VO.f (r:=0) Dd rfl<|ah (aM (vs:=[_,_,_,_,_]) vS (.r rfl) (aW (aU (off:=0) hS1 ⟨_,rfl⟩)) rfl) rfl<|VO.m rfl<|aD rfl<|cz (xs:=[_,_,_]) (vs:=[_,_,_]) C32 ⟨(.r rfl),(.r rfl),(.r rfl),trivial⟩ (fun w2 hw=>agX (gw x.m) yc.l yc.p yc.c 0 w2 (by omega) (clk hCL hw)) fun xa _=>aD rfl<|aO (bJ (.r rfl))<|aD rfl<|aO (bN (.r rfl) rfl)<|aD rfl<|aO (bN (.r rfl) rfl)<|aD rfl<|aO (LO.as (.r rfl))<|aD rfl<|aO (LO.as (.r rfl))<|VO.n<|VC.q (VO.m rfl<|ah (fN (.r rfl) (.r rfl)) rfl<|VO.m rfl<|VO.gt rfl (fun hg=>bJ (.r rfl))<|VO.gt rfl (fun hg=>bW ei (.g hg rfl) rfl)<|VO.gt rfl (fun hg=>aE (r:=0) Dd (.r rfl) rfl)<|VO.gt rfl (fun hg=>aE (r:=3) jD (.g hg rfl) rfl)<|VO.gt rfl (fun hg=>aB O3 (.g hg rfl) (aW (aU (off:=3) hS1 ⟨_,rfl⟩)))<|VO.gt rfl (fun hg=>aE (r:=0) Dd (.r rfl) rfl)<|VO.gt rfl (fun hg=>aE (r:=4) qH (.g hg rfl) rfl)<|VO.gt rfl (fun hg=>aB O3 (.g hg rfl) (aW (aU (off:=4) hS1 ⟨_,rfl⟩)))<|VO.gt rfl (fun hg=>LO.mul (.g hg rfl) (.g hg rfl) (wi (by omega) (by omega)))<|VO.gt rfl (fun hg=>fN (.g hg rfl) (.g hg rfl))<|ah (LO.pE (.r rfl) rfl rfl (.r rfl)) rfl<|VO.m rfl<|VO.gt rfl (fun hg=>bD (xs:=[]) (vs:=[]) C19 trivial (fun w2 _=>hWk w2))<|ah (LO.pE (.r rfl) rfl rfl (.r rfl)) rfl<|VO.a rfl<|VO.n ?_))))))
      refine aP (VE.s rfl rfl (fun w hw=>?_))
      have e1:=zQ hR (t:=0) (dx _) (by decide)
      have e2:((zL (gw x.m) (yc.l.map iJ) 0).length:Int)=(gA x.m:Int)*(kK x.m:Int):=by rw[aeq hR,dB]
      exact⟨by simp [gF,e1,e2],St.ai5 hw1 hw⟩
end Go.Proofs.YtffbohecdocajaaGreat
