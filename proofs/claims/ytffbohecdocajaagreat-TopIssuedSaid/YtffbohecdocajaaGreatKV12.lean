/-
  A record meets a threat.
  (and more)
-/
import Derived.Test.YtffbohecdocajaaGreatKV11
open Go.Proofs.Tryz renaming prog→ae,underlying232→mD,underlying239→je,underlying226→mE,underlying224→zz
open Go.SL.ed renaming mk→ju
open List renaming getElem?_eq_some_iff→aj,drop_eq_getElem_cons→cY,map_append→bj,map_cons→fD,mem_cons→cA,not_mem_nil→mg,mem_append→bZ,getElem?_map→aw,pairwise_cons→fL,take_add_one→cQ,foldl_append→kB,length_filter_le→cH,length_map→aq,take_length→du,append_assoc→dp,flatMap_append→l6,getElem?_eq_getElem→af,mem_of_getElem?→al,take_of_length_le→dK,getElem?_append_left→aJ,getElem?_append_right→aY,getElem?_eq_none→aH,getElem?_set→fe,mem_map_of_mem→bE,mem_iff_getElem?→cV,getD_eq_getElem?_getD→av,getElem?_set_self→iF,length_append→aZ,range→br,take_append_of_le_length→gz,length_singleton→cu,eq_nil_or_concat→qf,concat_eq_append→qg,pairwise_iff_getElem→be,ext_getElem?→cO,getElem_map→gi,map_eq_nil_iff→rI,getElem_of_mem→da,countP_le_length→vO,pairwise_map→gl,foldl_cons→mK,countP_append→zE,mem_cons_self→gI,mem_cons_of_mem→gd
open Go.Proofs.YtffbohecdocajaaGreat.iG renaming de→nM,Lz→wm,Uo→wo
open Go.Proofs.YtffbohecdocajaaGreat.jN renaming de→qS
open Go.Proofs.YtffbohecdocajaaGreat.iW renaming de→lf,b→zA
open List.Pairwise renaming nil→wj
open Int renaming le_refl→dx,natCast_nonneg→dD,le_total→mZ,neg_neg→oi,min_eq_left→uw,min_eq_right→td,max_eq_right→AT
open Go.SL.VO renaming h→aD,l→ah,nil→aI,h0→bU
open Go.SL.HO renaming box→cf,lo→aO,kT→dM,st→bl,alloc→bI,bs→fu
open Go.SL.LO renaming call→bD,nc→bH,fa→aE,ld→aB,len→bW,fg→aM,lA→cw
open Go.SL.VC renaming seq→ak,block→aG,eP→bY,cond→ay,skip→aC,dU→aF,exit→ca,gu→cP,ret→aP
open Go.SL.LX renaming l→aA,s→cn,nil→dw
open Go.SL.HY renaming s→qJ
open Go.SL.VE renaming aN→ag,gL→bB,cX→bn,cb→aL,l8→cD
open Nat renaming zero_le→bG,lt_or_ge→aK,le_refl→bA,lt_trichotomy→e9,div_add_mod→nH,div_lt_of_lt_mul→jM
open Go.SL.HX renaming s→au,h→fQ,h0→eW,nil→dS
open Go.Proofs.YtffbohecdocajaaGreat.Ev renaming mk→xX
open List.Perm renaming swap→qd,cons→W3
open Go.Proofs.YtffbohecdocajaaGreat.CP renaming c→iJ,cells→nk
open Go.SL.St renaming bS→fH
open ByteArray renaming empty→ra
open Go.Proofs.YtffbohecdocajaaGreat.RG renaming r→mS,mk→vN
open Go.Proofs.YtffbohecdocajaaGreat.pD renaming st→xY
open Option renaming map_some→dH,getD_some→dk,toList_some→nL
open Ne renaming symm→eD
open Classical renaming not_not→cL
open Bool renaming and_eq_true→aQ
open Array renaming mem_push→HP

set_option linter.unusedSimpArgs false
set_option maxRecDepth 20000
set_option maxHeartbeats 8000000
namespace Go.Proofs.YtffbohecdocajaaGreat
open Go.SL Go.Proofs Go.qO
set_option linter.unusedVariables false
theorem C82:ef ae 82:=⟨_,Tryz.func82,by decide,rfl⟩
theorem Mx:bV ae 232 2 3:=⟨_,_,mD,rfl,rfl,0,by kernel_rfl⟩
theorem ah5:ig ae 229:=⟨⟨_,Tryz.underlying229,rfl⟩,by kernel_rfl⟩
theorem amo:ef ae 155:=⟨_,Tryz.func155,by decide,rfl⟩
theorem amG:ed ae 373 [(0,1),(1,1)] [.int .i64 0,.int .i64 0]:=ju fun _=>by kernel_rfl
theorem ak3:jW ae 373 2 16 (.agg #[.int .i64 0,.int .i64 0]):=⟨by kernel_rfl,by kernel_rfl,by unfold cj;kernel_rfl,rfl,by decide⟩
theorem alx:(ae.info? 229).map (·.size)=some 1:=by kernel_rfl
theorem aeL:bV ae 373 1 1:=⟨_,_,Tryz.underlying373,rfl,rfl,0,by kernel_rfl⟩
theorem Al:bV ae 232 1 2:=⟨_,_,mD,rfl,rfl,0,by kernel_rfl⟩
theorem am6:ed ae 239 [(0,1),(1,1),(2,1),(3,1),(4,1),(5,1),(6,1)] [.int .i64 0,.int .i64 0,.int .i64 0,.int .i64 0,.int .i64 0,.int .i64 0,.int .i64 0]:=ju fun _=>by kernel_rfl
theorem VN:bV ae 239 5 5:=⟨_,_,je,rfl,rfl,0,by kernel_rfl⟩
theorem Uu:bV ae 239 6 6:=⟨_,_,je,rfl,rfl,0,by kernel_rfl⟩
theorem C76:ef ae 76:=⟨_,Tryz.func76,by decide,rfl⟩
theorem St.ahF {w w':World} {O O':Nat→Prop} {L:List cq} (h:St ⟨w,O⟩ L w') (hs:∀k,O k→O' k):St ⟨w,O'⟩ L w':=
 ⟨h.os,h.tape,h.output,h.size,fun k hk hO=>h.fr k hk (fun q=>hO (hs k q)),h.inv,fun i r hr k hk=>⟨(h.pM i r hr k hk).1.imp (hs k) id,(h.pM i r hr k hk).2⟩,h.wG⟩
theorem Vr {α:Type} {l:List α} {k:Nat} {x:α} (h:l[k]? =some x):l=l.take k++x::l.drop (k+1):=by
 obtain⟨hk,rfl⟩:=aj.1 h
 rw[←cY hk,List.take_append_drop]
theorem Q1 {α:Type} {l:List α} {k:Nat} {x y:α} (h:l[k]? =some x):l.set k y=l.take k++y::l.drop (k+1):=by
 obtain⟨hk,rfl⟩:=aj.1 h
 rw[List.set_eq_take_append_cons_drop,if_pos hk]
theorem Has.amE {w0 w:World} {O:Nat→Prop} {L:List cq} (h:St ⟨w0,O⟩ L w):Has w L:=h.has (List.Sublist.refl _)
theorem GU (o:iG) (r:jN) (x:Ev) (es:List Ev) (pe:Option Addr) (ce bo bu:Nat) (w:World) (hcs:o.cs.length<1000000) (hes:es.length<1000000) (hop:x.kd≠1→∃(k:Nat) (c:iW),o.cs[k]? =some c∧r.op=some c.b)
  (hh:Has w [de bo (.cells #[jR o.b] 99),de bu (.cells #[.slice pe es.length ce] 103),own 239 7 pe ce (es.map zP),nM o,wm o,wo o,qS r]):Calls ae 76 #[.agg (zP x).toArray,jR r.b,jR bo,jR bu] w fun e w'=>∃y:(List iW×Option Nat×Ev)×(Option Addr×Nat)×(Option Addr×Nat),Vm o.cs r.op x y.1.1 y.1.2.1 y.1.2.2∧e= .returned (.tuple #[])∧
   St ⟨w,lu [de bo (.cells #[jR o.b] 99),de bu (.cells #[.slice pe es.length ce] 103),own 239 7 pe ce (es.map zP),nM o,wm o,wo o,qS r]⟩ [de bo (.cells #[jR o.b] 99),de bu (.cells #[.slice y.2.2.1 (es++[y.1.2.2]).length y.2.2.2] 103),own 239 7 y.2.2.1 y.2.2.2 ((es++[y.1.2.2]).map zP),nM { o with cs:=y.1.1,pk:=y.2.1.1,ck:=y.2.1.2 },own 230 1 y.2.1.1 y.2.1.2 (y.1.1.map Wb),bS (y.1.1.map lf),qS { r with op:=y.1.2.1 }] w':=by
 by_cases hk:x.kd=1
 ·refine(acU o r x es pe ce bo bu w hcs hes hk hh).mono ?_
  rintro e w' ⟨y,_,he,hs⟩
  exact⟨((o.cs++[iW.mk y.1 (o.cs.length+1) x.rg x.t 1099511627776 (max 0 x.lv)],some y.1,{ x with nm:=o.cs.length+1 }),y.2.1,y.2.2),.inl ⟨hk,y.1,rfl,rfl,rfl⟩,he,hs⟩
 ·obtain⟨k,c,hc,hr⟩:=hop hk
  have hr2:r={ r with op:=some c.b }:=by cases r;simp only[jN.mk.injEq,true_and]at hr ⊢;exact hr
  have hcm:o.cs.map lf=(o.cs.take k).map lf++c.de::(o.cs.drop (k+1)).map lf:=by
   conv=>lhs;rw[Vr hc]
   rw[bj,fD]
  have h1:St ⟨w,lu [de bo (.cells #[jR o.b] 99),de bu (.cells #[.slice pe es.length ce] 103),own 239 7 pe ce (es.map zP),nM o,wm o,wo o,qS r]⟩ [bS ((o.cs.take k).map lf++c.de::(o.cs.drop (k+1)).map lf),de bo (.cells #[jR o.b] 99),de bu (.cells #[.slice pe es.length ce] 103),own 239 7 pe ce (es.map zP),o.de,o.Lz,r.de] w:=by
   rw[←hcm];exact hh.enter.fO [5,0,1,2,3,4,6] rfl
  have h2:=h1.focus.fO [2,3,4,5,6,0,1,7] rfl
  rw[hr2]at h2
  refine(adQ o r x es pe ce bo bu w hcs hes c _ hk (Has.amE h2)).mono ?_
  rintro e w' ⟨y,_,he,hs⟩
  refine⟨((o.cs.set k { c with en:=if x.kd=2 then x.t else c.en,pk:=max c.pk x.lv },r.op,{ x with nm:=c.nm }),(o.pk,o.ck),y),.inr ⟨hk,k,c,hc,hr,rfl,rfl,rfl⟩,he,?_⟩
  have hsub:∀b,lu [de bo (.cells #[jR o.b] 99),de bu (.cells #[.slice pe es.length ce] 103),own 239 7 pe ce (es.map zP),o.de,o.Lz,c.de,bS ((o.cs.take k).map lf++(o.cs.drop (k+1)).map lf),qS { r with op:=some c.b }] b→lu [de bo (.cells #[jR o.b] 99),de bu (.cells #[.slice pe es.length ce] 103),own 239 7 pe ce (es.map zP),nM o,wm o,wo o,qS r] b:=by
   intro b hb
   rw[tz]at hb ⊢
   obtain⟨q,hq,hqb⟩:=hb
   simp only[cA,mg,or_false]at hq
   have hbag:∀s,s∈o.cs.map lf→s.fp b→∃t,t∈[de bo (.cells #[jR o.b] 99),de bu (.cells #[.slice pe es.length ce] 103),own 239 7 pe ce (es.map zP),nM o,wm o,wo o,qS r]∧t.fp b:=fun s hs hsb=>⟨o.Uo,by simp,s,hs,hsb⟩
   rcases hq with rfl|rfl|rfl|rfl|rfl|rfl|rfl|rfl
   ·exact⟨_,by simp,hqb⟩
   ·exact⟨_,by simp,hqb⟩
   ·exact⟨_,by simp,hqb⟩
   ·exact⟨o.de,by simp,hqb⟩
   ·exact⟨o.Lz,by simp,hqb⟩
   ·exact hbag c.de (by rw[hcm];simp) hqb
   ·obtain⟨s,hs,hsb⟩:=hqb
    exact hbag s (by rw[hcm];simp only[bZ,cA]at hs ⊢;rcases hs with q|q;exact .inl q;exact .inr (.inr q)) hsb
   ·exact⟨r.de,by simp,hqb⟩
  have h3:=(St.ahF hs hsub).fO [5,6,0,1,2,3,4,7] rfl
  have h4:=h3.vR.fO [1,2,3,4,5,0,6] rfl
  have e1:(o.cs.set k { c with en:=if x.kd=2 then x.t else c.en,pk:=max c.pk x.lv }).map lf=(o.cs.take k).map lf++(lf { c with en:=if x.kd=2 then x.t else c.en,pk:=max c.pk x.lv })::(o.cs.drop (k+1)).map lf:=by
   rw[Q1 hc,bj,fD]
  have e2:(o.cs.set k { c with en:=if x.kd=2 then x.t else c.en,pk:=max c.pk x.lv }).map Wb=o.cs.map Wb:=by
   rw[List.map_set]
   refine JR ?_
   rw[aw,hc];rfl
  have e3:nM { o with cs:=o.cs.set k { c with en:=if x.kd=2 then x.t else c.en,pk:=max c.pk x.lv },pk:=o.pk,ck:=o.ck }=o.de:=by simp only[nM,iG.C,List.length_set]
  have e4:qS { r with op:=r.op }=r.de:=rfl
  dsimp only
  rw[e1,e2,e3]
  rw[←hr2]at h4
  exact h4
theorem Hf {β:Bs} {L:List cq} {w:World} (hw:St β L w) (i j k:Nat) {l:List iQ} {p:Option Addr} {c:Nat} {T H:Int} {b7 b8:Nat} (hi:L[i]? =some (own 373 2 p c (l.map zU))) (hj:L[j]? =some (de b7 (.cells #[.int .i64 T] 3))) (hk:L[k]? =some (de b8 (.cells #[.int .i64 H] 3)))
  (hij:i≠j) (hik:i≠k) (hjk:j≠k) (hn:l.length<1000000000000) (hT1:0≤T) (hT2:T≤1000000000000) (hH1:0≤H) (hH2:H≤1000000):
  Calls ae 155 #[.slice p l.length c,.func (.func 156) #[] #[.pointer (some ⟨b7,0,none⟩),.pointer (some ⟨b8,0,none⟩)]] w fun e w'=>∃x:Unit,True∧e= .returned (.slice p (iR T H l).length c)∧St ⟨w,(own 373 2 p c (l.map zU)).fp⟩ [own 373 2 p c ((iR T H l).map zU)] w':=by
 have hh:Has w [own 373 2 p c (l.map zU),de b7 (.cells #[.int .i64 T] 3),de b8 (.cells #[.int .i64 H] 3)]:=by
  refine MB ?_ ?_ ?_
  ·intro r hr
   simp only[cA,mg,or_false]at hr
   rcases hr with rfl|rfl|rfl
   ·exact hw.inv i _ hi
   ·exact hw.inv j _ hj
   ·exact hw.inv k _ hk
  ·intro r hr
   simp only[cA,mg,or_false]at hr
   rcases hr with rfl|rfl|rfl
   ·exact fun q hq=>(hw.pM i _ hi q hq).2
   ·exact fun q hq=>(hw.pM j _ hj q hq).2
   ·exact fun q hq=>(hw.pM k _ hk q hq).2
  ·refine fL.2 ⟨?_,fL.2 ⟨?_,fL.2 ⟨by simp,wj⟩⟩⟩
   ·intro r hr
    simp only[cA,mg,or_false]at hr
    rcases hr with rfl|rfl
    ·exact hw.wG i j _ _ hij hi hj
    ·exact hw.wG i k _ _ hik hi hk
   ·intro r hr
    simp only[cA,mg,or_false]at hr
    rcases hr with rfl
    exact hw.wG j k _ _ hjk hj hk
 refine(Gr l p c T H b7 b8 w hn hh hT1 hT2 hH1 hH2).mono ?_
 rintro e w' ⟨x,_,he,hs⟩
 refine⟨x,trivial,he,?_⟩
 have h7:=hs.inv 1 _ rfl
 have h8:=hs.inv 2 _ rfl
 have g7:=hw.inv j _ hj
 have g8:=hw.inv k _ hk
 refine⟨hs.os,hs.tape,hs.output,hs.size,fun q hq hO=>?_,?_,?_,?_⟩
 ·by_cases e7:q=b7
  ·subst e7;exact h7.trans g7.symm
  ·by_cases e8:q=b8
   ·subst e8;exact h8.trans g8.symm
   ·refine hs.fr q hq (fun hf=>?_)
    obtain⟨r,hr,hrq⟩:=tz.1 hf
    simp only[cA,mg,or_false]at hr
    rcases hr with rfl|rfl|rfl
    ·exact hO hrq
    ·exact e7 hrq
    ·exact e8 hrq
 ·intro q r hr
  exact hs.inv q r (by cases q with|zero=>simpa using hr|succ q=>simp at hr)
 ·intro q r hr b hb
  cases q with
  |succ q=>simp at hr
  |zero=>
   simp at hr;subst hr
   exact⟨.inl hb,(hs.pM 0 _ rfl b hb).2⟩
 ·intro q1 q2 r s hne h1 h2
  cases q1 with
  |succ q=>simp at h1
  |zero=>cases q2 with
   |succ q=>simp at h2
   |zero=>exact absurd rfl hne
def jE (l:List iQ):Int:=l.foldl (fun m x=>max m x.lv) 0
theorem yx:∀(l:List iQ) (m:Int),m≤l.foldl (fun m x=>max m x.lv) m
 |[],m=>dx _
 |x::l,m=>Int.le_trans (Int.le_max_left ..) (yx l _)
theorem uO (l:List iQ):0≤jE l:=yx l 0
theorem Nj {l:List iQ} {j:Nat} (hj:j<l.length):max (jE (l.take j)) (l.getD j pO).lv=jE (l.take (j+1)):=by
 unfold jE
 rw[cQ,getD_some (l:=l) (d:=pO) hj,kB];rfl
abbrev fY (T H:Int) (rc:List iQ) (lv:Int):List iQ:=iR T H rc++[iQ.mk T lv]
def wQ (b n:Int):Int:=if b<n then(if b=0 then 1 else 3) else if n=0 then 2 else 4
def lh (i T b n:Int) (t:xZ):Ev:=⟨T,i,wQ b n,n,0,if b<n then t.ld else-1,if b<n then t.px else-1⟩
structure FG where
 r:jN
 cs:List iW
 pk:Option Addr
 ck:Nat
 es:List Ev
 pe:Option Addr
 ce:Nat
def IE (r:jN) (T H:Int) (t:xZ) (cs:List iW) (es:List Ev) (y:FG):Prop:=
  y.r.x=r.x∧y.r.b=r.b∧y.r.i=r.i∧y.r.rc=fY T H r.rc t.lv∧y.r.lv=r.lv++[jE (fY T H r.rc t.lv)]∧
  ((jE (fY T H r.rc t.lv)=ko r.lv∧y.r.op=r.op∧y.cs=cs∧y.es=es)∨
   (jE (fY T H r.rc t.lv)≠ko r.lv∧∃x',Vm cs r.op (lh r.i T (ko r.lv) (jE (fY T H r.rc t.lv)) t) y.cs y.r.op x'∧y.es=es++[x']))
theorem ac5 (o:iG) (r:jN) (t:xZ) (T H:Int) (es:List Ev) (pe:Option Addr) (ce bo bu:Nat) (w:World) (hcs:o.cs.length<1000000) (hes:es.length<1000000) (hrc:r.rc.length<1000000) (hlv:r.lv.length<1000000) (hT1:0≤T) (hT2:T≤1000000000000) (hH1:0≤H) (hH2:H≤1000000) (hop:ko r.lv≠0→∃(k:Nat) (c:iW),o.cs[k]? =some c∧r.op=some c.b) (hh:Has w [de bo (.cells #[jR o.b] 99),de bu (.cells #[.slice pe es.length ce] 103),own 239 7 pe ce (es.map zP),nM o,wm o,wo o,qS r,r.LH,r.Ps]):
 Calls ae 77 #[jR r.b,aij t,.int .i64 T,.int .i64 H,.func (.func 76) #[] #[jR bo,jR bu]] w fun e w'=>∃y:FG,IE r T H t o.cs es y∧e= .returned (.tuple #[])∧St ⟨w,lu [de bo (.cells #[jR o.b] 99),de bu (.cells #[.slice pe es.length ce] 103),own 239 7 pe ce (es.map zP),nM o,wm o,wo o,qS r,r.LH,r.Ps]⟩ [de bo (.cells #[jR o.b] 99),de bu (.cells #[.slice y.pe y.es.length y.ce] 103),own 239 7 y.pe y.ce (y.es.map zP),nM { o with cs:=y.cs,pk:=y.pk,ck:=y.ck },own 230 1 y.pk y.ck (y.cs.map Wb),bS (y.cs.map lf),y.r.de,y.r.LH,y.r.Ps] w':=by
 have hkl:(iR T H r.rc).length≤r.rc.length:=cH ..
 have hnl:(fY T H r.rc t.lv).length=(iR T H r.rc).length+1:=by simp
 have hnl2:(iR T H r.rc++[iQ.mk T t.lv]).length=(iR T H r.rc).length+1:=by simp
 refine mG (vs:=[_,_,_,_,_]) (env:=[(0,_),(1,_),(2,_),(3,_),(4,_)]) hh.enter Tryz.func77 rfl rfl rfl rfl ?_
 refine VC.q (aD rfl<|cf (C:=#[_,_,_]) rfl rfl fun b10=>aD rfl<|cf (C:=#[_]) rfl rfl fun b11=>aD rfl<|cf (C:=#[_]) rfl rfl fun b12=>VO.n<|VC.q (VO.m rfl<|ah (bD (xs:=[_]) (vs:=[_]) C82 ⟨(.r rfl),trivial⟩ (fun w hw=>Ph r w (by omega) (aX hw 9 rfl ⟨_,rfl⟩) (RO.kg hw 11 rfl))) rfl<|VO.a rfl<|VO.n<|ak ?_))
 refine VC.VU [⟨11,28,fun b=>.slice (some ⟨b,0,none⟩) 1 1,373,#[_,_]⟩] [[0,1,2,3,4,5,6,7,8,9,10,11],[0,1,2,3,4,5,6,7,8,9,10,11],[0,1,2,3,4,5,6,7,8,9,11],[0,1,2,3,4,5,6,7,8,9,11],[0,1,2,3,4,5,6,7,8,9,11],[0,1,2,3,4,5,6,7,8,11]] [some 4,some 3,some 3,some 3,some 3,none,none,some 2,some 2,some 2,some 2,none,none,some 4,some 4,none] mixed (by kernel_rfl) rfl (LX.m rfl<|LX.m rfl<|aA (fun _ hJ=>bH (.r rfl)) rfl<|aA (fun _ hJ=>aE (r:=3) Mx (.r rfl) rfl) rfl<|aA (fun _ hJ=>aB ah5 (.r rfl) (fun _ hw=>aX (hJ _ hw) 9 rfl ⟨_,rfl⟩)) rfl<|cn<|cn<|aA (fun _ hJ=>aB O3 (.r rfl) (fun _ hw=>aX (hJ _ hw) 1 rfl ⟨_,rfl⟩)) rfl<|aA (fun _ hJ=>aE (r:=0) Nf (.r rfl) rfl) rfl<|aA (fun _ hJ=>aB O3 (.r rfl) (fun _ hw=>aX (hJ _ hw) 2 rfl ⟨_,rfl⟩)) rfl<|aA (fun _ hJ=>LO.bd (ps:=[(_,_),(_,_)]) (vs:=[(_,_),(_,_)]) (C:=[_,_]) amG ⟨(.r rfl),(.r rfl),trivial⟩ rfl ⟨_,[_],[_,_],rfl,rfl,rfl,rfl,⟨_,[_],[_,_],rfl,rfl,rfl,rfl,rfl⟩⟩) rfl<|cn<|cn<|aA (fun _ hJ=>bH (.r rfl)) rfl<|aA (fun _ hJ=>aE (r:=3) Mx (.r rfl) rfl) rfl<|cn<|dw) (⟨⟨rfl,_,rfl,FO.bs (ps:=[(_,_)]) (vs:=[(_,_)]) (Z:=[_,_]) (C:=[_,_]) Ae ZM Eu ⟨(.r rfl),trivial⟩ rfl rfl rfl rfl ⟨_,[_,_],[_,_],rfl,rfl,rfl,rfl,rfl⟩⟩,trivial⟩) (qJ<|qJ<|qJ<|qJ<|qJ<|HY.h rfl rfl fun X=>aO (LO.mf (cap:=[_,_]) ⟨(.r rfl),(.r rfl),trivial⟩)<|⟨[_,_,_,_,_,_,_,_,_,_,_,_],rfl,gM (L1:=[_,_,_,_,_,_,_,_,_,_,_,_]) [0,1,2,3,4,5,6,7,8,9,10,11] rfl rfl rfl,HY.h rfl rfl fun X=>HO.VX (first:=[]) (cap:=[]) (xs:=[_,_]) (vs:=[_,_]) 10 (fun R=>[_,_,_,_,_,_,_,_,_,_,R,_]++X) rfl (.r rfl) amo ⟨(.r rfl),(.r rfl),trivial⟩ (fun _=>rfl) (fun w hw=>Hf hw 10 1 0 rfl rfl rfl (by decide) (by decide) (by decide) (by omega) hT1 hT2 hH1 hH2) fun dz _=>⟨[_,_,_,_,_,_,_,_,_,_,_,_],rfl,gM (L1:=[_,_,_,_,_,_,_,_,_,_,_]) [0,1,2,3,4,5,6,7,8,9,11] rfl rfl rfl,qJ<|qJ<|qJ<|qJ<|HY.f rfl fun b17=>⟨gM (L1:=[_,_,_,_,_,_,_,_,_,_,_]) [1,2,3,4,5,6,7,8,9,10,12] rfl rfl rfl,HY.h rfl rfl fun X=>dM ((iQ.mk T t.lv)) 11 0 (fun R=>[_,_,_,_,_,_,_,_,_,_,_,R,_]++X) Ae Ae ak3 (.r rfl) (.r rfl) rfl rfl rfl rfl rfl rfl rfl (fun _=>rfl) rfl (by omega) fun p12 c12=>⟨[_,_,_,_,_,_,_,_,_,_,_,_,_],rfl,gM (L1:=[_,_,_,_,_,_,_,_,_,_,_]) [1,2,3,4,5,6,7,8,9,10,12] rfl rfl rfl,qJ<|qJ<|HY.h0 rfl fun X=>bl 10 (vs:=[_]) (C':=[_,_,_,_,_,_]) (L':=[_,_,_,_,_,_,_,_,_,_,_,_,_]++X) alx rfl rfl rfl rfl rfl rfl rfl rfl<|⟨[_,_,_,_,_,_,_,_,_,_,_,_,_],rfl,gM (L1:=[_,_,_,_,_,_,_,_,_,_]) [1,2,3,4,5,6,7,8,9,12] rfl rfl rfl,HY.nil ?_⟩⟩⟩⟩⟩)
 refine ag<|VC.q (VO.a rfl<|VO.n<|ak<|VC.q (VO.m rfl<|ah (bH (.r rfl)) rfl<|VO.f (r:=3) Mx rfl<|VO.c 10 ah5 rfl rfl ⟨_,rfl⟩ rfl<|ah (bW Ae (.r rfl) rfl) rfl<|VO.m rfl<|aI ?_))
 refine ag<|aG<|bY (α:=Nat) 0 (fun gx=>[(11,.int .i64 (jE ((fY T H r.rc t.lv).take gx))),(37,.int .i64 (gx:Nat))]) [(0,_),(4,_),(6,_),(7,_),(10,_),(35,_),(36,_)] (fun gx=>[]) (fun gx=>gx≤(fY T H r.rc t.lv).length) (fun gx=>(fY T H r.rc t.lv).length-gx) 0 (by exact bG _) (.c4 rfl rfl rfl rfl (.c4 rfl rfl rfl rfl (.cons rfl .nil))) (fun _ h=>h) ?_
 rintro j hj
 refine VC.q (VO.t rfl<|VO.n<|ak<|ay rfl (fun h38=>?_) (fun h38=>?_))
 ·
  refine aC (ag<|ak<|aG<|VC.q (ah (LO.wy Ae Eu (fun _ hw=>(dE hw 11 rfl).some (by rw[aq])) (.r rfl) (.r rfl) rfl (by omega)) rfl<|ah (aM (vs:=[_,_]) UE (.r rfl) (fun w hw=>bq (off:=0) (gN hw 11 rfl (getD_some (d:=pO) (by omega))) ⟨_,rfl⟩) rfl) rfl<|aD rfl<|bI (C:=#[_,_]) ZM rfl fun b19=>bU<|bl 0 (vs:=[_,_]) (C':=[_,_]) (L':=[_,_,_,_,_,_,_,_,_,_,_,_,_,_]) Eu rfl rfl rfl rfl rfl rfl rfl rfl<|VO.n<|aF (VO.m rfl<|VO.f (r:=1) aeL rfl<|VO.c 0 O3 rfl rfl ⟨_,rfl⟩ rfl<|ah (LO.max (.r rfl) (.r rfl)) rfl<|VO.a rfl<|aI ?_)))
  refine bB (ag<|aF (VO.p rfl rfl (by omega) (by omega) rfl<|VO.m rfl<|aI<|bn fun a w ha hw=>⟨j+1,(by omega),(by omega),ha.sub (.cons (Eq.trans (b:=some (Value.int .i64 (max (jE ((fY T H r.rc t.lv).take j)) ((fY T H r.rc t.lv).getD j pO).lv))) rfl (by rw[Nj (by omega)])) (.c4 rfl rfl rfl rfl (.c4 rfl rfl rfl rfl .nil))),hw.fO [1,2,3,4,5,6,7,8,9,10,11,12,13] rfl⟩))
 ·
  refine ca (aL (aL (cD (ag<|ak ?_))))
  have hj2:j=(fY T H r.rc t.lv).length:=by omega
  rw[show(fY T H r.rc t.lv).take j=(fY T H r.rc t.lv) from by rw[hj2,du]]
  refine aF (VO.m rfl<|VO.m rfl<|ah (bH (.r rfl)) rfl<|VO.f (r:=4) xd rfl<|VO.c 10 ij rfl rfl ⟨_,rfl⟩ rfl<|VO.m rfl<|aD rfl<|fu (ps:=[(_,_)]) (vs:=[(_,_)]) (Z:=[_]) (C:=[_]) ei Z3 N3 ⟨(.r rfl),trivial⟩ rfl rfl rfl rfl ⟨_,[_],[_],rfl,rfl,rfl,rfl,rfl⟩ fun b21=>aD rfl<|dM ((jE (fY T H r.rc t.lv))) 13 0 (fun R=>[_,_,_,_,_,_,_,_,_,_,_,_,_,R]) ei ei I3 (.r rfl) (.r rfl) rfl rfl rfl rfl rfl rfl rfl (fun _=>rfl) rfl (by omega) fun p7 c7=>ah (bH (.r rfl)) rfl<|VO.f (r:=4) xd rfl<|bU<|bl 11 (vs:=[_]) (C':=[_,_,_,_,_,_]) (L':=[_,_,_,_,_,_,_,_,_,_,_,_,_,_]) qo rfl rfl rfl rfl rfl rfl rfl rfl<|VO.n<|ak<|cP [[0,1,2,3,4,5,6,7,8,9,10,11,12,13],[0,1,2,3,4,5,6,7,8,9,10,11,12,13],[0,1,2,3,4,5,6,7,8,9,10,11,12,13]] [some 1,some 1,some 1,some 1,some 1,some 1,some 1,none,none] mixed (by kernel_rfl) rfl (aA (fun _ hJ=>aB O3 (.r rfl) (fun _ hw=>aX (hJ _ hw) 3 rfl ⟨_,rfl⟩)) rfl<|LX.m rfl<|aA (fun _ hJ=>bH (.r rfl)) rfl<|aA (fun _ hJ=>aE (r:=2) Al (.r rfl) rfl) rfl<|aA (fun _ hJ=>aB O3 (.r rfl) (fun _ hw=>aX (hJ _ hw) 11 rfl ⟨_,rfl⟩)) rfl<|LX.m rfl<|aA (fun _ hJ=>LO.bd (ps:=[(_,_),(_,_),(_,_),(_,_),(_,_)]) (vs:=[(_,_),(_,_),(_,_),(_,_),(_,_)]) (C:=[_,_,_,_,_,_,_]) am6 ⟨(.r rfl),(.r rfl),(.r rfl),(.r rfl),(.r rfl),trivial⟩ rfl ⟨_,[_],[_,_,_,_,_,_,_],rfl,rfl,rfl,rfl,⟨_,[_],[_,_,_,_,_,_,_],rfl,rfl,rfl,rfl,⟨_,[_],[_,_,_,_,_,_,_],rfl,rfl,rfl,rfl,⟨_,[_],[_,_,_,_,_,_,_],rfl,rfl,rfl,rfl,⟨_,[_],[_,_,_,_,_,_,_],rfl,rfl,rfl,rfl,rfl⟩⟩⟩⟩⟩) rfl<|cn<|cn<|dw) (au<|au<|au<|au<|au<|au<|au<|fQ rfl<|bI (C:=#[_,_,_,_,_,_,_]) ZD rfl fun b25=>⟨gM (L1:=[_,_,_,_,_,_,_,_,_,_,_,_,_,_]) [1,2,3,4,5,6,7,8,9,10,11,12,13,14] rfl rfl rfl,eW<|bl 0 (vs:=[_,_,_,_,_,_,_]) (C':=[_,_,_,_,_,_,_]) (L':=[_,_,_,_,_,_,_,_,_,_,_,_,_,_,_]) ZN rfl rfl rfl rfl rfl rfl rfl rfl<|⟨gM (L1:=[_,_,_,_,_,_,_,_,_,_,_,_,_,_]) [1,2,3,4,5,6,7,8,9,10,11,12,13,14] rfl rfl rfl,dS ?_⟩⟩))
  refine ag<|ak<|aG<|VC.q (VO.m rfl<|VO.m rfl<|ah (LO.eq (.r rfl) (.r rfl)) rfl<|VO.a rfl<|VO.n<|ay rfl (fun h64=>?_) (fun h64=>?_))
  ·
   refine aP (VE.mB (VE.cJ (VE.res (vs:=[]) rfl trivial (fun w hw=>?_))))
   exact⟨⟨{ r with rc:=(fY T H r.rc t.lv),pr:=p12,cr:=c12,lv:=r.lv++[(jE (fY T H r.rc t.lv))],pv:=p7,cv:=c7 },o.cs,o.pk,o.ck,es,pe,ce⟩,⟨rfl,rfl,rfl,rfl,rfl,.inl ⟨h64,rfl,rfl,rfl⟩⟩,rfl,bM (L1:=[_,_,_,_,_,_,_,_,_]) [6,7,8,9,10,11,12,13,14] rfl rfl _ hw⟩
  ·
   refine VC.q (VO.m rfl<|VO.m rfl<|ah (LO.gt (.r rfl) (.r rfl)) rfl<|VO.a rfl<|VO.n<|ay rfl (fun h68=>?_) (fun h68=>?_))
   ·
    refine ak<|VC.q (VO.f (r:=2) vj rfl<|bU<|bl 0 (vs:=[_]) (C':=[_,_,_,_,_,_,_]) (L':=[_,_,_,_,_,_,_,_,_,_,_,_,_,_,_]) N3 rfl rfl rfl rfl rfl rfl rfl rfl<|VO.n<|VC.q (VO.m rfl<|ah (LO.eq (.r rfl) (.r rfl)) rfl<|VO.n ?_))
    refine ay rfl (fun h74=>?_) (fun h74=>?_)
    ·
     refine aF (VO.f (r:=2) vj rfl<|bU<|bl 0 (vs:=[_]) (C':=[_,_,_,_,_,_,_]) (L':=[_,_,_,_,_,_,_,_,_,_,_,_,_,_,_]) N3 rfl rfl rfl rfl rfl rfl rfl rfl<|VO.n<|cP [[0,1,2,3,4,5,6,7,8,9,10,11,12,13,14],[1,2,3,4,5,6,7,8,9,10,11,12,13,14],[1,2,3,4,5,6,7,8,9,10,11,12,13,14]] [some 0,some 0,some 1,some 1,some 0,none,some 1,none] mixed (by kernel_rfl) rfl (aA (fun _ hJ=>aE (r:=1) MC (.r rfl) rfl) rfl<|aA (fun _ hJ=>aB O3 (.r rfl) (fun _ hw=>aX (hJ _ hw) 5 rfl ⟨_,rfl⟩)) rfl<|aA (fun _ hJ=>aE (r:=2) Mj (.r rfl) rfl) rfl<|aA (fun _ hJ=>aB O3 (.r rfl) (fun _ hw=>aX (hJ _ hw) 4 rfl ⟨_,rfl⟩)) rfl<|aA (fun _ hJ=>aE (r:=5) VN (.r rfl) rfl) rfl<|cn<|aA (fun _ hJ=>aE (r:=6) Uu (.r rfl) rfl) rfl<|cn<|dw) (au<|au<|au<|au<|au<|eW<|bl 0 (vs:=[_]) (C':=[_,_,_,_,_,_,_]) (L':=[_,_,_,_,_,_,_,_,_,_,_,_,_,_,_]) N3 rfl rfl rfl rfl rfl rfl rfl rfl<|⟨gM (L1:=[_,_,_,_,_,_,_,_,_,_,_,_,_,_]) [1,2,3,4,5,6,7,8,9,10,11,12,13,14] rfl rfl rfl,au<|eW<|bl 0 (vs:=[_]) (C':=[_,_,_,_,_,_,_]) (L':=[_,_,_,_,_,_,_,_,_,_,_,_,_,_,_]) N3 rfl rfl rfl rfl rfl rfl rfl rfl<|⟨gM (L1:=[_,_,_,_,_,_,_,_,_,_,_,_,_,_]) [1,2,3,4,5,6,7,8,9,10,11,12,13,14] rfl rfl rfl,dS ?_⟩⟩))
     refine bB (ag<|aF (VO.m rfl<|ah (aM (vs:=[_,_,_,_,_,_,_]) Na (.r rfl) (ax 0 rfl ⟨_,rfl⟩) rfl) rfl<|VO.m rfl<|aD rfl<|HO.pS (first:=[]) (cap:=[_,_]) (xs:=[_,_]) (vs:=[_,_]) [_,_,_,_,_,_,_] [_,_,_,_,_,_,_,_] (bM (L1:=[_,_,_,_,_,_,_]++[_,_,_,_,_,_,_,_]) [6,7,8,9,10,11,12,0,1,2,3,4,5,13,14] rfl rfl) (.r rfl) C76 ⟨(.r rfl),(.r rfl),trivial⟩ (fun w _ hh=>GU o { r with rc:=(fY T H r.rc t.lv),pr:=p12,cr:=c12,lv:=r.lv++[(jE (fY T H r.rc t.lv))],pv:=p7,cv:=c7 } (xX T r.i 1 (jE (fY T H r.rc t.lv)) 0 t.ld t.px) es pe ce bo bu w hcs hes (fun hq=>by first |exact absurd rfl hq|exact hop (by have:=uO (fY T H r.rc t.lv);omega)) hh) fun z hz=>aI<|VE.xf (vs:=[]) rfl trivial (fun w hw=>?_)))
     exact⟨⟨{ ({ r with rc:=(fY T H r.rc t.lv),pr:=p12,cr:=c12,lv:=r.lv++[(jE (fY T H r.rc t.lv))],pv:=p7,cv:=c7 }:jN) with op:=z.1.2.1 },z.1.1,z.2.1.1,z.2.1.2,es++[z.1.2.2],z.2.2.1,z.2.2.2⟩,⟨rfl,rfl,rfl,rfl,rfl,.inr ⟨h64,z.1.2.2,(by have e:(xX T r.i 1 (jE (fY T H r.rc t.lv)) 0 t.ld t.px)=lh r.i T (ko r.lv) (jE (fY T H r.rc t.lv)) t:=(by simp only[lh,wQ,if_pos h68,if_pos h74]);rw[←e];exact hz),rfl⟩⟩,rfl,bM (L1:=[_,_,_,_,_,_,_,_,_]) [0,1,2,3,4,5,6,13,14] rfl rfl _ hw⟩
    ·
     refine aC (ag<|cP [[0,1,2,3,4,5,6,7,8,9,10,11,12,13,14],[1,2,3,4,5,6,7,8,9,10,11,12,13,14],[1,2,3,4,5,6,7,8,9,10,11,12,13,14]] [some 0,some 0,some 1,some 1,some 0,none,some 1,none] mixed (by kernel_rfl) rfl (aA (fun _ hJ=>aE (r:=1) MC (.r rfl) rfl) rfl<|aA (fun _ hJ=>aB O3 (.r rfl) (fun _ hw=>aX (hJ _ hw) 5 rfl ⟨_,rfl⟩)) rfl<|aA (fun _ hJ=>aE (r:=2) Mj (.r rfl) rfl) rfl<|aA (fun _ hJ=>aB O3 (.r rfl) (fun _ hw=>aX (hJ _ hw) 4 rfl ⟨_,rfl⟩)) rfl<|aA (fun _ hJ=>aE (r:=5) VN (.r rfl) rfl) rfl<|cn<|aA (fun _ hJ=>aE (r:=6) Uu (.r rfl) rfl) rfl<|cn<|dw) (au<|au<|au<|au<|au<|eW<|bl 0 (vs:=[_]) (C':=[_,_,_,_,_,_,_]) (L':=[_,_,_,_,_,_,_,_,_,_,_,_,_,_,_]) N3 rfl rfl rfl rfl rfl rfl rfl rfl<|⟨gM (L1:=[_,_,_,_,_,_,_,_,_,_,_,_,_,_]) [1,2,3,4,5,6,7,8,9,10,11,12,13,14] rfl rfl rfl,au<|eW<|bl 0 (vs:=[_]) (C':=[_,_,_,_,_,_,_]) (L':=[_,_,_,_,_,_,_,_,_,_,_,_,_,_,_]) N3 rfl rfl rfl rfl rfl rfl rfl rfl<|⟨gM (L1:=[_,_,_,_,_,_,_,_,_,_,_,_,_,_]) [1,2,3,4,5,6,7,8,9,10,11,12,13,14] rfl rfl rfl,dS ?_⟩⟩))
     refine bB (ag<|aF (VO.m rfl<|ah (aM (vs:=[_,_,_,_,_,_,_]) Na (.r rfl) (ax 0 rfl ⟨_,rfl⟩) rfl) rfl<|VO.m rfl<|aD rfl<|HO.pS (first:=[]) (cap:=[_,_]) (xs:=[_,_]) (vs:=[_,_]) [_,_,_,_,_,_,_] [_,_,_,_,_,_,_,_] (bM (L1:=[_,_,_,_,_,_,_]++[_,_,_,_,_,_,_,_]) [6,7,8,9,10,11,12,0,1,2,3,4,5,13,14] rfl rfl) (.r rfl) C76 ⟨(.r rfl),(.r rfl),trivial⟩ (fun w _ hh=>GU o { r with rc:=(fY T H r.rc t.lv),pr:=p12,cr:=c12,lv:=r.lv++[(jE (fY T H r.rc t.lv))],pv:=p7,cv:=c7 } (xX T r.i 3 (jE (fY T H r.rc t.lv)) 0 t.ld t.px) es pe ce bo bu w hcs hes (fun hq=>by first |exact absurd rfl hq|exact hop (by have:=uO (fY T H r.rc t.lv);omega)) hh) fun z hz=>aI<|VE.xf (vs:=[]) rfl trivial (fun w hw=>?_)))
     exact⟨⟨{ ({ r with rc:=(fY T H r.rc t.lv),pr:=p12,cr:=c12,lv:=r.lv++[(jE (fY T H r.rc t.lv))],pv:=p7,cv:=c7 }:jN) with op:=z.1.2.1 },z.1.1,z.2.1.1,z.2.1.2,es++[z.1.2.2],z.2.2.1,z.2.2.2⟩,⟨rfl,rfl,rfl,rfl,rfl,.inr ⟨h64,z.1.2.2,(by have e:(xX T r.i 3 (jE (fY T H r.rc t.lv)) 0 t.ld t.px)=lh r.i T (ko r.lv) (jE (fY T H r.rc t.lv)) t:=(by simp only[lh,wQ,if_pos h68,if_neg h74]);rw[←e];exact hz),rfl⟩⟩,rfl,bM (L1:=[_,_,_,_,_,_,_,_,_]) [0,1,2,3,4,5,6,13,14] rfl rfl _ hw⟩
   ·
    refine VC.q (VO.m rfl<|ah (LO.eq (.r rfl) (.r rfl)) rfl<|VO.a rfl<|VO.n<|ay rfl (fun h82=>?_) (fun h82=>?_))
    ·
     refine aF (VO.f (r:=2) vj rfl<|bU<|bl 0 (vs:=[_]) (C':=[_,_,_,_,_,_,_]) (L':=[_,_,_,_,_,_,_,_,_,_,_,_,_,_,_]) N3 rfl rfl rfl rfl rfl rfl rfl rfl<|aI<|bB (ag<|aF (VO.m rfl<|ah (aM (vs:=[_,_,_,_,_,_,_]) Na (.r rfl) (ax 0 rfl ⟨_,rfl⟩) rfl) rfl<|VO.m rfl<|aD rfl<|HO.pS (first:=[]) (cap:=[_,_]) (xs:=[_,_]) (vs:=[_,_]) [_,_,_,_,_,_,_] [_,_,_,_,_,_,_,_] (bM (L1:=[_,_,_,_,_,_,_]++[_,_,_,_,_,_,_,_]) [6,7,8,9,10,11,12,0,1,2,3,4,5,13,14] rfl rfl) (.r rfl) C76 ⟨(.r rfl),(.r rfl),trivial⟩ (fun w _ hh=>GU o { r with rc:=(fY T H r.rc t.lv),pr:=p12,cr:=c12,lv:=r.lv++[(jE (fY T H r.rc t.lv))],pv:=p7,cv:=c7 } (xX T r.i 2 (jE (fY T H r.rc t.lv)) 0 (-1) (-1)) es pe ce bo bu w hcs hes (fun hq=>by first |exact absurd rfl hq|exact hop (by have:=uO (fY T H r.rc t.lv);omega)) hh) fun z hz=>aI<|VE.xf (vs:=[]) rfl trivial (fun w hw=>?_))))
     exact⟨⟨{ ({ r with rc:=(fY T H r.rc t.lv),pr:=p12,cr:=c12,lv:=r.lv++[(jE (fY T H r.rc t.lv))],pv:=p7,cv:=c7 }:jN) with op:=z.1.2.1 },z.1.1,z.2.1.1,z.2.1.2,es++[z.1.2.2],z.2.2.1,z.2.2.2⟩,⟨rfl,rfl,rfl,rfl,rfl,.inr ⟨h64,z.1.2.2,(by have e:(xX T r.i 2 (jE (fY T H r.rc t.lv)) 0 (-1) (-1))=lh r.i T (ko r.lv) (jE (fY T H r.rc t.lv)) t:=(by simp only[lh,wQ,if_neg h68,if_pos h82]);rw[←e];exact hz),rfl⟩⟩,rfl,bM (L1:=[_,_,_,_,_,_,_,_,_]) [0,1,2,3,4,5,6,13,14] rfl rfl _ hw⟩
    ·
     refine aF (VO.f (r:=2) vj rfl<|bU<|bl 0 (vs:=[_]) (C':=[_,_,_,_,_,_,_]) (L':=[_,_,_,_,_,_,_,_,_,_,_,_,_,_,_]) N3 rfl rfl rfl rfl rfl rfl rfl rfl<|aI<|bB (ag<|aF (VO.m rfl<|ah (aM (vs:=[_,_,_,_,_,_,_]) Na (.r rfl) (ax 0 rfl ⟨_,rfl⟩) rfl) rfl<|VO.m rfl<|aD rfl<|HO.pS (first:=[]) (cap:=[_,_]) (xs:=[_,_]) (vs:=[_,_]) [_,_,_,_,_,_,_] [_,_,_,_,_,_,_,_] (bM (L1:=[_,_,_,_,_,_,_]++[_,_,_,_,_,_,_,_]) [6,7,8,9,10,11,12,0,1,2,3,4,5,13,14] rfl rfl) (.r rfl) C76 ⟨(.r rfl),(.r rfl),trivial⟩ (fun w _ hh=>GU o { r with rc:=(fY T H r.rc t.lv),pr:=p12,cr:=c12,lv:=r.lv++[(jE (fY T H r.rc t.lv))],pv:=p7,cv:=c7 } (xX T r.i 4 (jE (fY T H r.rc t.lv)) 0 (-1) (-1)) es pe ce bo bu w hcs hes (fun hq=>by first |exact absurd rfl hq|exact hop (by have:=uO (fY T H r.rc t.lv);omega)) hh) fun z hz=>aI<|VE.xf (vs:=[]) rfl trivial (fun w hw=>?_))))
     exact⟨⟨{ ({ r with rc:=(fY T H r.rc t.lv),pr:=p12,cr:=c12,lv:=r.lv++[(jE (fY T H r.rc t.lv))],pv:=p7,cv:=c7 }:jN) with op:=z.1.2.1 },z.1.1,z.2.1.1,z.2.1.2,es++[z.1.2.2],z.2.2.1,z.2.2.2⟩,⟨rfl,rfl,rfl,rfl,rfl,.inr ⟨h64,z.1.2.2,(by have e:(xX T r.i 4 (jE (fY T H r.rc t.lv)) 0 (-1) (-1))=lh r.i T (ko r.lv) (jE (fY T H r.rc t.lv)) t:=(by simp only[lh,wQ,if_neg h68,if_neg h82]);rw[←e];exact hz),rfl⟩⟩,rfl,bM (L1:=[_,_,_,_,_,_,_,_,_]) [0,1,2,3,4,5,6,13,14] rfl rfl _ hw⟩
theorem aeu:jW ae 218 7 88 (.agg #[.slice none 0 0,.slice none 0 0,.int .i64 0,.int .i64 0,.int .i64 0,.int .i64 0,.int .i64 0]):=⟨by kernel_rfl,by kernel_rfl,by unfold cj;kernel_rfl,rfl,by decide⟩
theorem LO.ags {P:Program} {β:Bs} {env:Env} {L:List cq} {d:Option Nat} {ty:TypeId} {pos:String} {aft:Array Edge} {g:Option (Nat×Bool)} {T T2:TypeId} {x y:Operand} {p:Option Addr} {n c:Nat} (hT:∃E,P.underlying T=some (.slice E)) (hx:OV env x (.slice p n c)) (hy:OV env y (.slice none 0 0)):
  LO P β env L ⟨d,.binOp .eql T x y T2,ty,pos,aft,g⟩ (.bool p.isNone):=
 .ee fun a w h hw=>⟨w,by
  obtain⟨E,hE⟩:=hT
  have key:(Op.equalIn Op.maxDepth T (.slice p n c) (.slice none 0 0)).run P w= .ok p.isNone w:=by
   show(Op.equalIn (9999+1) T (.slice p n c) (.slice none 0 0)).run P w=_
   unfold Op.equalIn
   rw[Sem.run_bind,run_underlying hE]
   cases p<;>rfl
  simp only[execOp,h x (by simp [Op.operands]) _ hx,h y (by simp [Op.operands]) _ hy,eqGuard,binOp,Op.equal,Sem.run_bind,Sem.run_pure,Result.andThen_ok,key,Bool.not_true,Bool.false_eq_true,if_false],hw⟩
theorem PG {α:Type} {z:Nat} {f:α→List Value} {w:World} {p:Option Addr} {l:List α} (h:RO z f w p l) (hp:p.isNone=true):l=[]:=by
 have:=Go.SL.Rows.nil h (by cases p;rfl;cases hp)
 simpa using this
theorem St.Pk {β:Bs} {L Rs:List cq} {r s:cq} {w:World} (h:St β (r::s::bS Rs::L) w):St β (bS (Rs++[r,s])::L) w:=by
 have h1:=St.nq (h.perm (L':=s::bS Rs::r::L) (by
  exact(qd s r _).trans (W3 s (qd (bS Rs) r L))))
 have h2:=h.perm (L':=r::bS Rs::s::L) (W3 r (qd (bS Rs) s L))
 have h3:=St.nq h2
 have h4:=St.nq (h3.perm (qd _ _ _))
 rw[dp]at h4
 exact h4
theorem St.ahB {β:Bs} {L:List cq} {xs:List CP} {x:CP} {w:World} (h:St β (own 3 1 x.ps x.cs (x.c.sure.map iC)::own 3 1 x.pm x.cm (x.c.may.map iC)::bS (xs.flatMap cpR)::L) w):St β (bS ((xs++[x]).flatMap cpR)::L) w:=by
 rw[l6]
 have e:[x].flatMap cpR=[own 3 1 x.ps x.cs (x.c.sure.map iC),own 3 1 x.pm x.cm (x.c.may.map iC)]:=rfl
 rw[e]
 exact St.Pk h
theorem z8 (l:List Int) (p:Option Addr) (c:Nat) (w:World) (hn:l.length<1000000000000) (hl:RO 1 iC w p l):
 Calls ae 71 #[.slice p l.length c] w fun e w'=>∃x:Option Addr×Nat,True∧e= .returned (.slice x.1 l.length x.2)∧St (bs w) [own 3 1 x.1 x.2 (l.map iC)] w':=by
 refine enter (vs:=[_]) (env:=[(0,_)]) Tryz.func71 rfl rfl rfl rfl ?_
 refine VC.q (VO.a rfl<|VO.n<|ak<|VC.q (VO.m rfl<|ah (LO.ags ⟨_,Tryz.underlying112⟩ (.r rfl) (.r rfl)) rfl<|VO.n ?_))
 refine ay rfl (fun h4=>?_) (fun h4=>?_)
 ·
  have h0:=PG hl h4
  refine VC.q (VO.a rfl<|VO.n<|aP (VE.cJ (VE.s rfl rfl (fun w hw=>?_))))
  first |exact⟨(none,0),trivial,by rw[h0];rfl,by rw[h0];exact hw.nil.fX 3 1⟩|exact⟨(p2,c2),trivial,rfl,hw.fO [0] rfl⟩
 ·
  refine aC (ag<|VC.q (aD rfl<|HO.bs0 ei N3 fun b1=>VO.m rfl<|aD rfl<|HO.VV (f:=iC) (m:=l) 0 (fun R=>[R]) ei ei I3 (.r rfl) (.r rfl) rfl (fun w hw=>hl.keep w hw) (fun _=>rfl) (fun _=>rfl) rfl rfl (fun _=>rfl) rfl (by omega) fun p2 c2 _=>aD rfl<|aO (LO.as (.r rfl))<|VO.n<|aP (VE.s rfl rfl (fun w hw=>?_))))
  first |exact⟨(none,0),trivial,by rw[h0];rfl,by rw[h0];exact hw.nil.fX 3 1⟩|exact⟨(p2,c2),trivial,rfl,hw.fO [0] rfl⟩
theorem ahH (l:List CP) (p:Option Addr) (c:Nat) (w:World) (hn:l.length<1000000000) (hl:l0 w p l):
 Calls ae 75 #[.slice p l.length c] w fun e w'=>∃x:(Option Addr×Nat)×List CP,x.2.map iJ=l.map iJ∧e= .returned (.slice x.1.1 x.2.length x.1.2)∧St (bs w) [own 218 7 x.1.1 x.1.2 (x.2.map nk),bS (x.2.flatMap cpR)] w':=by
 refine enter (vs:=[_]) (env:=[(0,_)]) Tryz.func75 rfl rfl rfl rfl ?_
 refine VC.q (VO.a rfl<|VO.n<|VC.q (VO.a rfl<|VO.n<|ak ?_))
 refine VC.q (VO.m rfl<|ah (bW MO (.r rfl) rfl) rfl<|VO.m rfl<|VO.n<|aG<|bY (α:=Nat×(List CP)×(Option Addr)×Nat) 0 (fun gx=>[(3,.slice gx.2.2.1 gx.2.1.length gx.2.2.2),(8,.int .i64 (gx.1:Nat))]) [(6,_),(7,_)] (fun gx=>[own 218 7 gx.2.2.1 gx.2.2.2 (gx.2.1.map nk),bS (gx.2.1.flatMap cpR)]) (fun gx=>gx.1≤l.length∧gx.2.1.map iJ=(l.map iJ).take gx.1) (fun gx=>l.length-gx.1) (0,[],none,0) (by exact⟨bG _,rfl⟩) (.c4 rfl rfl rfl rfl .nil) (fun _ h=>((fH (Rs:=[]) h).fX 218 7)) ?_)
 rintro ⟨j,xs,po_,co_⟩ ⟨hj,hX⟩
 show VC _ _ _ _ _ ([(3,.slice po_ xs.length co_),(8,.int .i64 (j:Nat))]++_) ([own 218 7 po_ co_ (xs.map nk),bS (xs.flatMap cpR)]++_) _ _
 dsimp only at hj hX
 have hxl:xs.length=j:=by rw[←aq (f:=iJ),hX];simp;omega
 refine VC.q (VO.t rfl<|VO.n<|ak<|ay rfl (fun h9=>?_) (fun h9=>?_))
 ·
  obtain⟨x,hx⟩:∃x,l[j]? =some x:=⟨_,af (by omega)⟩
  have hxo:=hl.ok x (al hx)
  refine aC (ag<|ak<|aG<|VC.q (ah (cw MO l9 hl.sl (.r rfl) (.r rfl) rfl (by omega)) rfl<|ah (aM (vs:=[_,_,_,_,_,_,_]) Dx (.r rfl) (hl.at hx) rfl) rfl<|aD rfl<|bI (C:=#[_,_,_,_,_,_,_]) sx rfl fun b3=>bU<|bl 0 (vs:=[_,_,_,_,_,_,_]) (C':=[_,_,_,_,_,_,_]) (L':=[_,_,_]) l9 rfl rfl rfl rfl rfl rfl rfl rfl<|VO.n<|ak ?_))
  refine cP [[0,1,2],[0,1,2],[0,1,2],[1,2],[1,2]] [some 0,some 0,none,some 1,some 1,none,some 2,none,some 3,none] mixed (by kernel_rfl) rfl (aA (fun _ hJ=>aE (r:=0) CU (.r rfl) rfl) rfl<|aA (fun _ hJ=>aB ij (.r rfl) (fun _ hw=>aX (hJ _ hw) 0 rfl ⟨_,rfl⟩)) rfl<|cn<|aA (fun _ hJ=>aE (r:=1) xG (.r rfl) rfl) rfl<|aA (fun _ hJ=>aB ij (.r rfl) (fun _ hw=>aX (hJ _ hw) 0 rfl ⟨_,rfl⟩)) rfl<|cn<|aA (fun _ hJ=>aE (r:=0) CU (.r rfl) rfl) rfl<|cn<|aA (fun _ hJ=>aE (r:=1) xG (.r rfl) rfl) rfl<|cn<|dw) (au<|au<|fQ rfl<|HO.fP (xs:=[_]) (vs:=[_]) C71 ⟨(.r rfl),trivial⟩ (fun w hw=>z8 x.c.sure x.ps x.cs w hxo.2.2.1 (hxo.1.keep w hw)) fun q1 _=>⟨fun _ hw=>hw.fO [1,2,3] rfl,au<|au<|fQ rfl<|HO.fP (xs:=[_]) (vs:=[_]) C71 ⟨(.r rfl),trivial⟩ (fun w hw=>z8 x.c.may x.pm x.cm w hxo.2.2.2 (hxo.2.1.keep w hw)) fun q2 _=>⟨fun _ hw=>hw.fO [2,3,4] rfl,au<|eW<|bl 2 (vs:=[_]) (C':=[_,_,_,_,_,_,_]) (L':=[_,_,_,_,_]) qo rfl rfl rfl rfl rfl rfl rfl rfl<|⟨fun _ hw=>hw.fO [3,4] rfl,au<|eW<|bl 2 (vs:=[_]) (C':=[_,_,_,_,_,_,_]) (L':=[_,_,_,_,_]) qo rfl rfl rfl rfl rfl rfl rfl rfl<|⟨fun _ hw=>hw.fO [3,4] rfl,dS ?_⟩⟩⟩⟩)
  refine ag<|aF (VO.m rfl<|ah (aM (vs:=[_,_,_,_,_,_,_]) Dx (.r rfl) (ax 2 rfl ⟨_,rfl⟩) rfl) rfl<|aD rfl<|fu (ps:=[(_,_)]) (vs:=[(_,_)]) (Z:=[_,_,_,_,_,_,_]) (C:=[_,_,_,_,_,_,_]) MO sx l9 ⟨(.r rfl),trivial⟩ rfl rfl rfl rfl ⟨_,[_,_,_,_,_,_,_],[_,_,_,_,_,_,_],rfl,rfl,rfl,rfl,rfl⟩ fun b13=>aD rfl<|dM ((CP.mk x.c q1.1 q1.2 q2.1 q2.2)) 4 0 (fun R=>[_,_,_,_,R,_]) MO MO aeu (.r rfl) (.r rfl) rfl rfl rfl rfl rfl rfl rfl (fun _=>rfl) rfl (by omega) fun p3 c3=>aD rfl<|aO (LO.as (.r rfl))<|aI<|bB (ag<|aF (VO.p rfl rfl (by omega) (by omega) rfl<|VO.m rfl<|aI<|bn fun a w ha hw=>⟨(j+1,xs++[CP.mk x.c q1.1 q1.2 q2.1 q2.2],p3,c3),⟨by dsimp only;omega,by dsimp only;rw[bj,hX,L3 hx];rfl⟩,(by dsimp only;omega),ha.sub (.c4 rfl rfl rfl rfl .nil),(by exact(St.ahB (x:=CP.mk x.c q1.1 q1.2 q2.1 q2.2) (bM (L1:=[_,_,_,_]) [2,1,5,4] rfl rfl _ hw)).fO [1,0] rfl)⟩)))
 ·
  refine ca (aL (aL (cD (ag<|VC.q (VO.m rfl<|VO.a rfl<|VO.n<|aP (VE.s rfl rfl (fun w hw=>?_)))))))
  exact⟨((po_,co_),xs),by rw[hX,dK (by rw[aq];omega)],rfl,hw.fO [0,1] rfl⟩
theorem anl:ed ae 226 [(0,9),(9,1),(10,1),(11,1),(12,1)] [.int .i64 0,.int .i64 0,.int .i64 0,.int .i64 0,.int .i64 0,.slice none 0 0,.int .i64 0,.int .i64 0,.int .i64 0,.slice none 0 0,.slice none 0 0,.slice none 0 0,.slice none 0 0]:=ju fun _=>by kernel_rfl
theorem xi:bV ae 226 0 0:=⟨_,_,mE,rfl,rfl,8,by kernel_rfl⟩
theorem N89:(ae.info? 89).map (·.size)=some 1:=by kernel_rfl
theorem ais:jW ae 193 2 40 (.agg #[.string ra,.slice none 0 0]):=⟨by kernel_rfl,by kernel_rfl,by unfold cj;kernel_rfl,rfl,by decide⟩
theorem ali:ed ae 232 [(0,2),(2,1),(3,1),(4,1),(5,1)] [.string ra,.slice none 0 0,.int .i64 0,.slice none 0 0,.slice none 0 0,.pointer none]:=ju fun _=>by kernel_rfl
theorem ala:cj ae 228 (.pointer none):=by unfold cj;kernel_rfl
theorem Zy:(ae.info? 228).map (·.size)=some 1:=by kernel_rfl
theorem alo:jW ae 228 1 8 (.pointer none):=⟨by kernel_rfl,by kernel_rfl,by unfold cj;kernel_rfl,rfl,by decide⟩
theorem aly:(ae.info? 222).map (·.size)=some 1:=by kernel_rfl
def Dr (x:RG):cq:=own 3 1 x.px x.cx (x.r.pix.map iC)
def jN.res (r:jN):cq:=bS [r.de,r.LH,r.Ps]
abbrev iG.rgR (o:iG):cq:=own 193 2 o.pg o.cg (o.rg.map RG.cells)
abbrev iG.pxB (o:iG):cq:=bS (o.rg.map Dr)
abbrev iG.LH (o:iG):cq:=own 228 1 o.pc o.cc (o.rc.map XV)
abbrev iG.rcB (o:iG):cq:=bS (o.rc.map jN.res)
abbrev iG.tsR (o:iG):cq:=own 3 1 o.pt o.ct (o.ts.map iC)
abbrev iG.lgR (o:iG):cq:=own 253 1 o.pl o.cl (o.lg.map pD.val)
abbrev iG.lgB (o:iG):cq:=bS (o.lg.flatMap pD.res)
abbrev kh (o:iG):List cq:=[o.de,o.rgR,o.pxB,o.LH,o.rcB,o.tsR,o.Lz,o.Uo,o.lgR,o.lgB]
def iG.sp (o:iG):Sp:=⟨o.g,o.rg.map mS,o.lead,o.step,o.hold⟩
def Gn (rs:List RG) (ds:List jN):Prop:=ds.length=rs.length∧∀(k:Nat) (r:jN),ds[k]? =some r→rs[k]? =some r.x∧r.i=k∧r.rc=[]∧r.lv=[]∧r.op=none
theorem RI {rs:List RG} {ds:List jN} (h:Gn rs ds) {x:RG} {r:jN} (h1:r.x=x) (h2:r.i=rs.length) (h3:r.rc=[]) (h4:r.lv=[]) (h5:r.op=none):Gn (rs++[x]) (ds++[r]):=by
 refine⟨by simp [h.1],fun k q hq=>?_⟩
 rcases aK k ds.length with hk|hk
 ·rw[aJ hk]at hq
  have:=h.2 k q hq
  rw[aJ (by rw[←h.1];exact hk)]
  exact this
 ·rw[aY hk]at hq
  have hk2:k=ds.length:=by
   rcases aK (k-ds.length) 1 with q|q
   ·omega
   ·rw[aH (by simpa using q)]at hq;cases hq
  subst hk2
  simp at hq
  subst hq
  rw[h.1,aY (bA _)]
  simp [h1,h2,h3,h4,h5]
theorem St.abw {β:Bs} {L:List cq} {xs:List RG} {x:RG} {w:World} (h:St β (own 3 1 x.px x.cx (x.r.pix.map iC)::bS (xs.map Dr)::L) w):St β (bS ((xs++[x]).map Dr)::L) w:=by
 rw[bj];exact St.nq h
theorem St.ahl {β:Bs} {L:List cq} {xs:List jN} {r:jN} {w:World} (hr:r.rc=[]) (hp:r.pr=none) (hc:r.cr=0) (hl:r.lv=[]) (hv:r.pv=none) (hc2:r.cv=0) (h:St β (r.de::bS (xs.map jN.res)::L) w):St β (bS ((xs++[r]).map jN.res)::L) w:=by
 rw[bj]
 have h1:St β (r.LH::r.Ps::r.de::bS (xs.map jN.res)::L) w:=by
  unfold jN.LH jN.Ps
  rw[hr,hp,hc,hl,hv,hc2]
  exact(h.fX 3 1).fX 373 2
 have h2:St β (bS [r.de,r.LH,r.Ps]::bS (xs.map jN.res)::L) w:=fH (Rs:=[r.de,r.LH,r.Ps]) (h1.perm (List.perm_middle (l₁:=[r.LH,r.Ps])))
 exact St.nq h2
def Us (g:cU) (l:List RG) (a b d:Int) (o:iG):Prop:=o.g=g∧o.lead=a∧o.step=b∧o.hold=d∧o.ts=[]∧o.cs=[]∧o.lg=[]∧True=True∧o.rg.map mS=l.map mS∧Gn o.rg o.rc
theorem aiU (g:cU) (l:List RG) (pl:Option Addr) (cl:Nat) (a b d:Int) (w:World) (hll:l.length<1000000000000) (hl:Aq w pl l) (hs:j0 ⟨g,l.map mS,a,b,d⟩=0):
 Calls ae 21 #[Dw g pl l.length cl a b d] w fun e w'=>∃o:iG,Us g l a b d o∧e= .returned (.tuple #[jR o.b,.int .i64 0])∧St (bs w) (kh o) w':=by
 have hok:=Ad hs
 obtain⟨hgo,hN1,hN2,hpx,hru⟩:=hok
 dsimp only at hN1
 rw[aq]at hN1
 refine enter (vs:=[_]) (env:=[(0,_)]) Tryz.func21 rfl rfl rfl rfl ?_
 refine VC.q (aD rfl<|cf (C:=#[_,_,_,_,_,_,_,_,_]) rfl rfl fun b1=>VO.a rfl<|VO.a rfl<|VO.n<|ak<|VC.q (ah (aM (vs:=[_,_,_,_,_,_,_,_,_]) Xe (.r rfl) (ax 0 rfl ⟨_,rfl⟩) rfl) rfl<|ah (bD (xs:=[_]) (vs:=[_]) C70 ⟨(.r rfl),trivial⟩ (fun w hw=>Pz g l pl cl a b d w hll (hl.keep hw))) rfl<|VO.a rfl<|VO.n ?_))
 refine VC.q (VO.m rfl<|VO.u rfl<|VO.n<|ay rfl (fun h11=>?_) (fun h11=>?_))
 · (exfalso;exact h11 hs)
 ·
  refine aC (ag<|VC.q (ah (aM (vs:=[_,_,_,_,_,_,_,_,_]) Xe (.r rfl) (ax 0 rfl ⟨_,rfl⟩) rfl) rfl<|ah (LO.bd (ps:=[(_,_)]) (vs:=[(_,_)]) (C:=[_,_,_,_,_,_,_,_,_,_,_,_,_]) anl ⟨(.r rfl),trivial⟩ rfl ⟨_,[_,_,_,_,_,_,_,_,_],[_,_,_,_,_,_,_,_,_,_,_,_,_],rfl,rfl,rfl,rfl,rfl⟩) rfl<|aD rfl<|cf (C:=#[_,_,_,_,_,_,_,_,_,_,_,_,_]) rfl rfl fun b2=>aD rfl<|aO (LO.as (.r rfl))<|VO.n<|VC.q (VO.m rfl<|ah (bH (.r rfl)) rfl<|VO.f (r:=0) xi rfl<|VO.f (r:=5) sL rfl<|bU<|bl 0 (vs:=[_]) (C':=[_,_,_,_,_,_,_,_,_,_,_,_,_]) (L':=[_,_]) N89 rfl rfl rfl rfl rfl rfl rfl rfl<|VO.n ?_)))
  refine ak<|VC.q (VO.f (r:=5) sL rfl<|VO.c 1 Xa rfl rfl ⟨_,rfl⟩ rfl<|ah (bW LI (.r rfl) rfl) rfl<|VO.m rfl<|VO.n<|aG<|bY (α:=Nat×(List RG)×(Option Addr)×Nat×(List jN)×(Option Addr)×Nat) 1 (fun gx=>[(23,.int .i64 (gx.1:Nat))]) [(5,_),(21,_),(22,_)] (fun gx=>[de b2 (.cells #[.int .i64 g.x,.int .i64 g.y,.int .i64 g.size,.int .i64 g.wide,.int .i64 g.high,.slice gx.2.2.1 gx.2.1.length gx.2.2.2.1,.int .i64 a,.int .i64 b,.int .i64 d,.slice gx.2.2.2.2.2.1 gx.2.2.2.2.1.length gx.2.2.2.2.2.2,.slice none 0 0,.slice none 0 0,.slice none 0 0] 226),own 193 2 gx.2.2.1 gx.2.2.2.1 (gx.2.1.map RG.cells),bS (gx.2.1.map Dr),own 228 1 gx.2.2.2.2.2.1 gx.2.2.2.2.2.2 (gx.2.2.2.2.1.map XV),bS (gx.2.2.2.2.1.map jN.res)]) (fun gx=>gx.1≤l.length∧gx.2.1.map mS=(l.map mS).take gx.1∧Gn gx.2.1 gx.2.2.2.2.1) (fun gx=>l.length-gx.1) (0,[],none,0,[],none,0) (by exact⟨bG _,rfl,rfl,fun k r hr=>by simp at hr⟩) (.c4 rfl rfl rfl rfl .nil) (fun _ h=>(((fH (Rs:=[]) ((fH (Rs:=[]) h).fX 228 1)).fX 193 2)).fO [4,0,1,2,3,5] rfl) ?_)
  rintro ⟨i,rgs,pg_,cg_,SW,pc_,cc_⟩ ⟨hi,hX,hF⟩
  show VC _ _ _ _ _ ([(23,.int .i64 (i:Nat))]++_) ([de b2 (.cells #[.int .i64 g.x,.int .i64 g.y,.int .i64 g.size,.int .i64 g.wide,.int .i64 g.high,.slice pg_ rgs.length cg_,.int .i64 a,.int .i64 b,.int .i64 d,.slice pc_ SW.length cc_,.slice none 0 0,.slice none 0 0,.slice none 0 0] 226),own 193 2 pg_ cg_ (rgs.map RG.cells),bS (rgs.map Dr),own 228 1 pc_ cc_ (SW.map XV),bS (SW.map jN.res)]++_) _ _
  dsimp only at hi hX hF
  have hgl:rgs.length=i:=by rw[←aq (f:=mS),hX];simp;omega
  have hrl:SW.length=i:=by rw[hF.1,hgl]
  refine VC.q (VO.t rfl<|VO.n<|ak<|ay rfl (fun h24=>?_) (fun h24=>?_))
  ·
   obtain⟨x,hx⟩:∃x,l[i]? =some x:=⟨_,af (by omega)⟩
   have hxo:=hl.ok x (al hx)
   refine aC (ag<|ak<|aG<|VC.q (VO.m rfl<|ah (cw LI Jl hl.sm (.r rfl) (.r rfl) rfl (by omega)) rfl<|ah (aM (vs:=[_,_]) GL (.r rfl) (hl.at hx) rfl) rfl<|aD rfl<|bI (C:=#[_,_]) UT rfl fun b9=>VO.a rfl<|bU<|bl 0 (vs:=[_,_]) (C':=[_,_]) (L':=[_,_,_,_,_,_,_]) Jl rfl rfl rfl rfl rfl rfl rfl rfl<|VO.n<|ak ?_))
   refine aF (VO.f (r:=1) su rfl<|VO.c 0 ij rfl rfl ⟨_,rfl⟩ rfl<|aD rfl<|HO.fP (xs:=[_]) (vs:=[_]) C71 ⟨(.r rfl),trivial⟩ (fun w hw=>z8 x.r.pix x.px x.cx w hxo.2 (hxo.1.keep w hw)) fun q _=>VO.f (r:=1) su rfl<|bU<|bl 1 (vs:=[_]) (C':=[_,_]) (L':=[_,_,_,_,_,_,_,_]) qo rfl rfl rfl rfl rfl rfl rfl rfl<|VO.n<|ak<|cP [[0,1,2,3,4,5,6,7],[0,1,2,3,4,5,6,7],[0,1,2,4,5,6,7],[0,1,4,5,6,7]] [some 2,some 1,some 1,some 1,some 1,some 1,some 0,none,none,some 2,some 2,some 2,none] mixed (by kernel_rfl) rfl (LX.m rfl<|LX.m rfl<|aA (fun _ hJ=>bH (.r rfl)) rfl<|aA (fun _ hJ=>aE (r:=0) xi (.r rfl) rfl) rfl<|aA (fun _ hJ=>aE (r:=5) sL (.r rfl) rfl) rfl<|aA (fun _ hJ=>aB Xa (.r rfl) (fun _ hw=>aX (hJ _ hw) 2 rfl ⟨_,rfl⟩)) rfl<|aA (fun _ hJ=>aM (vs:=[_,_]) GL (.r rfl) (fun _ hw=>aX (hJ _ hw) 1 rfl ⟨_,rfl⟩) rfl) rfl<|cn<|cn<|aA (fun _ hJ=>bH (.r rfl)) rfl<|aA (fun _ hJ=>aE (r:=0) xi (.r rfl) rfl) rfl<|aA (fun _ hJ=>aE (r:=5) sL (.r rfl) rfl) rfl<|cn<|dw) (au<|au<|au<|au<|au<|au<|au<|fQ rfl<|fu (ps:=[(_,_)]) (vs:=[(_,_)]) (Z:=[_,_]) (C:=[_,_]) LI UT Jl ⟨(.r rfl),trivial⟩ rfl rfl rfl rfl ⟨_,[_,_],[_,_],rfl,rfl,rfl,rfl,rfl⟩ fun b15=>⟨gM (L1:=[_,_,_,_,_,_,_,_]) [1,2,3,4,5,6,7,8] rfl rfl rfl,fQ rfl<|dM ((vN x.r q.1 q.2)) 4 0 (fun R=>[_,_,_,_,R,_,_,_,_]) LI LI ais (.r rfl) (.r rfl) rfl rfl rfl rfl rfl rfl rfl (fun _=>rfl) rfl (by omega) fun p8 c8=>⟨gM (L1:=[_,_,_,_,_,_,_]) [1,2,3,5,6,7,8] rfl rfl rfl,au<|au<|au<|eW<|bl 3 (vs:=[_]) (C':=[_,_,_,_,_,_,_,_,_,_,_,_,_]) (L':=[_,_,_,_,_,_,_,_,_]) N89 rfl rfl rfl rfl rfl rfl rfl rfl<|⟨gM (L1:=[_,_,_,_,_,_]) [1,2,5,6,7,8] rfl rfl rfl,dS ?_⟩⟩⟩))
   refine ag<|cP [[0,1,2,3,4,5,6,7,8],[0,1,2,3,4,5,6,7,8],[0,1,2,3,4,5,6,7,8],[0,1,2,3,4,5,7,8],[0,1,2,4,5,7,8]] [some 3,some 2,some 2,some 2,some 2,some 0,some 0,some 0,none,none,none,some 3,some 3,none] mixed (by kernel_rfl) rfl (LX.m rfl<|LX.m rfl<|aA (fun _ hJ=>bH (.r rfl)) rfl<|aA (fun _ hJ=>aE (r:=9) Ax (.r rfl) rfl) rfl<|aA (fun _ hJ=>aB Th (.r rfl) (fun _ hw=>aX (hJ _ hw) 3 rfl ⟨_,rfl⟩)) rfl<|aA (fun _ hJ=>aM (vs:=[_,_]) GL (.r rfl) (fun _ hw=>aX (hJ _ hw) 2 rfl ⟨_,rfl⟩) rfl) rfl<|LX.m rfl<|aA (fun _ hJ=>LO.bd (ps:=[(_,_),(_,_)]) (vs:=[(_,_),(_,_)]) (C:=[_,_,_,_,_,_]) ali ⟨(.r rfl),(.r rfl),trivial⟩ rfl ⟨_,[_,_],[_,_,_,_,_,_],rfl,rfl,rfl,rfl,⟨_,[_],[_,_,_,_,_,_],rfl,rfl,rfl,rfl,rfl⟩⟩) rfl<|cn<|cn<|cn<|aA (fun _ hJ=>bH (.r rfl)) rfl<|aA (fun _ hJ=>aE (r:=9) Ax (.r rfl) rfl) rfl<|cn<|dw) (au<|au<|au<|au<|au<|au<|au<|au<|fQ rfl<|cf (C:=#[_,_,_,_,_,_]) rfl rfl fun b20=>⟨gM (L1:=[_,_,_,_,_,_,_,_,_]) [1,2,3,4,5,6,7,8,9] rfl rfl rfl,fQ rfl<|fu (ps:=[(_,_)]) (vs:=[(_,_)]) (Z:=[_]) (C:=[_]) EI ala Zy ⟨(.r rfl),trivial⟩ rfl rfl rfl rfl ⟨_,[_],[_],rfl,rfl,rfl,rfl,rfl⟩ fun b21=>⟨gM (L1:=[_,_,_,_,_,_,_,_,_]) [2,3,4,5,6,7,8,9,10] rfl rfl rfl,fQ rfl<|dM ((jN.mk (vN x.r q.1 q.2) b20 i [] none 0 [] none 0 none)) 8 0 (fun R=>[_,_,_,_,_,_,_,_,R,_,_]) EI EI alo (.r rfl) (.r rfl) rfl rfl rfl rfl rfl rfl rfl (fun _=>rfl) rfl (by omega) fun p10 c10=>⟨gM (L1:=[_,_,_,_,_,_,_,_]) [2,3,4,5,6,7,9,10] rfl rfl rfl,au<|au<|eW<|bl 5 (vs:=[_]) (C':=[_,_,_,_,_,_,_,_,_,_,_,_,_]) (L':=[_,_,_,_,_,_,_,_,_,_,_]) aly rfl rfl rfl rfl rfl rfl rfl rfl<|⟨gM (L1:=[_,_,_,_,_,_,_]) [2,3,4,6,7,9,10] rfl rfl rfl,dS ?_⟩⟩⟩⟩)
   refine bB (ag<|aF (VO.p rfl rfl (by omega) (by omega) rfl<|VO.m rfl<|aI<|bn fun a w ha hw=>⟨(i+1,rgs++[vN x.r q.1 q.2],p8,c8,SW++[(jN.mk (vN x.r q.1 q.2) b20 i [] none 0 [] none 0 none)],p10,c10),⟨by dsimp only;omega,by dsimp only;rw[bj,hX,cQ,aw,hx];rfl,RI hF rfl (by dsimp only;omega) rfl rfl rfl⟩,(by dsimp only;omega),ha.sub (.c4 rfl rfl rfl rfl .nil),(by exact(St.abw (x:=vN x.r q.1 q.2) ((St.ahl (r:=(jN.mk (vN x.r q.1 q.2) b20 i [] none 0 [] none 0 none)) rfl rfl rfl rfl rfl rfl (bM (L1:=[_,_,_,_,_,_,_,_]) [1,9,3,7,5,6,8,10] rfl rfl _ hw)).fO [1,2,0,3,4,5,6] rfl)).fO [2,3,0,4,1,5] rfl)⟩))
  ·
   refine ca (aL (aL (cD (ag<|VC.q (VO.m rfl<|VO.a rfl<|VO.a rfl<|VO.n<|aP (VE.res (vs:=[_,_]) rfl ⟨rfl,rfl,trivial⟩ (fun w hw=>?_)))))))
   exact⟨(iG.mk b2 g rgs pg_ cg_ a b d SW pc_ cc_ [] none 0 [] none 0 [] none 0),⟨rfl,rfl,rfl,rfl,rfl,rfl,rfl,rfl,by dsimp only;rw[hX,show i=l.length by omega,dK (by simp)],hF⟩,rfl,(fH (Rs:=[]) ((((bM (L1:=[_,_,_,_,_]) [0,1,2,3,4] rfl rfl _ hw).fX 3 1).fX 230 1 |> fH (Rs:=[])).fX 253 1)).fO [5,6,7,8,9,4,3,2,1,0] rfl⟩
theorem C72:ef ae 72:=⟨_,Tryz.func72,by decide,rfl⟩
theorem Am:bV ae 226 2 10:=⟨_,_,mE,rfl,rfl,0,by kernel_rfl⟩
theorem w7:bV ae 226 4 12:=⟨_,_,mE,rfl,rfl,0,by kernel_rfl⟩
theorem Uq:ig ae 224:=⟨⟨_,zz,rfl⟩,by kernel_rfl⟩
theorem Cz:dF ae 224 253:=zz
theorem C75:ef ae 75:=⟨_,Tryz.func75,by decide,rfl⟩
theorem amm:ed ae 237 [(0,1),(1,1)] [.int .i64 0,.slice none 0 0]:=ju fun _=>by kernel_rfl
theorem ag8:cj ae 253 (.nilIface):=by unfold cj;kernel_rfl
theorem YZ:(ae.info? 253).map (·.size)=some 1:=by kernel_rfl
theorem agP:jW ae 253 1 16 (.nilIface):=⟨by kernel_rfl,by kernel_rfl,by unfold cj;kernel_rfl,rfl,by decide⟩
theorem ag1:(ae.info? 224).map (·.size)=some 1:=by kernel_rfl
theorem al3:cj ae 103 (.slice none 0 0):=by unfold cj;kernel_rfl
theorem ad9:ig ae 228:=⟨⟨_,Tryz.underlying228,rfl⟩,by kernel_rfl⟩
theorem Ty:bV ae 232 0 0:=⟨_,_,mD,rfl,rfl,1,by kernel_rfl⟩
theorem C77:ef ae 77:=⟨_,Tryz.func77,by decide,rfl⟩
inductive Ir (sts:List (List Int)) (b H T:Int) (cs0:List iW):List jN→List jN→List iW→List Ev→Prop
 |nil:Ir sts b H T cs0 [] [] cs0 []
 |snoc {rs ds:List jN} {cs:List iW} {es:List Ev} {r:jN} {y:FG}:Ir sts b H T cs0 rs ds cs es→IE r T H (C2 sts r.x.r.pix b) cs es y→Ir sts b H T cs0 (rs++[r]) (ds++[y.r]) y.cs y.es
def tH (cs cs':List iW):Prop:=∀(k:Nat) (c:iW),cs[k]? =some c→∃c',cs'[k]? =some c'∧c'.b=c.b
theorem Be (cs:List iW):tH cs cs:=fun k c h=>⟨c,h,rfl⟩
theorem GB {a b c:List iW} (h:tH a b) (k:tH b c):tH a c:=fun i x hx=>by
 obtain⟨y,hy,e⟩:=h i x hx
 obtain⟨z,hz,e2⟩:=k i y hy
 exact⟨z,hz,e2.trans e⟩
theorem RP {cs cs':List iW} {op op':Option Nat} {x x':Ev} (h:Vm cs op x cs' op' x'):tH cs cs'∧cs'.length≤cs.length+1:=by
 rcases h with⟨_,b,_,rfl,_⟩|⟨_,k,c,hc,_,_,rfl,_⟩
 ·refine⟨fun i y hy=>⟨y,?_,rfl⟩,by simp⟩
  rw[aJ (aj.1 hy).1];exact hy
 ·refine⟨fun i y hy=>?_,by simp⟩
  rw[fe]
  split
  ·rename_i q
   subst q
   rw[hc]at hy;cases hy
   exact⟨_,if_pos (aj.1 hc).1,rfl⟩
  ·exact⟨y,hy,rfl⟩
theorem zY {r:jN} {T H:Int} {t:xZ} {cs:List iW} {es:List Ev} {y:FG} (h:IE r T H t cs es y):tH cs y.cs∧y.cs.length≤cs.length+1∧y.es.length≤es.length+1∧y.r.b=r.b:=by
 obtain⟨_,hb,_,_,_,q|q⟩:=h
 ·obtain⟨_,_,hc,he⟩:=q
  rw[hc,he]
  exact⟨Be _,by omega,by omega,hb⟩
 ·obtain⟨_,x',hh,he⟩:=q
  have:=RP hh
  exact⟨this.1,this.2,by rw[he];simp,hb⟩
theorem sE {sts:List (List Int)} {b H T:Int} {cs0:List iW} {rs ds:List jN} {cs:List iW} {es:List Ev} (h:Ir sts b H T cs0 rs ds cs es):tH cs0 cs∧cs.length≤cs0.length+rs.length∧es.length≤rs.length∧ds.map XV=rs.map XV∧ds.length=rs.length:=by
 induction h with
 |nil=>exact⟨Be _,by simp,by simp,rfl,rfl⟩
 |snoc h1 h2 ih=>
  have:=zY h2
  refine⟨GB ih.1 this.1,by simp;omega,by simp;omega,?_,by simp [ih.2.2.2.2]⟩
  rw[bj,bj,ih.2.2.2.1]
  simp [XV,this.2.2.2]
theorem St.ae1 {β:Bs} {L:List cq} {ds rs:List jN} {j:Nat} {r:jN} {w:World} (hr:rs[j]? =some r) (h:St β (bS (ds.map jN.res++(rs.drop j).map jN.res)::L) w):St β (r.de::r.LH::r.Ps::bS (ds.map jN.res++(rs.drop (j+1)).map jN.res)::L) w:=by
 obtain⟨hj,rfl⟩:=aj.1 hr
 rw[cY hj,fD]at h
 have h1:=h.focus
 exact St.uQ (Rs:=[(rs[j]).de,(rs[j]).LH,(rs[j]).Ps]) h1
theorem St.ait {β:Bs} {L:List cq} {ds rs:List jN} {j:Nat} (d:jN) {w:World} (h:St β (d.de::d.LH::d.Ps::bS (ds.map jN.res++(rs.drop (j+1)).map jN.res)::L) w):St β (bS ((ds++[d]).map jN.res++(rs.drop (j+1)).map jN.res)::L) w:=by
 have h1:St β (d.res::bS (ds.map jN.res++(rs.drop (j+1)).map jN.res)::L) w:=fH (Rs:=[d.de,d.LH,d.Ps]) h
 rw[bj,dp]
 exact h1.vR
theorem Cr {w:World} {rs:List RG} {x:RG} (h:(bS (rs.map Dr)).inv w) (hx:x∈rs):Ints w x.px x.r.pix:=eI (h.1 _ (bE hx))
structure wW where
 ds:List jN
 cs:List iW
 pk:Option Addr
 ck:Nat
 es:List Ev
 pe:Option Addr
 ce:Nat
 pt:Option Addr
 ct:Nat
 lg:pD
 pl:Option Addr
 cl:Nat
abbrev wW.o (y:wW) (o:iG) (T:Int):iG:={ o with rc:=y.ds,ts:=o.ts++[T],pt:=y.pt,ct:=y.ct,cs:=y.cs,pk:=y.pk,ck:=y.ck,lg:=o.lg++[y.lg],pl:=y.pl,cl:=y.cl }
def CD (o:iG) (T:Int) (l:List cZ) (y:wW):Prop:=Ir (nE o.g l o.lead o.step) o.step o.hold T o.cs o.rc y.ds y.cs y.es∧∃p c m,y.lg= .st T p c m∧m.map iJ=l
theorem adH (o:iG) (T:Int) (m:List CP) (pm:Option Addr) (cm:Nat) (w:World) (hh:Has w (kh o)) (hcl:∀{L:List cq} {v:World},St ⟨w,lu (kh o)⟩ L v→l0 v pm m) (hcn:m.length<1000000000) (hok:j0 o.sp=0) (hlen:o.rc.length=o.rg.length) (hreg:∀r,r∈o.rc→r.x∈o.rg) (hpxb:∀x,x∈o.rg→x.r.pix.length<1000000000000) (hrcb:∀r,r∈o.rc→r.rc.length<1000000) (hlvb:∀r,r∈o.rc→r.lv.length<1000000) (hop:∀r,r∈o.rc→ko r.lv≠0→∃(k:Nat) (c:iW),o.cs[k]? =some c∧r.op=some c.b) (hcsb:o.cs.length<900000) (htsb:o.ts.length<1000000) (hT1:0≤T) (hT3:T≤4294967296) (hlate:o.ts=[]∨ko o.ts<T) (hful:o.lg.length<256) (hlk:qE o.g (m.map iJ)=0):
 Calls ae 23 #[jR o.b,.int .i64 T,.slice pm m.length cm] w fun e w'=>∃y:wW,CD o T (m.map iJ) y∧e= .returned (.tuple #[.slice y.pe y.es.length y.ce,.int .i64 0])∧St ⟨w,lu (kh o)⟩ (own 239 7 y.pe y.ce (y.es.map zP)::kh (y.o o T)) w':=by
 have hok2:=Ad hok
 obtain⟨hgo,hN1,hN2,hpx,⟨hr1,hr2⟩,⟨hr3,hr4⟩,hr5,hr6⟩:=hok2
 simp only[iG.sp]at hgo hN1 hN2 hpx hr1 hr2 hr3 hr4 hr5 hr6
 rw[aq]at hN1 hN2
 have hpx2:∀x,x∈o.rg→ot o.g x.r.pix=0:=fun x hx=>by obtain⟨k,hk⟩:=cV.1 hx;have:=hpx k (by rw[aq];exact(aj.1 hk).1);rwa [M1 hk]at this
 have hT2:T≤1000000000000:=by omega
 have hltl:¬(0<o.ts.length∧T≤o.ts.getD (o.ts.length-1) 0):=by rintro ⟨h1,h2⟩;rcases hlate with e|e;(· rw[e]at h1;simp at h1);(· unfold ko at e;omega)
 refine mG (vs:=[_,_,_]) (env:=[(0,_),(1,_),(2,_)]) hh.enter Tryz.func23 rfl rfl rfl rfl ?_
 refine VC.q (aD rfl<|cf (C:=#[_]) rfl rfl fun b11=>VO.a rfl<|VO.a rfl<|VO.n<|ak<|aG<|VC.q (VO.c 0 LC rfl rfl ⟨_,rfl⟩ rfl<|ah (bD (xs:=[_]) (vs:=[_]) C72 ⟨(.r rfl),trivial⟩ (fun w hw=>sH o w (by omega) (aX hw 1 rfl ⟨_,rfl⟩))) rfl<|VO.a rfl<|aI ?_))
 refine ag<|ay rfl (fun h15=>?_) (fun h15=>?_)
 · (exfalso;omega)
 ·
  refine VC.q (VO.m rfl<|ah (bD (xs:=[_,_,_]) (vs:=[_,_,_]) C73 ⟨(.r rfl),(.r rfl),(.r rfl),trivial⟩ (fun w _=>og _ _ _ w)) rfl<|ah (LO.not (.r rfl)) rfl<|VO.a rfl<|VO.n<|ay rfl (fun h18=>?_) (fun h18=>?_))
  · (exfalso;omega)
  ·
   refine ak<|VC.draw mixed (LL.l (aB LC (.r rfl) (ax 0 rfl ⟨_,rfl⟩)) rfl<|LL.l (bH (.r rfl)) rfl<|LL.l (aE (r:=10) Am (.r rfl) rfl) rfl<|LL.l (aB ij (.r rfl) (ax 1 rfl ⟨_,rfl⟩)) rfl<|LL.l (bW ei (.r rfl) rfl) rfl<|LL.l (LO.gt (.r rfl) (.r rfl)) rfl<|LL.m rfl<|LL.gt rfl (fun hg=>LO.mv (.r rfl))<|LL.gt rfl (fun hg=>aB LC (.r rfl) (ax 0 rfl ⟨_,rfl⟩))<|LL.gt rfl (fun hg=>bH (.g hg rfl))<|LL.gt rfl (fun hg=>aE (r:=10) Am (.g hg rfl) rfl)<|LL.gt rfl (fun hg=>aB ij (.g hg rfl) (ax 1 rfl ⟨_,rfl⟩))<|LL.gt rfl (fun hg=>aB LC (.r rfl) (ax 0 rfl ⟨_,rfl⟩))<|LL.gt rfl (fun hg=>bH (.g hg rfl))<|LL.gt rfl (fun hg=>aE (r:=10) Am (.g hg rfl) rfl)<|LL.gt rfl (fun hg=>aB ij (.g hg rfl) (ax 1 rfl ⟨_,rfl⟩))<|LL.gt rfl (fun hg=>bW ei (.g hg rfl) rfl)<|LL.gt rfl (fun hg=>LO.sub (.g hg rfl) (.r rfl) (wi (by omega) (by omega)))<|LL.gt rfl (fun hg=>LO.wy ei N3 (fun _ hw=>(dE hw 6 rfl).some (by rw[aq])) (.g hg rfl) (.g hg rfl) (by have:=of_decide_eq_true hg;omega) (by have:=of_decide_eq_true hg;omega))<|LL.gt rfl (fun hg=>aB O3 (.g hg rfl) (fun w hw=>bq (off:=0) (gN hw 6 rfl (getD_some (d:=(0:Int)) (j:=o.ts.length-1) (by have:=of_decide_eq_true hg;omega))) ⟨_,rfl⟩))<|LL.gt rfl (fun hg=>LO.le (.g hg rfl) (.g hg rfl))<|LL.l (LO.pE (.r rfl) rfl rfl (.r rfl)) rfl<|LL.l (LO.as (.r rfl)) rfl<|LL.nil) (by kernel_rfl)<|ag<|ay rfl (fun h22=>?_) (fun h22=>?_)
   · (exfalso;exact hltl (by omega))
   ·
    refine VC.q (VO.c 0 LC rfl rfl ⟨_,rfl⟩ rfl<|ah (bH (.r rfl)) rfl<|VO.f (r:=12) w7 rfl<|VO.c 1 Uq rfl rfl ⟨_,rfl⟩ rfl<|ah (bW Cz (.r rfl) rfl) rfl<|ah (LO.ge (.r rfl) (.r rfl)) rfl<|VO.a rfl<|VO.n<|ay rfl (fun h45=>?_) (fun h45=>?_))
    · (exfalso;omega)
    ·
     refine aC (bB (ag<|VC.q (VO.c 0 LC rfl rfl ⟨_,rfl⟩ rfl<|ah (bH (.r rfl)) rfl<|VO.f (r:=0) xi rfl<|ah (aM (vs:=[_,_,_,_,_,_,_,_,_]) Xe (.r rfl) (ax 1 rfl ⟨_,rfl⟩) rfl) rfl<|VO.m rfl<|aD rfl<|HO.fP (xs:=[_,_]) (vs:=[_,_]) C74 ⟨(.r rfl),(.r rfl),trivial⟩ (fun w hw=>TB o.g o.pg o.rg.length o.cg o.lead o.step o.hold m pm cm w hr1 hr2 hr3 hr4 (by omega) (hcl hw)) fun q hq=>aD rfl<|aO (LO.mv (.r rfl))<|aD rfl<|aO (LO.ex (.r rfl) rfl)<|aD rfl<|aO (LO.ex (.r rfl) rfl)<|aD rfl<|aO (LO.as (.r rfl))<|aD rfl<|aO (LO.as (.r rfl))<|VO.n<|ak<|VC.q (VO.m rfl<|VO.u rfl<|aI ?_))))
     refine ag<|ay rfl (fun h62=>?_) (fun h62=>?_)
     · (exfalso;exact h62 hlk)
     ·
      refine aC (ag<|ak ?_)
      have hql0:q.2.length≤241:=by rw[←yY,hq];unfold nE;rw[if_neg (by omega),vZ];exact(yX hr1 hr2 hr3 hr4 (bA _)).2.2
      refine cP [[0,1,2,3,4,5,6,7,8,9,10,11,12],[0,1,2,3,4,5,6,7,8,9,10,11,12],[0,1,2,3,4,5,6,7,9,10,11,12],[0,1,2,4,5,6,7,9,10,11,12]] [some 2,some 1,some 1,some 1,some 1,some 0,none,none,some 2,some 2,none] mixed (by kernel_rfl) rfl (aA (fun _ hJ=>aB LC (.r rfl) (fun _ hw=>aX (hJ _ hw) 2 rfl ⟨_,rfl⟩)) rfl<|aA (fun _ hJ=>aB LC (.r rfl) (fun _ hw=>aX (hJ _ hw) 2 rfl ⟨_,rfl⟩)) rfl<|aA (fun _ hJ=>bH (.r rfl)) rfl<|aA (fun _ hJ=>aE (r:=10) Am (.r rfl) rfl) rfl<|aA (fun _ hJ=>aB ij (.r rfl) (fun _ hw=>aX (hJ _ hw) 3 rfl ⟨_,rfl⟩)) rfl<|LX.m rfl<|cn<|cn<|aA (fun _ hJ=>bH (.r rfl)) rfl<|aA (fun _ hJ=>aE (r:=10) Am (.r rfl) rfl) rfl<|cn<|dw) (au<|au<|au<|au<|au<|au<|fQ rfl<|fu (ps:=[(_,_)]) (vs:=[(_,_)]) (Z:=[_]) (C:=[_]) ei Z3 N3 ⟨(.r rfl),trivial⟩ rfl rfl rfl rfl ⟨_,[_],[_],rfl,rfl,rfl,rfl,rfl⟩ fun b16=>⟨gM (L1:=[_,_,_,_,_,_,_,_,_,_,_,_,_]) [1,2,3,4,5,6,7,8,9,10,11,12,13] rfl rfl rfl,fQ rfl<|dM (T) 9 0 (fun R=>[_,_,_,_,_,_,_,_,_,R,_,_,_,_]) ei ei I3 (.r rfl) (.r rfl) rfl rfl rfl rfl rfl rfl rfl (fun _=>rfl) rfl (by omega) fun p7 c7=>⟨gM (L1:=[_,_,_,_,_,_,_,_,_,_,_,_]) [1,2,3,4,5,6,7,8,10,11,12,13] rfl rfl rfl,au<|au<|eW<|bl 4 (vs:=[_]) (C':=[_,_,_,_,_,_,_,_,_,_,_,_,_]) (L':=[_,_,_,_,_,_,_,_,_,_,_,_,_,_]) qo rfl rfl rfl rfl rfl rfl rfl rfl<|⟨gM (L1:=[_,_,_,_,_,_,_,_,_,_,_]) [1,2,3,5,6,7,8,10,11,12,13] rfl rfl rfl,dS ?_⟩⟩⟩)
      refine ag<|ak<|cP [[0,1,2,3,4,5,6,7,8,9,10,11,12,13],[0,1,2,3,4,5,6,7,8,9,10,11,12,13],[0,1,2,3,4,5,6,7,8,9,10,11,12,13],[0,1,2,3,4,5,6,7,8,9,10,11,12,13],[0,1,2,3,4,5,6,7,8,9,10,11,12,13],[0,1,2,3,4,5,6,7,8,9,10,11,13],[0,1,2,3,5,6,7,8,9,10,11,13]] [some 5,some 4,some 4,some 4,some 4,some 1,some 0,none,none,none,none,none,some 5,some 5,none] mixed (by kernel_rfl) rfl (aA (fun _ hJ=>aB LC (.r rfl) (fun _ hw=>aX (hJ _ hw) 3 rfl ⟨_,rfl⟩)) rfl<|aA (fun _ hJ=>aB LC (.r rfl) (fun _ hw=>aX (hJ _ hw) 3 rfl ⟨_,rfl⟩)) rfl<|aA (fun _ hJ=>bH (.r rfl)) rfl<|aA (fun _ hJ=>aE (r:=12) w7 (.r rfl) rfl) rfl<|aA (fun _ hJ=>aB Uq (.r rfl) (fun _ hw=>aX (hJ _ hw) 4 rfl ⟨_,rfl⟩)) rfl<|LX.m rfl<|LX.m rfl<|cn<|cn<|cn<|cn<|cn<|aA (fun _ hJ=>bH (.r rfl)) rfl<|aA (fun _ hJ=>aE (r:=12) w7 (.r rfl) rfl) rfl<|cn<|dw) (au<|au<|au<|au<|au<|au<|au<|fQ rfl<|HO.fP (xs:=[_]) (vs:=[_]) C75 ⟨(.r rfl),trivial⟩ (fun w hw=>ahH m pm cm w hcn (hcl hw)) fun ql hql=>⟨gM (L1:=[_,_,_,_,_,_,_,_,_,_,_,_,_,_]) [2,3,4,5,6,7,8,9,10,11,12,13,14,15] rfl rfl rfl,fQ rfl<|aO (LO.bd (ps:=[(_,_),(_,_)]) (vs:=[(_,_),(_,_)]) (C:=[_,_]) amm ⟨(.r rfl),(.r rfl),trivial⟩ rfl ⟨_,[_],[_,_],rfl,rfl,rfl,rfl,⟨_,[_],[_,_],rfl,rfl,rfl,rfl,rfl⟩⟩)<|⟨gM (L1:=[_,_,_,_,_,_,_,_,_,_,_,_,_,_]) [2,3,4,5,6,7,8,9,10,11,12,13,14,15] rfl rfl rfl,fQ rfl<|aO (LO.mi ⟨_,Tryz.underlying237,rfl⟩ (.r rfl))<|⟨gM (L1:=[_,_,_,_,_,_,_,_,_,_,_,_,_,_]) [2,3,4,5,6,7,8,9,10,11,12,13,14,15] rfl rfl rfl,fQ rfl<|fu (ps:=[(_,_)]) (vs:=[(_,_)]) (Z:=[_]) (C:=[_]) Cz ag8 YZ ⟨(.r rfl),trivial⟩ rfl rfl rfl rfl ⟨_,[_],[_],rfl,rfl,rfl,rfl,rfl⟩ fun b24=>⟨gM (L1:=[_,_,_,_,_,_,_,_,_,_,_,_,_,_]) [3,4,5,6,7,8,9,10,11,12,13,14,15,16] rfl rfl rfl,fQ rfl<|dM ((xY T ql.1.1 ql.1.2 ql.2)) 15 0 (fun R=>[_,_,_,_,_,_,_,_,_,_,_,_,_,_,_,R,_]) Cz Cz agP (.r rfl) (.r rfl) rfl rfl rfl rfl rfl rfl rfl (fun _=>rfl) rfl (by omega) fun p11 c11=>⟨gM (L1:=[_,_,_,_,_,_,_,_,_,_,_,_,_]) [3,4,5,6,7,8,9,10,11,12,13,14,16] rfl rfl rfl,au<|au<|eW<|bl 7 (vs:=[_]) (C':=[_,_,_,_,_,_,_,_,_,_,_,_,_]) (L':=[_,_,_,_,_,_,_,_,_,_,_,_,_,_,_,_,_]) ag1 rfl rfl rfl rfl rfl rfl rfl rfl<|⟨gM (L1:=[_,_,_,_,_,_,_,_,_,_,_,_]) [3,4,5,6,8,9,10,11,12,13,14,16] rfl rfl rfl,dS ?_⟩⟩⟩⟩⟩⟩)
      refine ag<|VC.q (aD rfl<|bI (C:=#[_]) al3 rfl fun b26=>VO.n<|VC.q (aD rfl<|aO (LO.mf (cap:=[_,_]) ⟨(.r rfl),(.r rfl),trivial⟩)<|aD rfl<|aO (LO.as (.r rfl))<|VO.n ?_))
      refine ak<|VC.q (VO.c 7 LC rfl rfl ⟨_,rfl⟩ rfl<|ah (bH (.r rfl)) rfl<|VO.f (r:=9) Ax rfl<|VO.c 8 Th rfl rfl ⟨_,rfl⟩ rfl<|ah (bW EI (.r rfl) rfl) rfl<|VO.m rfl<|VO.n<|aG<|VC.perm [0,8,14,15,12,1,2,3,4,5,6,7,9,10,11,13,16,17] rfl<|bY (α:=Nat×(List jN)×(List iW)×(Option Addr)×Nat×(List Ev)×(Option Addr)×Nat) 5 (fun gx=>[(94,.int .i64 (gx.1:Nat))]) [(1,_),(3,_),(8,_),(10,_),(11,_),(92,_),(93,_)] (fun gx=>[de b26 (.cells #[.slice gx.2.2.2.2.2.2.1 gx.2.2.2.2.2.1.length gx.2.2.2.2.2.2.2] 103),own 239 7 gx.2.2.2.2.2.2.1 gx.2.2.2.2.2.2.2 (gx.2.2.2.2.2.1.map zP),nM { o with ts:=o.ts++[T],pt:=p7,ct:=c7,lg:=o.lg++[xY T ql.1.1 ql.1.2 ql.2],pl:=p11,cl:=c11,cs:=gx.2.2.1,pk:=gx.2.2.2.1,ck:=gx.2.2.2.2.1 },own 230 1 gx.2.2.2.1 gx.2.2.2.2.1 (gx.2.2.1.map Wb),bS (gx.2.2.1.map lf),bS (gx.2.1.map jN.res++(o.rc.drop gx.1).map jN.res)]) (fun gx=>gx.1≤o.rc.length∧Ir (Mw q.2) o.step o.hold T o.cs (o.rc.take gx.1) gx.2.1 gx.2.2.1 gx.2.2.2.2.2.1) (fun gx=>o.rc.length-gx.1) (0,[],o.cs,o.pk,o.ck,[],none,0) (by exact⟨bG _,.nil⟩) (.c4 rfl rfl rfl rfl (.c4 rfl rfl rfl rfl .nil)) (fun _ h=>((h.fX 239 7)).fO [1,0,2,3,4,5,6,7,8,9,10,11,12,13,14,15,16,17,18] rfl) ?_)
      rintro ⟨j,ds,cs_,pk_,ck_,es_,pe_,ce_⟩ ⟨hj,hR⟩
      show VC _ _ _ _ _ ([(94,.int .i64 (j:Nat))]++_) ([de b26 (.cells #[.slice pe_ es_.length ce_] 103),own 239 7 pe_ ce_ (es_.map zP),nM { o with ts:=o.ts++[T],pt:=p7,ct:=c7,lg:=o.lg++[xY T ql.1.1 ql.1.2 ql.2],pl:=p11,cl:=c11,cs:=cs_,pk:=pk_,ck:=ck_ },own 230 1 pk_ ck_ (cs_.map Wb),bS (cs_.map lf),bS (ds.map jN.res++(o.rc.drop j).map jN.res)]++_) _ _
      dsimp only at hj hR
      have hkp:=sE hR
      have hkl:(o.rc.take j).length=j:=by rw[List.length_take];omega
      rw[hkl]at hkp
      refine VC.q (VO.t rfl<|VO.n<|ak<|ay rfl (fun h95=>?_) (fun h95=>?_))
      ·
       obtain⟨r,hr⟩:∃r,o.rc[j]? =some r:=⟨_,af (by omega)⟩
       have hrm:r∈o.rc:=al hr
       have hrx:=hreg r hrm
       refine aC (ag<|ak<|aG<|VC.q (ah (LO.wy EI Zy (fun _ hw=>(dE hw 15 rfl).some (by rw[aq])) (.r rfl) (.r rfl) rfl (by omega)) rfl<|ah (aB ad9 (.r rfl) (fun w hw=>bq (off:=0) (gN hw 15 rfl hr) ⟨_,rfl⟩)) rfl<|VO.a rfl<|aI<|VE.aeW (fun w hw=>St.ae1 hr (bM (L1:=[_,_,_,_,_,_,_,_,_,_,_,_,_,_,_,_,_,_,_]) [5,0,1,2,3,4,6,7,8,9,10,11,12,13,14,15,16,17,18] rfl rfl _ hw))<|ag ?_))
       refine VC.q (VO.m rfl<|ah (LO.mf2 (first:=[_]) (cap:=[]) ⟨(.r rfl),trivial⟩ trivial) rfl<|aD rfl<|aO (LO.as (.r rfl))<|VO.n<|cP [[0,1,2,3,4,5,6,7,8,9,10,11,12,13,14,15,16,17,18,19,20,21],[3,9,10,11,12,13,14,16,17,18,19,20,21]] [some 0,some 0,some 0,some 0,some 0,some 0,some 0,some 0,some 0,some 0,some 0,some 0,some 0,some 0,some 0,some 0,some 0,some 0,some 0,some 0,some 0,none] mixed (by kernel_rfl) rfl (LX.m rfl<|LX.m rfl<|aA (fun _ hJ=>bH (.r rfl)) rfl<|aA (fun _ hJ=>aE (r:=0) Ty (.r rfl) rfl) rfl<|aA (fun _ hJ=>aM (vs:=[_,_]) GL (.r rfl) (fun _ hw=>aX (hJ _ hw) 0 rfl ⟨_,rfl⟩) rfl) rfl<|LX.m rfl<|aA (fun _ hJ=>aB LC (.r rfl) (fun _ hw=>aX (hJ _ hw) 15 rfl ⟨_,rfl⟩)) rfl<|aA (fun _ hJ=>bH (.r rfl)) rfl<|aA (fun _ hJ=>aE (r:=0) xi (.r rfl) rfl) rfl<|aA (fun _ hJ=>aE (r:=6) Bd (.r rfl) rfl) rfl<|aA (fun _ hJ=>aE (r:=7) PY (.r rfl) rfl) rfl<|aA (fun _ hJ=>aB O3 (.r rfl) (fun _ hw=>aX (hJ _ hw) 6 rfl ⟨_,rfl⟩)) rfl<|aA (fun _ hJ=>bD (xs:=[_,_,_]) (vs:=[_,_,_]) C78 ⟨(.r rfl),(.r rfl),(.r rfl),trivial⟩ (fun w hw=>Iv r.x q.2 _ _ o.step w (Cr (St.inv (hJ _ hw) 17 _ rfl) hrx) (hpxb r.x hrx) (RR.kg (hJ _ hw) 13 14 rfl rfl) (by omega) (by omega) hr4 (IC hr1 hr2 hr3 hr4 hq hlk (hpx2 r.x hrx) hgo))) rfl<|LX.m rfl<|aA (fun _ hJ=>aB LC (.r rfl) (fun _ hw=>aX (hJ _ hw) 15 rfl ⟨_,rfl⟩)) rfl<|aA (fun _ hJ=>bH (.r rfl)) rfl<|aA (fun _ hJ=>aE (r:=0) xi (.r rfl) rfl) rfl<|aA (fun _ hJ=>aE (r:=6) Bd (.r rfl) rfl) rfl<|aA (fun _ hJ=>aE (r:=8) ab1 (.r rfl) rfl) rfl<|aA (fun _ hJ=>aB O3 (.r rfl) (fun _ hw=>aX (hJ _ hw) 6 rfl ⟨_,rfl⟩)) rfl<|LX.m rfl<|cn<|dw) (au<|au<|au<|au<|au<|au<|au<|au<|au<|au<|au<|au<|au<|au<|au<|au<|au<|au<|au<|au<|au<|fQ rfl<|HO.pS (first:=[_]) (cap:=[]) (xs:=[_,_,_,_]) (vs:=[_,_,_,_]) [_,_,_,_,_,_,_,_,_] [_,_,_,_,_,_,_,_,_,_,_,_,_] (bM (L1:=[_,_,_,_,_,_,_,_,_]++[_,_,_,_,_,_,_,_,_,_,_,_,_]) [15,4,5,6,7,8,0,1,2,3,9,10,11,12,13,14,16,17,18,19,20,21] rfl rfl) (.r rfl) C77 ⟨(.r rfl),(.r rfl),(.r rfl),(.r rfl),trivial⟩ (fun w _ hh=>ac5 { o with ts:=o.ts++[T],pt:=p7,ct:=c7,lg:=o.lg++[xY T ql.1.1 ql.1.2 ql.2],pl:=p11,cl:=c11,cs:=cs_,pk:=pk_,ck:=ck_ } r (C2 (Mw q.2) r.x.r.pix o.step) T o.hold es_ pe_ ce_ b11 b26 w (by show cs_.length<1000000;omega) (by omega) (hrcb r hrm) (hlvb r hrm) hT1 hT2 hr5 (by omega) (fun hq=>by obtain⟨k,c,hc,he⟩:=hop r hrm hq;obtain⟨c',h1,h2⟩:=hkp.1 k c hc;exact⟨k,c',h1,by rw[he,h2]⟩) hh) fun y hy=>⟨gM (L1:=[_,_,_,_,_,_,_,_,_,_,_,_,_]) [9,10,11,12,13,14,15,16,17,18,19,20,21] rfl rfl rfl,dS ?_⟩))
       refine bB (ag<|aF (VO.p rfl rfl (by omega) (by omega) rfl<|VO.m rfl<|aI<|bn fun a w ha hw=>⟨(j+1,ds++[y.r],y.cs,y.pk,y.ck,y.es,y.pe,y.ce),⟨by dsimp only;omega,by dsimp only;rw[cQ,hr];exact .snoc hR hy⟩,(by dsimp only;omega),ha.sub (.c4 rfl rfl rfl rfl (.c4 rfl rfl rfl rfl .nil)),(by exact bM (L1:=[_,_,_,_,_,_,_,_,_,_,_,_,_,_,_,_,_,_,_]) [1,2,3,4,5,0,6,7,8,9,10,11,12,13,14,15,16,17,18] rfl rfl _ (St.ait y.r (bM (L1:=[_,_,_,_,_,_,_,_,_,_,_,_,_,_,_,_,_,_,_,_,_,_]) [6,7,8,9,1,2,3,4,5,10,11,12,13,14,15,0,16,17,18,19,20,21] rfl rfl _ hw)))⟩))
      ·
       refine ca (aL (aL (cD (ag<|VC.q (VO.c 0 X8 rfl rfl ⟨_,rfl⟩ rfl<|VO.a rfl<|VO.a rfl<|VO.n<|aP (VE.res (vs:=[_,_]) rfl ⟨rfl,rfl,trivial⟩ (fun w hw=>?_)))))))
       have hje:j=o.rc.length:=by omega
       have hds:o.rc.take j=o.rc:=by rw[hje,du]
       rw[hds]at hR
       have hk2:=sE hR
       refine⟨⟨ds,cs_,pk_,ck_,es_,pe_,ce_,p7,c7,xY T ql.1.1 ql.1.2 ql.2,p11,c11⟩,⟨by rw[←hq];exact hR,_,_,_,rfl,hql⟩,rfl,?_⟩
       have e1:o.lg.flatMap pD.res++[own 218 7 ql.1.1 ql.1.2 (ql.2.map nk),bS (ql.2.flatMap cpR)]=(o.lg++[xY T ql.1.1 ql.1.2 ql.2]).flatMap pD.res:=by rw[l6];rfl
       have e2:ds.map jN.res++(o.rc.drop j).map jN.res=ds.map jN.res:=by rw[hje,List.drop_length];simp
       have e3:ds.length=o.rc.length:=hk2.2.2.2.2
       show St _ [own 239 7 pe_ ce_ (es_.map zP),Go.SL.de o.b (.cells #[_,_,_,_,_,_,_,_,_,.slice o.pc ds.length o.cc,_,_,_] 226),o.rgR,o.pxB,own 228 1 o.pc o.cc (ds.map XV),bS (ds.map jN.res),own 3 1 p7 c7 ((o.ts++[T]).map iC),own 230 1 pk_ ck_ (cs_.map Wb),bS (cs_.map lf),own 253 1 p11 c11 ((o.lg++[xY T ql.1.1 ql.1.2 ql.2]).map pD.val),bS ((o.lg++[xY T ql.1.1 ql.1.2 ql.2]).flatMap pD.res)] _
       rw[←e1, ←e2,hk2.2.2.2.1,e3]
       exact(St.Pk (bM (L1:=[_,_,_,_,_,_,_,_,_,_,_,_,_]) [7,8,18,1,2,13,14,15,5,16,3,4,17] rfl rfl _ hw)).fO [1,2,3,4,5,6,7,8,9,10,0] rfl
theorem adm:ed ae 214 [(0,2),(2,2)] [.int .i64 0,.int .i64 0,.int .i64 0,.int .i64 0]:=ju fun _=>by kernel_rfl
theorem agK:ed ae 218 [(0,1),(1,1),(2,4),(6,1)] [.slice none 0 0,.slice none 0 0,.int .i64 0,.int .i64 0,.int .i64 0,.int .i64 0,.int .i64 0]:=ju fun _=>by kernel_rfl
theorem Z93:cj ae 93 (.agg #[.int .i64 0,.int .i64 0,.int .i64 0,.int .i64 0,.int .i64 0,.slice none 0 0,.int .i64 0,.int .i64 0,.int .i64 0]):=by unfold cj;kernel_rfl
theorem alE:ed ae 193 [(0,1),(1,1)] [.string ra,.slice none 0 0]:=ju fun _=>by kernel_rfl
theorem B91:ed ae 91 [(0,1),(1,1),(2,1)] [.int .i64 0,.int .i64 0,.int .i64 0]:=ju fun _=>by kernel_rfl
theorem B93:ed ae 93 [(0,5),(5,1),(6,3)] [.int .i64 0,.int .i64 0,.int .i64 0,.int .i64 0,.int .i64 0,.slice none 0 0,.int .i64 0,.int .i64 0,.int .i64 0]:=ju fun _=>by kernel_rfl
theorem N93:(ae.info? 93).map (·.size)=some 9:=by kernel_rfl
theorem mI {w:World} {o:iG} (hh:Has w (kh o)) {r:jN} (hr:r∈o.rc):fk w ⟨r.b,0,none⟩ r.C∧RO 2 zU w r.pr r.rc∧RO 1 iC w r.pv r.lv:=by
 have h1:=(St.inv hh 4 _ rfl).1 _ (bE (f:=jN.res) hr)
 exact⟨iE (h1.1 r.de (by simp)),eI (h1.1 r.LH (by simp)),eI (h1.1 r.Ps (by simp))⟩
theorem ky {w:World} {o:iG} (hh:Has w (kh o)):fk w ⟨o.b,0,none⟩ o.C:=iE (St.inv hh 0 _ rfl)
def pG (o:iG):List Int:=o.rc.map fun r=>ko r.lv
theorem Wq (o:iG) (w:World) (hn:o.rc.length<1000000) (hp:0<o.rc.length) (hlv:∀r,r∈o.rc→r.lv.length<1000000000000) (hh:Has w (kh o)):
 Calls ae 27 #[jR o.b] w fun e w'=>∃x:Option Addr×Nat,True∧e= .returned (.slice x.1 (pG o).length x.2)∧St (bs w) [own 3 1 x.1 x.2 ((pG o).map iC)] w':=by
 have hrr:RO 1 XV w o.pc o.rc:=RO.kg hh 3 rfl
 refine enter (vs:=[_]) (env:=[(0,_)]) Tryz.func27 rfl rfl rfl rfl ?_
 refine VC.q (VO.a rfl<|VO.n<|ak<|VC.q (VO.m rfl<|ah (bD (xs:=[_]) (vs:=[_]) C72 ⟨(.r rfl),trivial⟩ (fun w hw=>sH o w (by omega) (ky (hh.keep hw)))) rfl<|VO.n ?_))
 refine ay rfl (fun h7=>?_) (fun h7=>?_)
 · (exfalso;omega)
 ·
  refine aC (ag<|VC.q (VO.a rfl<|VO.n<|ak<|VC.q (VO.m rfl<|ah (bH (.r rfl)) rfl<|VO.f (r:=9) Ax rfl<|ah (aB Th (.r rfl) (aW (aU (off:=9) (ky hh) ⟨_,rfl⟩))) rfl<|ah (bW EI (.r rfl) rfl) rfl<|VO.m rfl<|aI ?_)))
  refine ag<|aG<|bY (α:=Nat×(List Int)×(Option Addr)×Nat) 0 (fun gx=>[(3,.slice gx.2.2.1 gx.2.1.length gx.2.2.2),(13,.int .i64 (gx.1:Nat))]) [(11,_),(12,_)] (fun gx=>[own 3 1 gx.2.2.1 gx.2.2.2 (gx.2.1.map iC)]) (fun gx=>gx.1≤o.rc.length∧gx.2.1=(pG o).take gx.1) (fun gx=>o.rc.length-gx.1) (0,[],none,0) (by exact⟨bG _,rfl⟩) (.c4 rfl rfl rfl rfl .nil) (fun _ h=>(h.fX 3 1)) ?_
  rintro ⟨j,xs,px_,cx_⟩ ⟨hj,hX⟩
  show VC _ _ _ _ _ ([(3,.slice px_ xs.length cx_),(13,.int .i64 (j:Nat))]++_) ([own 3 1 px_ cx_ (xs.map iC)]++_) _ _
  dsimp only at hj hX
  have hxl:xs.length=j:=by rw[hX];simp [pG];omega
  refine VC.q (VO.t rfl<|VO.n<|ak<|ay rfl (fun h14=>?_) (fun h14=>?_))
  ·
   obtain⟨r,hr⟩:∃r,o.rc[j]? =some r:=⟨_,af (by omega)⟩
   have hrm:r∈o.rc:=al hr
   refine aC (ag<|ak<|aG<|VC.q (ah (cw EI Zy hrr.sm (.r rfl) (.r rfl) rfl (by omega)) rfl<|ah (aB ad9 (.r rfl) (fun w hw=>bq (off:=0) ((fun w2 hw2=>(hrr.keep w2 hw2).cells _ _ (by rw[aw,hr];rfl)) w hw) ⟨_,rfl⟩)) rfl<|VO.a rfl<|VO.n<|aF (VO.m rfl<|VO.m rfl<|ah (bD (xs:=[_]) (vs:=[_]) C82 ⟨(.r rfl),trivial⟩ (fun w hw=>Ph r w (hlv r hrm) (mI (hh.keep hw) hrm).1 (mI (hh.keep hw) hrm).2.2)) rfl<|aD rfl<|fu (ps:=[(_,_)]) (vs:=[(_,_)]) (Z:=[_]) (C:=[_]) ei Z3 N3 ⟨(.r rfl),trivial⟩ rfl rfl rfl rfl ⟨_,[_],[_],rfl,rfl,rfl,rfl,rfl⟩ fun b2=>aD rfl<|dM ((ko r.lv)) 1 0 (fun R=>[_,R]) ei ei I3 (.r rfl) (.r rfl) rfl rfl rfl rfl rfl rfl rfl (fun _=>rfl) rfl (by omega) fun p4 c4=>aD rfl<|aO (LO.as (.r rfl))<|aI ?_)))
   refine bB (ag<|aF (VO.p rfl rfl (by omega) (by omega) rfl<|VO.m rfl<|aI<|bn fun a w ha hw=>⟨(j+1,xs++[ko r.lv],p4,c4),⟨by dsimp only;omega,by dsimp only;unfold pG;rw[cQ,aw,hr,hX];rfl⟩,(by dsimp only;omega),ha.sub (.c4 rfl rfl rfl rfl .nil),hw.fO [1] rfl⟩))
  ·
   refine ca (aL (aL (cD (ag<|VC.q (VO.m rfl<|VO.a rfl<|VO.n<|aP (VE.s rfl rfl (fun w hw=>?_)))))))
   have hx2:xs=pG o:=by rw[hX,dK (by simp [pG];omega)]
   rw[←hx2]
   exact⟨(px_,cx_),trivial,rfl,hw.fO [0] rfl⟩
theorem xu (l:List Int) (a:Int):ko (l++[a])=a:=by
 unfold ko
 rw[av]
 simp
structure Vp (o:iG):Prop where
 spec:j0 o.sp=0
 len:o.rc.length=o.rg.length
 idx:∀(k:Nat) (r:jN),o.rc[k]? =some r→o.rg[k]? =some r.x∧r.i=k
 pix:∀x,x∈o.rg→x.r.pix.length<1000000000000
 rcb:∀r,r∈o.rc→r.rc.length≤o.ts.length
 lvb:∀r,r∈o.rc→r.lv.length=o.ts.length
 op:∀r,r∈o.rc→ko r.lv≠0→∃(k:Nat) (c:iW),o.cs[k]? =some c∧r.op=some c.b
 cs:o.cs.length≤32*o.ts.length
 ts:o.ts.length≤o.lg.length
theorem Vp.dU {o:iG} (h:Vp o):∀r,r∈o.rc→r.x∈o.rg:=fun r hr=>by
 obtain⟨k,hk⟩:=cV.1 hr
 exact al (h.idx k r hk).1
theorem Vp.n {o:iG} (h:Vp o):0<o.rc.length∧o.rc.length≤32:=by
 have:=Ad h.spec
 have e:o.sp.fI.length=o.rg.length:=by unfold iG.sp;simp
 rw[h.len, ←e];exact⟨this.2.2.1,this.2.1⟩
theorem ade {g:cU} {l:List RG} {a b d:Int} {o:iG} (h:Us g l a b d o) (hs:j0 ⟨g,l.map mS,a,b,d⟩=0) (hp:∀x,x∈l→x.r.pix.length<1000000000000):Vp o:=by
 obtain⟨h1,h2,h3,h4,h5,h6,h7,_,h8,h9⟩:=h
 have nil:∀r,r∈o.rc→r.rc=[]∧r.lv=[]:=fun r hr=>by
  obtain⟨k,hk⟩:=cV.1 hr
  exact⟨(h9.2 k r hk).2.2.1,(h9.2 k r hk).2.2.2.1⟩
 refine⟨by unfold iG.sp;rw[h1,h2,h3,h4,h8];exact hs,h9.1,fun k r hr=>⟨(h9.2 k r hr).1,(h9.2 k r hr).2.1⟩,?_,fun r hr=>by rw[(nil r hr).1];simp,fun r hr=>by rw[(nil r hr).2,h5],fun r hr hq=>absurd (by rw[(nil r hr).2];rfl) hq,by rw[h6];simp,by rw[h5];simp⟩
 intro x hx
 have:x.r∈o.rg.map mS:=bE hx
 rw[h8]at this
 obtain⟨y,hy,e⟩:=List.mem_map.1 this
 rw[←e];exact hp y hy
def De (cs:List iW) (r:jN):Prop:=ko r.lv≠0→∃(k:Nat) (c:iW),cs[k]? =some c∧r.op=some c.b
theorem CA {cs cs':List iW} {r:jN} (h:De cs r) (k:tH cs cs'):De cs' r:=fun q=>by
 obtain⟨i,c,hc,e⟩:=h q
 obtain⟨c',h1,h2⟩:=k i c hc
 exact⟨i,c',h1,by rw[e,h2]⟩
theorem YM {r:jN} {T H:Int} {t:xZ} {cs:List iW} {es:List Ev} {y:FG} (h:IE r T H t cs es y) (ho:De cs r):De y.cs y.r:=by
 obtain⟨_,_,_,_,hl,q|q⟩:=h
 ·obtain⟨hn,e1,e2,_⟩:=q
  intro hq
  rw[hl,xu,hn]at hq
  rw[e1,e2];exact ho hq
 ·obtain⟨hn,x',hh,_⟩:=q
  intro hq
  rcases hh with⟨_,b,e1,e2,_⟩|⟨_,k,c,hc,e0,e1,e2,_⟩
  ·rw[e1,e2]
   exact⟨cs.length,_,by rw[aY (bA _)];simp;rfl,rfl⟩
  ·rw[e1,e2,e0]
   exact⟨k,_,iF (aj.1 hc).1,rfl⟩
theorem aep {sts:List (List Int)} {b H T:Int} {cs0:List iW} {rs ds:List jN} {cs:List iW} {es:List Ev} (h:Ir sts b H T cs0 rs ds cs es) (h0:∀r,r∈rs→De cs0 r):
  ∀(k:Nat) (d:jN),ds[k]? =some d→∃r,rs[k]? =some r∧d.x=r.x∧d.i=r.i∧d.b=r.b∧d.rc.length≤r.rc.length+1∧d.lv.length=r.lv.length+1∧De cs d:=by
 induction h with
 |nil=>intro k d hd;simp at hd
 |@snoc rs ds cs es r y h1 h2 ih=>
  have hk:=sE h1
  have hm:=zY h2
  intro k d hd
  rcases aK k ds.length with q|q
  ·rw[aJ q]at hd
   obtain⟨r',g1,g2,g3,g4,g5,g6,g7⟩:=ih (fun r hr=>h0 r (List.mem_append_left _ hr)) k d hd
   exact⟨r',by rw[aJ (by rw[←hk.2.2.2.2];exact q)];exact g1,g2,g3,g4,g5,g6,CA g7 hm.1⟩
  ·rw[aY q]at hd
   have e:k=ds.length:=by
    rcases aK (k-ds.length) 1 with z|z
    ·omega
    ·rw[aH (by simpa using z)]at hd;cases hd
   subst e
   simp at hd
   subst hd
   have hop:=YM h2 (CA (h0 r (by simp)) hk.1)
   obtain⟨e1,e2,e3,e4,e5,_⟩:=h2
   refine⟨r,by rw[hk.2.2.2.2,aY (bA _)];simp,e1,e3,e2,?_,by rw[e5];simp,hop⟩
   rw[e4]
   have:=cH (fun x=> !xg T H x) r.rc
   show(iR T H r.rc++[iQ.mk T (C2 sts r.x.r.pix b).lv]).length≤_
   unfold iR
   rw[aZ];simp;omega
theorem Yt {o:iG} {T:Int} {l:List cZ} {y:wW} (h:Vp o) (hp:CD o T l y):Vp (y.o o T):=by
 obtain⟨hr,p,c,m,hl,_⟩:=hp
 have hk:=sE hr
 have hw:=aep hr (fun r hr=>h.op r hr)
 have hn:=h.n
 have mem:∀d,d∈y.ds→∃r,r∈o.rc∧d.rc.length≤r.rc.length+1∧d.lv.length=r.lv.length+1∧De y.cs d:=fun d hd=>by
  obtain⟨k,hk⟩:=cV.1 hd
  obtain⟨r,g1,g2,g3,g4,g5,g6,g7⟩:=hw k d hk
  exact⟨r,al g1,g5,g6,g7⟩
 refine⟨h.spec,by show y.ds.length=_;rw[hk.2.2.2.2];exact h.len,?_,h.pix,?_,?_,?_,?_,?_⟩
 ·intro k d hd
  obtain⟨r,g1,g2,g3,g4,_⟩:=hw k d hd
  have:=h.idx k r g1
  exact⟨by rw[g2];exact this.1,by rw[g3];exact this.2⟩
 ·intro d hd
  obtain⟨r,hr,g1,_⟩:=mem d hd
  have:=h.rcb r hr
  show _≤(o.ts++[T]).length
  simp;omega
 ·intro d hd
  obtain⟨r,hr,_,g1,_⟩:=mem d hd
  have:=h.lvb r hr
  show _=(o.ts++[T]).length
  simp;omega
 ·intro d hd
  obtain⟨r,hr,_,_,g1⟩:=mem d hd
  exact g1
 ·have:=h.cs
  show y.cs.length≤32*(o.ts++[T]).length
  simp;omega
 ·have:=h.ts
  show(o.ts++[T]).length≤(o.lg++[y.lg]).length
  simp;omega
theorem aeZ (o:iG) (T:Int) (m:List CP) (pm:Option Addr) (cm:Nat) (w:World) (hh:Has w (kh o)) (hcl:∀{L:List cq} {v:World},St ⟨w,lu (kh o)⟩ L v→l0 v pm m) (hcn:m.length<1000000000) (h:Vp o) (hT1:0≤T) (hT3:T≤4294967296) (hlate:o.ts=[]∨ko o.ts<T) (hful:o.lg.length<256) (hlk:qE o.g (m.map iJ)=0):
  Calls ae 23 #[jR o.b,.int .i64 T,.slice pm m.length cm] w fun e w'=>∃y:wW,CD o T (m.map iJ) y∧e= .returned (.tuple #[.slice y.pe y.es.length y.ce,.int .i64 0])∧St ⟨w,lu (kh o)⟩ (own 239 7 y.pe y.ce (y.es.map zP)::kh (y.o o T)) w':=
 have h1:=h.ts
 have h2:=h.cs
 adH o T m pm cm w hh hcl hcn h.spec h.len h.dU h.pix (fun r hr=>by have:=h.rcb r hr;omega) (fun r hr=>by have:=h.lvb r hr;omega) h.op (by omega) (by omega) hT1 hT3 hlate hful hlk
theorem C21:ef ae 21:=⟨_,Tryz.func21,by decide,rfl⟩
theorem C23:ef ae 23:=⟨_,Tryz.func23,by decide,rfl⟩
theorem C27:ef ae 27:=⟨_,Tryz.func27,by decide,rfl⟩
structure pP where
 t:Int
 th:List xZ
def zS:pP:=⟨0,[]⟩
def oP (st:List pP):Int:=(st.getD (st.length-1) zS).t
def oO (k:Nat) (st:List pP):List iQ:=st.map fun s=>⟨s.t,(s.th.getD k EB).lv⟩
def qT (H:Int) (k:Nat) (st:List pP):Int:=jE (iR (oP st) H (oO k st))
def M8 (H:Int) (k:Nat) (st:List pP):List Int:=(br st.length).map fun i=>qT H k (st.take (i+1))
structure Cs where
 nm:Int
 rg:Int
 bg:Int
 en:Int
 pk:Int
def zC:Cs:=⟨0,0,0,0,0⟩
def never:Int:=1099511627776
def Ly (k:Nat) (c:Cs):Bool:=decide (c.rg=(k:Int))&&decide (c.en=never)
def wS (k:Nat) (b n T:Int) (cs:List Cs):List Cs:=
 if b=n then cs else if b=0 then cs++[⟨cs.length+1,k,T,never,n⟩] else cs.map fun c=>if Ly k c=true then { c with en:=if n=0 then T else c.en,pk:=max c.pk n } else c
def Nk (k:Nat) (cs:List Cs):Int:=(cs.getD (cs.findIdx (Ly k)) zC).nm
def evS (k:Nat) (b n T:Int) (t:xZ) (cs:List Cs):Ev:={ lh k T b n t with nm:=if b=0 then cs.length+1 else Nk k cs }
def Fh (k:Nat) (b n T:Int) (t:xZ) (cs:List Cs) (es:List Ev):List Ev:=if b=n then es else es++[evS k b n T t cs]
def EN (H:Int) (st:List pP) (s:pP) (cs:List Cs):Nat→List Cs
 |0=>cs
 |k+1=>wS k (qT H k st) (qT H k (st++[s])) s.t (EN H st s cs k)
def Rc (H:Int) (st:List pP) (s:pP) (cs:List Cs):Nat→List Ev
 |0=>[]
 |k+1=>Fh k (qT H k st) (qT H k (st++[s])) s.t (s.th.getD k EB) (EN H st s cs k) (Rc H st s cs k)
def csA (H:Int) (n:Nat) (st:List pP):Nat→List Cs
 |0=>[]
 |m+1=>EN H (st.take m) (st.getD m zS) (csA H n st m) n
def MZ (H:Int) (n:Nat) (st:List pP):List Cs:=csA H n st st.length
def P6 (H:Int) (n:Nat) (st:List pP) (s:pP):List Ev:=Rc H st s (MZ H n st) n
theorem Mt {α:Type} {l m:List α} {d:α} {j:Nat} (h:j<l.length):(l++m).getD j d=l.getD j d:=by
 rw[av,av,aJ h]
theorem FI {α:Type} {l:List α} {a d:α}:(l++[a]).getD l.length d=a:=by
 rw[av,aY (bA _)];simp
theorem JG {H:Int} {n:Nat} {st:List pP} {s:pP}:∀m,m≤st.length→csA H n (st++[s]) m=csA H n st m
 |0,_=>rfl
 |m+1,h=>by
  unfold csA
  rw[JG m (by omega),gz (by omega),Mt (by omega)]
theorem JB {H:Int} {n:Nat} {st:List pP} {s:pP}:MZ H n (st++[s])=EN H st s (MZ H n st) n:=by
 unfold MZ
 rw[aZ,cu]
 conv=>lhs;unfold csA
 rw[JG _ (bA _),List.take_left,FI]
theorem CM {st:List pP} {s:pP}:oP (st++[s])=s.t:=by
 unfold oP
 rw[aZ,cu,Nat.add_sub_cancel,FI]
theorem Mg {k:Nat} {st:List pP} {s:pP}:oO k (st++[s])=oO k st++[⟨s.t,(s.th.getD k EB).lv⟩]:=by unfold oO;rw[bj];rfl
theorem Rz {T T' H:Int} {l:List iQ} (h:T'≤T):iR T H (iR T' H l)=iR T H l:=by
 unfold iR
 rw[List.filter_filter]
 refine List.filter_congr fun x _=>?_
 unfold xg
 by_cases q:x.t<T-H
 ·simp [q]
 ·simp [q];omega
theorem TC {T H:Int} {l:List iQ} {lv:Int} (hH:0≤H):fY T H l lv=iR T H (l++[⟨T,lv⟩]):=by
 unfold fY iR
 rw[List.filter_append]
 congr 1
 have:xg T H ⟨T,lv⟩=false:=by unfold xg;simp;omega
 simp [this]
theorem Y0 {H:Int} {k:Nat} {st:List pP} {s:pP} (hH:0≤H) (hT:oP st≤s.t∨st=[]):fY s.t H (iR (oP st) H (oO k st)) (s.th.getD k EB).lv=iR (oP (st++[s])) H (oO k (st++[s])):=by
 have e:fY s.t H (iR (oP st) H (oO k st)) (s.th.getD k EB).lv=fY s.t H (oO k st) (s.th.getD k EB).lv:=by
  show iR s.t H (iR (oP st) H (oO k st))++_=iR s.t H (oO k st)++_
  rcases hT with h|h
  ·rw[Rz h]
  ·subst h;rfl
 rw[e,TC hH,CM,Mg]
theorem Jq {H:Int} {k:Nat} {st:List pP} {s:pP}:M8 H k (st++[s])=M8 H k st++[qT H k (st++[s])]:=by
 unfold M8
 rw[aZ,cu,List.range_succ,bj]
 congr 1
 ·refine List.map_congr_left fun i hi=>?_
  rw[List.mem_range]at hi
  rw[gz (by omega)]
 ·simp only[fD,List.map_nil]
  rw[←cu (a:=s), ←aZ,du]
theorem Zh {H:Int} {k:Nat} {st:List pP}:(M8 H k st).length=st.length:=by simp [M8]
theorem Gw {H:Int} {k:Nat} {st:List pP}:0≤qT H k st:=uO _
theorem JU {H:Int} {k:Nat} {st:List pP}:ko (M8 H k st)=qT H k st:=by
 rcases qf st with h|⟨l,s,h⟩
 ·subst h;rfl
 ·rw[h,qg,Jq,xu]
structure BJ (n:Nat) (lv:Nat→Int) (cs:List Cs):Prop where
 nm:∀(j:Nat) (c:Cs),cs[j]? =some c→c.nm=j+1
 rg:∀(j:Nat) (c:Cs),cs[j]? =some c→0≤c.rg∧c.rg<n
 op:∀(j:Nat) (c:Cs),cs[j]? =some c→c.en=never→lv c.rg.toNat≠0
 one:∀(i j:Nat) (c d:Cs),cs[i]? =some c→cs[j]? =some d→c.rg=d.rg→c.en=never→d.en=never→i=j
 has:∀k,k<n→lv k≠0→∃(j:Nat) (c:Cs),cs[j]? =some c∧c.rg=(k:Int)∧c.en=never
 pk:∀(j:Nat) (c:Cs),cs[j]? =some c→c.en=never→lv c.rg.toNat≤c.pk
def BG (lv:Nat→Int) (k:Nat) (n:Int):Nat→Int:=fun i=>if i=k then n else lv i
theorem VF {n:Nat} {lv:Nat→Int} (h:∀k,k<n→lv k=0):BJ n lv []:=by
 refine⟨?_,?_,?_,?_,fun k hk hl=>absurd (h k hk) hl,?_⟩<;>intros<;>simp_all
theorem qP {k:Nat} {c:Cs}:Ly k c=true↔c.rg=(k:Int)∧c.en=never:=by unfold Ly;simp
theorem RC {n k:Nat} {lv:Nat→Int} {cs:List Cs} {b m T:Int} (h:BJ n lv cs) (hk:k<n) (hb:lv k=b) (hb0:0≤b) (hm0:0≤m) (hT:T≠never):BJ n (BG lv k m) (wS k b m T cs):=by
 have eqk:∀c:Cs,c.rg=(k:Int)→BG lv k m c.rg.toNat=m:=fun c hc=>by unfold BG;rw[hc];simp
 have nek:∀c:Cs,0≤c.rg→c.rg≠(k:Int)→BG lv k m c.rg.toNat=lv c.rg.toNat:=fun c hc hc2=>by unfold BG;rw[if_neg (by omega)]
 unfold wS
 by_cases e1:b=m
 ·rw[if_pos e1]
  have:BG lv k m=lv:=by funext i;unfold BG;split<;>simp_all
  rw[this];exact h
 ·rw[if_neg e1]
  by_cases e2:b=0
  ·rw[if_pos e2]
   have noop:∀(j:Nat) (c:Cs),cs[j]? =some c→c.rg=(k:Int)→c.en≠never:=fun j c hj hr he=>by
    have:=h.op j c hj he;rw[hr]at this;simp [hb,e2]at this
   have get:∀(j:Nat) (c:Cs),(cs++[(⟨cs.length+1,k,T,never,m⟩:Cs)])[j]? =some c→(j<cs.length∧cs[j]? =some c)∨(j=cs.length∧c=⟨cs.length+1,k,T,never,m⟩):=fun j c hj=>by
    rcases aK j cs.length with q|q
    ·rw[aJ q]at hj;exact .inl ⟨q,hj⟩
    ·rw[aY q]at hj
     have:j-cs.length=0:=by
      rcases aK (j-cs.length) 1 with z|z
      ·omega
      ·rw[aH (by simpa using z)]at hj;cases hj
     rw[this]at hj;simp at hj
     exact .inr ⟨by omega,hj.symm⟩
   refine⟨?_,?_,?_,?_,?_,?_⟩
   ·intro j c hj
    rcases get j c hj with⟨_,q⟩|⟨q,rfl⟩
    ·exact h.nm j c q
    ·simp [q]
   ·intro j c hj
    rcases get j c hj with⟨_,q⟩|⟨q,rfl⟩
    ·exact h.rg j c q
    ·simp only;omega
   ·intro j c hj he
    rcases get j c hj with⟨_,q⟩|⟨q,rfl⟩
    ·have hne:c.rg≠(k:Int):=fun e=>noop j c q e he
     rw[nek c (h.rg j c q).1 hne];exact h.op j c q he
    ·rw[eqk _ rfl];omega
   ·intro i j c d hi hj hr hc hd
    rcases get i c hi with⟨_,q⟩|⟨q,rfl⟩<;>rcases get j d hj with⟨_,q2⟩|⟨q2,rfl⟩
    ·exact h.one i j c d q q2 hr hc hd
    ·exact absurd hc (noop i c q hr)
    ·exact absurd hd (noop j d q2 hr.symm)
    ·omega
   ·intro i hi hl
    by_cases e:i=k
    ·exact⟨cs.length,⟨cs.length+1,k,T,never,m⟩,by rw[aY (bA _)];simp,by rw[e],rfl⟩
    ·unfold BG at hl;rw[if_neg e]at hl
     obtain⟨j,c,h1,h2,h3⟩:=h.has i hi hl
     exact⟨j,c,by rw[aJ (aj.1 h1).1];exact h1,h2,h3⟩
   ·intro j c hj he
    rcases get j c hj with⟨_,q⟩|⟨q,rfl⟩
    ·have hne:c.rg≠(k:Int):=fun e=>noop j c q e he
     rw[nek c (h.rg j c q).1 hne];exact h.pk j c q he
    ·rw[eqk _ rfl];exact dx _
  ·rw[if_neg e2]
   have get:∀(j:Nat) (c:Cs),(cs.map fun c=>if Ly k c=true then { c with en:=if m=0 then T else c.en,pk:=max c.pk m } else c)[j]? =some c→∃d,cs[j]? =some d∧c.nm=d.nm∧c.rg=d.rg∧((Ly k d=true∧c.en=(if m=0 then T else d.en)∧c.pk=max d.pk m)∨(Ly k d=false∧c=d)):=fun j c hj=>by
    rw[aw]at hj
    cases q:cs[j]? with
    |none=>rw[q]at hj;cases hj
    |some d=>
     rw[q]at hj
     simp only[dH,Option.some.injEq]at hj
     by_cases q2:Ly k d=true
     ·rw[if_pos q2]at hj;subst hj;exact⟨d,rfl,rfl,rfl,.inl ⟨q2,rfl,rfl⟩⟩
     ·rw[if_neg q2]at hj;subst hj;exact⟨d,rfl,rfl,rfl,.inr ⟨by simpa using q2,rfl⟩⟩
   refine⟨?_,?_,?_,?_,?_,?_⟩
   ·intro j c hj
    obtain⟨d,h1,h2,_⟩:=get j c hj
    rw[h2];exact h.nm j d h1
   ·intro j c hj
    obtain⟨d,h1,_,h2,_⟩:=get j c hj
    rw[h2];exact h.rg j d h1
   ·intro j c hj he
    obtain⟨d,h1,_,h2,⟨h3,h4,_⟩|⟨h3,rfl⟩⟩:=get j c hj
    ·have hd:=qP.1 h3
     rw[eqk c (by rw[h2];exact hd.1)]
     intro e
     rw[if_pos e]at h4
     exact hT (h4.symm.trans he)
    ·have hne:c.rg≠(k:Int):=fun e=>by rw[qP.2 ⟨e,he⟩]at h3;cases h3
     rw[nek c (h.rg j c h1).1 hne];exact h.op j c h1 he
   ·intro i j c d hi hj hr hc hd
    obtain⟨c',h1,_,h2,h3⟩:=get i c hi
    obtain⟨d',k1,_,k2,k3⟩:=get j d hj
    have en:∀{x y:Cs},x.en=never→((Ly k y=true∧x.en=(if m=0 then T else y.en)∧x.pk=max y.pk m)∨(Ly k y=false∧x=y))→y.en=never:=fun {x y} hx q=>by
     rcases q with⟨q1,_,_⟩|⟨_,rfl⟩
     ·exact(qP.1 q1).2
     ·exact hx
    exact h.one i j c' d' h1 k1 (by rw[←h2, ←k2];exact hr) (en hc h3) (en hd k3)
   ·intro i hi hl
    by_cases e:i=k
    ·subst e
     obtain⟨j,c,h1,h2,h3⟩:=h.has i hi (by rw[hb];exact e2)
     have hm:m≠0:=by unfold BG at hl;simpa using hl
     refine⟨j,{ c with en:=if m=0 then T else c.en,pk:=max c.pk m },?_,h2,?_⟩
     ·rw[aw,h1];simp only[dH];rw[if_pos (qP.2 ⟨h2,h3⟩)]
     ·simp only;rw[if_neg hm];exact h3
    ·unfold BG at hl;rw[if_neg e]at hl
     obtain⟨j,c,h1,h2,h3⟩:=h.has i hi hl
     refine⟨j,c,?_,h2,h3⟩
     rw[aw,h1];simp only[dH]
     rw[if_neg (fun q=>e (by have:=(qP.1 q).1;rw[h2]at this;omega))]
   ·intro j c hj he
    obtain⟨d,h1,_,h2,⟨h3,h4,h5⟩|⟨h3,rfl⟩⟩:=get j c hj
    ·rw[eqk c (by rw[h2];exact(qP.1 h3).1),h5];exact Int.le_max_right ..
    ·have hne:c.rg≠(k:Int):=fun e=>by rw[qP.2 ⟨e,he⟩]at h3;cases h3
     rw[nek c (h.rg j c h1).1 hne];exact h.pk j c h1 he
def Q2 (H:Int) (st:List pP) (s:pP) (k:Nat):Nat→Int:=fun i=>if i<k then qT H i (st++[s]) else qT H i st
theorem C9 {H:Int} {n:Nat} {st:List pP} {s:pP} {cs:List Cs} (h:BJ n (fun i=>qT H i st) cs) (hT:s.t≠never):∀k,k≤n→BJ n (Q2 H st s k) (EN H st s cs k)
 |0,_=>by
  have:Q2 H st s 0=fun i=>qT H i st:=by funext i;unfold Q2;simp
  rw[this];exact h
 |k+1,hk=>by
  have ih:=RC (C9 h hT k (by omega)) (k:=k) (by omega) (b:=qT H k st) (m:=qT H k (st++[s])) (T:=s.t) (by unfold Q2;simp) Gw Gw hT
  have:BG (Q2 H st s k) k (qT H k (st++[s]))=Q2 H st s (k+1):=by
   funext i;unfold BG Q2
   by_cases q:i=k
   ·subst q;simp
   ·rw[if_neg q];by_cases q2:i<k
    ·rw[if_pos q2,if_pos (by omega)]
    ·rw[if_neg q2,if_neg (by omega)]
  rw[this]at ih;exact ih
theorem YU {H:Int} {n:Nat} {st:List pP} {s:pP} {cs:List Cs} (h:BJ n (Q2 H st s n) cs):BJ n (fun i=>qT H i (st++[s])) cs:=by
 have e:∀i,i<n→Q2 H st s n i=qT H i (st++[s]):=fun i hi=>by unfold Q2;rw[if_pos hi]
 have r:∀(j:Nat) (c:Cs),cs[j]? =some c→Q2 H st s n c.rg.toNat=qT H c.rg.toNat (st++[s]):=fun j c hj=>e _ (by have:=h.rg j c hj;omega)
 exact⟨h.nm,h.rg,fun j c hj he=>by rw[←r j c hj];exact h.op j c hj he,h.one,fun k hk hl=>h.has k hk (by rw[e k hk];exact hl),fun j c hj he=>by rw[←r j c hj];exact h.pk j c hj he⟩
theorem JF {H:Int} {n:Nat}:∀(st:List pP),(∀s,s∈st→s.t≠never)→BJ n (fun i=>qT H i st) (MZ H n st):=by
 intro st
 induction h:st.length generalizing st with
 |zero=>
  intro _
  have:st=[]:=List.eq_nil_of_length_eq_zero h
  subst this
  exact VF fun _ _=>rfl
 |succ m ih=>
  intro ht
  rcases qf st with q|⟨l,s,q⟩
  ·rw[q]at h;simp at h
  ·rw[q,qg]at h ht ⊢
   rw[JB]
   exact YU (C9 (ih l (by simpa using h) (fun s hs=>ht s (by simp [hs]))) (ht s (by simp)) n (bA _))
def iW.p (c:iW):Cs:=⟨c.nm,c.rg,c.bg,c.en,c.pk⟩
theorem P4 {b n:Int} (hb:0≤b) (hn:0≤n) (h:b≠n):wQ b n=1↔b=0:=by
 unfold wQ
 constructor
 ·intro q
  split at q
  ·split at q
   ·assumption
   ·omega
  ·split at q<;>omega
 ·intro q;rw[if_pos (by omega),if_pos q]
theorem X7 {b n:Int} (hb:0≤b) (hn:0≤n) (h:b≠n) (h0:b≠0):wQ b n=2↔n=0:=by
 unfold wQ
 constructor
 ·intro q
  split at q
  ·omega
  ·split at q
   ·assumption
   ·omega
 ·intro q;rw[if_neg (by omega),if_pos q]
theorem Ja {cs:List iW} (h:(cs.map zA).Nodup) {i j:Nat} {c d:iW} (hi:cs[i]? =some c) (hj:cs[j]? =some d) (e:c.b=d.b):i=j:=by
 have hi2:(cs.map zA)[i]? =some c.b:=by rw[aw,hi];rfl
 have hj2:(cs.map zA)[j]? =some d.b:=by rw[aw,hj];rfl
 have hp:=be.1 h
 obtain⟨h1,h2⟩:=aj.1 hi2
 obtain⟨k1,k2⟩:=aj.1 hj2
 rcases e9 i j with q|q|q
 ·exact absurd (h2.trans (e.trans k2.symm)) (hp i j h1 k1 q)
 ·exact q
 ·exact absurd (k2.trans (e.symm.trans h2.symm)) (hp j i k1 h1 q)
theorem Mo {cs:List Cs} {f:Cs→Bool} {g:Cs→Cs} {j:Nat} {c:Cs} (hj:cs[j]? =some c) (hc:f c=true) (hu:∀i d,cs[i]? =some d→f d=true→i=j):cs.set j (g c)=cs.map fun c=>if f c=true then g c else c:=by
 refine cO fun i=>?_
 rw[aw,fe]
 have hlt:=(aj.1 hj).1
 by_cases q:j=i
 ·subst q
  rw[if_pos rfl,if_pos hlt,hj];simp [hc]
 ·rw[if_neg q]
  cases h:cs[i]? with
  |none=>rfl
  |some d=>
   simp only[dH]
   rw[if_neg (fun e=>q (hu i d h e).symm)]
theorem Z0 {cs:List Cs} {k j:Nat} {c:Cs} (hj:cs[j]? =some c) (hc:Ly k c=true) (hu:∀i d,cs[i]? =some d→Ly k d=true→i=j):Nk k cs=c.nm:=by
 obtain⟨hlt,e⟩:=aj.1 hj
 have h:cs.findIdx (Ly k)=j:=(List.findIdx_eq hlt).2 ⟨by rw[e];exact hc,fun i hi=>by
  cases q:Ly k cs[i] with
  |false=>rfl
  |true=>exact absurd (hu i _ (af (by omega)) q) (by omega)⟩
 unfold Nk
 rw[h,av,hj];rfl
def Bo (cs:List iW) (op:Option Nat) (k:Nat):Prop:=∃(j:Nat) (c:iW),cs[j]? =some c∧op=some c.b∧c.rg=(k:Int)∧c.en=never
theorem Wm {H T:Int} {st:List pP} {s:pP} {n k:Nat} {cs:List iW} {es:List Ev} {r:jN} {t:xZ} {y:FG} (hH:0≤H) (hT:oP st≤s.t∨st=[]) (hcs:BJ n (Q2 H st s k) (cs.map iW.p)) (hnd:(cs.map zA).Nodup) (hi:r.i=k) (hsT:s.t=T) (ht:s.th.getD k EB=t)
  (hrc:r.rc=iR (oP st) H (oO k st)) (hlv:r.lv=M8 H k st) (hop:qT H k st≠0→Bo cs r.op k) (hm:IE r T H t cs es y):
  y.cs.map iW.p=wS k (qT H k st) (qT H k (st++[s])) T (cs.map iW.p)∧y.es=Fh k (qT H k st) (qT H k (st++[s])) T t (cs.map iW.p) es∧y.r.rc=iR (oP (st++[s])) H (oO k (st++[s]))∧y.r.lv=M8 H k (st++[s])∧
   (qT H k (st++[s])≠0→Bo y.cs y.r.op k)∧(∀(j:Nat) (c:iW),cs[j]? =some c→c.rg≠(k:Int)→y.cs[j]? =some c):=by
 have hnow:fY T H r.rc t.lv=iR (oP (st++[s])) H (oO k (st++[s])):=by rw[hrc, ←ht, ←hsT];exact Y0 hH hT
 have hN:jE (fY T H r.rc t.lv)=qT H k (st++[s]):=by rw[hnow];rfl
 have hB:ko r.lv=qT H k st:=by rw[hlv,JU]
 have hb0:0≤qT H k st:=Gw
 have hn0:0≤qT H k (st++[s]):=Gw
 obtain⟨_,_,_,e4,e5,q⟩:=hm
 rw[hN,hB]at q
 rw[hN]at e5
 rw[hnow]at e4
 have e5':y.r.lv=M8 H k (st++[s]):=by rw[e5,hlv,Jq]
 generalize qT H k (st++[s])=N at*
 generalize hBB:qT H k st=B at*
 rcases q with⟨q1,q2,q3,q4⟩|⟨q1,x',hh,q4⟩
 ·refine⟨?_,?_,e4,e5',?_,?_⟩
  ·unfold wS;rw[if_pos q1.symm,q3]
  ·unfold Fh;rw[if_pos q1.symm,q4]
  ·intro h;rw[q2,q3];exact hop (by rw[←q1];exact h)
  ·intro j c hj _;rw[q3];exact hj
 ·have hkd:(lh r.i T B N t).kd=wQ B N:=rfl
  have hrg:(lh r.i T B N t).rg=(k:Int):=by show(r.i:Int)=k;rw[hi]
  rcases hh with⟨h1,b,g1,g2,g3⟩|⟨h1,j,c,hc,g0,g1,g2,g3⟩
  ·have hz:B=0:=(P4 hb0 hn0 (eD q1)).1 (hkd ▸ h1)
   refine⟨?_,?_,e4,e5',?_,?_⟩
   ·unfold wS;rw[if_neg (eD q1),if_pos hz,g2,bj]
    congr 1
    simp only[fD,List.map_nil,iW.p,hrg,aq]
    congr 2
    show max 0 N=N
    omega
   ·unfold Fh;rw[if_neg (eD q1),q4,g3]
    unfold evS
    rw[if_pos hz,aq]
    have:lh k T B N t=lh r.i T B N t:=by rw[hi]
    rw[this]
   ·intro h
    exact⟨cs.length,_,by rw[g2,aY (bA _)];simp;rfl,g1,hrg,rfl⟩
   ·intro j c hj _
    rw[g2,aJ (aj.1 hj).1];exact hj
  ·have hz:B≠0:=fun e=>h1 (hkd ▸ (P4 hb0 hn0 (eD q1)).2 e)
   obtain⟨j',c',hc',ho',hr',he'⟩:=hop hz
   have hbb:c.b=c'.b:=by rw[g0]at ho';simpa using ho'
   have hjj:=Ja hnd hc hc' hbb
   subst hjj
   rw[hc]at hc'
   cases hc'
   have hcp:(cs.map iW.p)[j]? =some c.p:=by rw[aw,hc];rfl
   have hcf:Ly k c.p=true:=qP.2 ⟨hr',he'⟩
   have hun:∀i d,(cs.map iW.p)[i]? =some d→Ly k d=true→i=j:=fun i d hd ho=>by
    have:=qP.1 ho
    exact hcs.one i j d c.p hd hcp (by rw[this.1];exact hr'.symm) this.2 he'
   have hkd2:((lh r.i T B N t).kd=2)↔N=0:=by rw[hkd];exact X7 hb0 hn0 (eD q1) hz
   refine⟨?_,?_,e4,e5',?_,?_⟩
   ·unfold wS;rw[if_neg (eD q1),if_neg hz,g2,List.map_set, ←Mo (g:=fun c=>{ c with en:=if N=0 then T else c.en,pk:=max c.pk N }) hcp hcf hun]
    congr 1
    simp only[iW.p]
    congr 1
    by_cases hN0:N=0
    ·rw[if_pos (hkd2.2 hN0),if_pos hN0];rfl
    ·rw[if_neg (fun q=>hN0 (hkd2.1 q)),if_neg hN0]
   ·unfold Fh;rw[if_neg (eD q1),q4,g3]
    unfold evS
    rw[if_neg hz,Z0 hcp hcf hun]
    have:lh k T B N t=lh r.i T B N t:=by rw[hi]
    rw[this];rfl
   ·intro h
    refine⟨j,{ c with en:=if(lh r.i T B N t).kd=2 then(lh r.i T B N t).t else c.en,pk:=max c.pk (lh r.i T B N t).lv },by rw[g2];exact iF (aj.1 hc).1,by rw[g1,g0],hr',?_⟩
    show(if(lh r.i T B N t).kd=2 then _ else c.en)=never
    rw[if_neg (fun q=>h (hkd2.1 q))];exact he'
   ·intro i d hd hne
    rw[g2,fe]
    rw[if_neg]
    ·exact hd
    ·intro e;subst e;rw[hc]at hd;cases hd;exact hne hr'
theorem Vf {cs cs':List iW} (h:tH cs cs') (hn:(cs'.map zA).Nodup):(cs.map zA).Nodup:=by
 refine be.2 fun i j hi hj hij e=>?_
 simp only[aq]at hi hj
 simp only[gi]at e
 obtain⟨c,h1,h2⟩:=h i _ (af hi)
 obtain⟨d,k1,k2⟩:=h j _ (af hj)
 have:=Ja hn h1 k1 (by rw[h2,k2];exact e)
 omega
theorem Ye {H T b:Int} {sts:List (List Int)} {st:List pP} {s:pP} {n:Nat} {cs0:List iW} (hH:0≤H) (hT:oP st≤s.t∨st=[]) (hcs:BJ n (fun i=>qT H i st) (cs0.map iW.p)) (hnv:s.t≠never) (hsT:s.t=T) {rs ds:List jN} {cs:List iW} {es:List Ev} (h:Ir sts b H T cs0 rs ds cs es):
  ∀(all:List jN),rs<+:all→all.length=n→(∀(k:Nat) (r:jN),all[k]? =some r→r.i=k∧s.th.getD k EB=C2 sts r.x.r.pix b∧r.rc=iR (oP st) H (oO k st)∧r.lv=M8 H k st∧(qT H k st≠0→Bo cs0 r.op k))→(cs.map zA).Nodup→
  cs.map iW.p=EN H st s (cs0.map iW.p) rs.length∧es=Rc H st s (cs0.map iW.p) rs.length∧
  (∀(k:Nat) (d:jN),ds[k]? =some d→d.rc=iR (oP (st++[s])) H (oO k (st++[s]))∧d.lv=M8 H k (st++[s])∧(qT H k (st++[s])≠0→Bo cs d.op k))∧
  (∀(k:Nat) (r:jN),rs.length≤k→all[k]? =some r→qT H k st≠0→Bo cs r.op k):=by
 induction h with
 |nil=>
  intro all _ _ hall _
  exact⟨rfl,rfl,fun k d hd=>by simp at hd,fun k r _ hr=>(hall k r hr).2.2.2.2⟩
 |@snoc rs ds cs es r y h1 h2 ih=>
  intro all hpre hlen hall hnd
  have hkp:=zY h2
  have hnd1:=Vf hkp.1 hnd
  have hpre2:rs<+:all:=(List.prefix_append rs [r]).trans hpre
  obtain⟨i1,i2,i3,i4⟩:=ih all hpre2 hlen hall hnd1
  have hrl:all[rs.length]? =some r:=by
   obtain⟨z,hz⟩:=hpre
   rw[←hz,dp,aY (bA _)];simp
  obtain⟨a1,a2,a3,a4,a5⟩:=hall _ r hrl
  have hk:rs.length<n:=by rw[←hlen];exact(aj.1 hrl).1
  have hdl:=(sE h1).2.2.2.2
  have hok:BJ n (Q2 H st s rs.length) (cs.map iW.p):=by rw[i1];exact C9 hcs hnv _ (by omega)
  obtain⟨m1,m2,m3,m4,m5,m6⟩:=Wm hH hT hok hnd1 a1 hsT a2 a3 a4 (i4 _ r (bA _) hrl) h2
  have keepO:∀(k:Nat) (op:Option Nat),k≠rs.length→Bo cs op k→Bo y.cs op k:=fun k op hne ⟨j,c,g1,g2,g3,g4⟩=>⟨j,c,m6 j c g1 (by rw[g3];omega),g2,g3,g4⟩
  refine⟨?_,?_,?_,?_⟩
  ·rw[m1,i1,aZ,cu, ←hsT];rfl
  ·rw[m2,i1,i2,aZ,cu, ←hsT, ←a2];rfl
  ·intro k d hd
   rcases aK k ds.length with q|q
   ·rw[aJ q]at hd
    obtain⟨g1,g2,g3⟩:=i3 k d hd
    exact⟨g1,g2,fun hl=>keepO k _ (by omega) (g3 hl)⟩
   ·rw[aY q]at hd
    have e:k=ds.length:=by
     rcases aK (k-ds.length) 1 with z|z
     ·omega
     ·rw[aH (by simpa using z)]at hd;cases hd
    subst e
    simp at hd;subst hd
    rw[hdl]
    exact⟨m3,m4,m5⟩
  ·intro k r' hk' hr' hl
   rw[aZ,cu]at hk'
   exact keepO k _ (by omega) (i4 k r' (by omega) hr' hl)
structure Af (o:iG) (st:List pP):Prop where
 wf:Vp o
 ts:o.ts=st.map pP.t
 inc:o.ts.Pairwise (· < ·)
 tb:∀t,t∈o.ts→0≤t∧t≤4294967296
 SW:∀(k:Nat) (r:jN),o.rc[k]? =some r→r.rc=iR (oP st) o.hold (oO k st)∧r.lv=M8 o.hold k st∧(qT o.hold k st≠0→Bo o.cs r.op k)
 cs:o.cs.map iW.p=MZ o.hold o.rc.length st
theorem Af.hold {o:iG} {st:List pP} (h:Af o st):0≤o.hold∧o.hold≤86400:=by
 have:=Ad h.wf.spec
 exact this.2.2.2.2.2.2
theorem Zm {g:cU} {l:List RG} {a b d:Int} {o:iG} (h:Us g l a b d o) (hs:j0 ⟨g,l.map mS,a,b,d⟩=0) (hp:∀x,x∈l→x.r.pix.length<1000000000000):Af o []:=by
 have hw:=ade h hs hp
 obtain⟨h1,h2,h3,h4,h5,h6,h7,_,h8,h9⟩:=h
 refine⟨hw,by rw[h5];rfl,by rw[h5];exact wj,by rw[h5];simp,fun k r hr=>?_,by rw[h6];rfl⟩
 have:=h9.2 k r hr
 exact⟨this.2.2.1,this.2.2.2.1,fun q=>absurd rfl q⟩
theorem Mp {o:iG} {st:List pP} (h:o.ts=st.map pP.t) (hn:o.ts≠[]):ko o.ts=oP st:=by
 rcases qf st with q|⟨l,s,q⟩
 ·rw[q]at h;exact absurd h hn
 ·rw[h,q,qg,CM,bj]
  exact xu _ _
def Mf (o:iG) (l:List cZ):List xZ:=o.rc.map fun r=>C2 (nE o.g l o.lead o.step) r.x.r.pix o.step
theorem UU {o:iG} {st:List pP} {T:Int} {l:List cZ} {y:wW} (h:Af o st) (hp:CD o T l y) (hT1:0≤T) (hT2:T≤4294967296) (hlate:o.ts=[]∨ko o.ts<T) (hnd:(y.cs.map zA).Nodup):
  Af (y.o o T) (st++[⟨T,Mf o l⟩])∧y.es=P6 o.hold o.rc.length st ⟨T,Mf o l⟩:=by
 have hwf:=Yt h.wf hp
 obtain⟨hr,_⟩:=hp
 have hlT:oP st≤T∨st=[]:=by
  rcases hlate with q|q
  ·rw[h.ts]at q;exact .inr (rI.1 q)
  ·by_cases e:o.ts=[]
   ·rw[h.ts]at e;exact .inr (rI.1 e)
   ·rw[Mp h.ts e]at q;exact .inl (Int.le_of_lt q)
 have htn:∀s,s∈st→s.t≠never:=fun s hs=>by
  have:=h.tb s.t (by rw[h.ts];exact bE hs)
  unfold never;omega
 have hok:BJ o.rc.length (fun i=>qT o.hold i st) (o.cs.map iW.p):=by rw[h.cs];exact JF st htn
 have hgd:∀(k:Nat) (r:jN),o.rc[k]? =some r→(Mf o l).getD k EB=C2 (nE o.g l o.lead o.step) r.x.r.pix o.step:=fun k r hr=>by
  unfold Mf;rw[av,aw,hr];rfl
 obtain⟨s1,s2,s3,_⟩:=Ye (s:=⟨T,Mf o l⟩) h.hold.1 hlT hok (by unfold never;show T≠_;omega) rfl hr o.rc (List.prefix_refl _) rfl (fun k r hr=>⟨(h.wf.idx k r hr).2,hgd k r hr,h.SW k r hr⟩) hnd
 have hdl:=(sE hr).2.2.2.2
 refine⟨⟨hwf,by show o.ts++[T]=_;rw[h.ts,bj];rfl,?_,?_,s3,?_⟩,by rw[s2,h.cs];rfl⟩
 ·show(o.ts++[T]).Pairwise (· < ·)
  rw[List.pairwise_append]
  refine⟨h.inc,by simp,fun a ha b hb=>?_⟩
  simp at hb;subst hb
  rcases hlate with q|q
  ·rw[q]at ha;simp at ha
  ·refine Int.lt_of_le_of_lt ?_ q
   obtain⟨i,hi,e⟩:=da ha
   unfold ko
   rw[av,af (by omega:o.ts.length-1<o.ts.length)]
   simp only[dk]
   rw[←e]
   rcases aK i (o.ts.length-1) with z|z
   ·exact Int.le_of_lt (be.1 h.inc i _ hi (by omega) z)
   ·have:i=o.ts.length-1:=by omega
    subst this;exact dx _
 ·intro t ht
  rcases bZ.1 ht with q|q
  ·exact h.tb t q
  ·simp at q;subst q;exact⟨hT1,hT2⟩
 ·show y.cs.map iW.p=MZ o.hold y.ds.length (st++[_])
  rw[s1,JB,h.cs,hdl]
theorem C24:ef ae 24:=⟨_,Tryz.func24,by decide,rfl⟩
theorem C28:ef ae 28:=⟨_,Tryz.func28,by decide,rfl⟩
theorem X5:dF ae 114 241:=Tryz.underlying114
theorem C26:ef ae 26:=⟨_,Tryz.func26,by decide,rfl⟩
theorem L7:dF ae 110 117:=Tryz.underlying110
theorem alL:jX ae 241 5:=⟨⟨_,Tryz.underlying241,rfl⟩,by kernel_rfl⟩
theorem alQ:cj ae 241 (.agg #[.int .i64 0,.int .i64 0,.int .i64 0,.int .i64 0,.int .i64 0]):=by unfold cj;kernel_rfl
theorem ak8:(ae.info? 241).map (·.size)=some 5:=by kernel_rfl
theorem alU:jW ae 241 5 40 (.agg #[.int .i64 0,.int .i64 0,.int .i64 0,.int .i64 0,.int .i64 0]):=⟨by kernel_rfl,by kernel_rfl,by unfold cj;kernel_rfl,rfl,by decide⟩
theorem ano:ef ae 211:=⟨_,Tryz.func211,by decide,rfl⟩
theorem alK:ef ae 159:=⟨_,Tryz.func159,by decide,rfl⟩
theorem dP {w:World} {o:iG} (hh:Has w (kh o)) {c:iW} (hc:c∈o.cs):fk w ⟨c.b,0,none⟩ c.C:=iE ((St.inv hh 7 _ rfl).1 c.de (bE hc))
def P5 (ts:List Int) (T:Int):Nat:=ts.countP (fun t=>decide (t<T))+(if ts.contains T then 1 else 0)
def EC (ts lv:List Int) (T:Int):Int:=if P5 ts T=0 then 0 else lv.getD (P5 ts T-1) 0
theorem MN {ts:List Int} {T:Int}:P5 ts T≤ts.length:=by
 unfold P5
 have h:=vO (p:=fun t=>decide (t<T)) (l:=ts)
 split
 ·rename_i q
  have:ts.countP (fun t=>decide (t<T))<ts.length:=by
   rcases aK (ts.countP (fun t=>decide (t<T))) ts.length with q2|q2
   ·exact q2
   ·have:=List.countP_eq_length.1 (Nat.le_antisymm h q2) T (by simpa using q)
    simp at this
  omega
 ·omega
theorem Cv (l:List Int) (p:Option Addr) (c:Nat) (T:Int) (w:World) (hn:l.length<1000000000000) (hl:Ints w p l) (hs:l.Pairwise (· ≤ ·)):
  Calls ae 211 #[.slice p l.length c,.int .i64 T] w fun e w'=>e= .returned (.tuple #[.int .i64 (l.countP (fun t=>decide (t<T)):Nat),.bool (l.contains T)])∧St (bs w) [] w':=by
 cases hq:l with
 |nil=>exact(Tryz.slices_BinarySearch_int_empty p c T w).mono fun e w' h=>⟨h.1,St.of_eq h.2⟩
 |cons a l'=>
  rw[←hq]
  have h0:=Go.SL.Rows.some (n:=l.length) hl (by simp)
  have hp:=h0 (by rw[hq];simp)
  rw[hp]
  refine(Tryz.slices_BinarySearch_int (pb p) (po p) l.length c l T w (bA _) (by omega) (fun j hj=>?_) (by rw[du];exact hs)).mono fun e w' h=>?_
  ·have h1:=hl.cells j [.int .i64 (l.getD j 0)] (by rw[aw,getD_some (d:=(0:Int)) hj];rfl) 0 _ rfl
   have e:(⟨pb p,po p+j*1,none⟩:Addr).add 0=⟨pb p,po p+j,none⟩:=by simp [Addr.add]
   rw[e]at h1
   exact h1
  ·rw[du]at h
   obtain⟨h1,q,h2⟩:=h
   exact⟨h1,(St.refl w).same (by rw[h2];rfl) (by rw[h2];rfl) (by rw[h2];rfl) (by rw[h2];rfl)⟩
theorem X1 (o:iG) (w:World) (hn:o.rc.length<1000000) (hp:0<o.rc.length) (hcs:o.cs.length<1000000000) (hh:Has w (kh o)):
 Calls ae 28 #[jR o.b] w fun e w'=>∃x:Option Addr×Nat,True∧e= .returned (.slice x.1 o.cs.length x.2)∧St (bs w) [own 241 5 x.1 x.2 (o.cs.map iW.C)] w':=by
 have hrr:RO 1 Wb w o.pk o.cs:=RO.kg hh 6 rfl
 refine enter (vs:=[_]) (env:=[(0,_)]) Tryz.func28 rfl rfl rfl rfl ?_
 refine VC.q (VO.a rfl<|VO.n<|ak<|VC.q (VO.m rfl<|ah (bD (xs:=[_]) (vs:=[_]) C72 ⟨(.r rfl),trivial⟩ (fun w hw=>sH o w (by omega) (ky (hh.keep hw)))) rfl<|VO.n ?_))
 refine ay rfl (fun h7=>?_) (fun h7=>?_)
 · (exfalso;omega)
 ·
  refine aC (ag<|VC.q (VO.a rfl<|VO.n<|ak<|VC.q (VO.m rfl<|ah (bH (.r rfl)) rfl<|VO.f (r:=11) tI rfl<|ah (aB II (.r rfl) (aW (aU (off:=11) (ky hh) ⟨_,rfl⟩))) rfl<|ah (bW wD (.r rfl) rfl) rfl<|VO.m rfl<|aI ?_)))
  refine ag<|aG<|bY (α:=Nat×(List iW)×(Option Addr)×Nat) 0 (fun gx=>[(3,.slice gx.2.2.1 gx.2.1.length gx.2.2.2),(13,.int .i64 (gx.1:Nat))]) [(11,_),(12,_)] (fun gx=>[own 241 5 gx.2.2.1 gx.2.2.2 (gx.2.1.map iW.C)]) (fun gx=>gx.1≤o.cs.length∧gx.2.1=o.cs.take gx.1) (fun gx=>o.cs.length-gx.1) (0,[],none,0) (by exact⟨bG _,rfl⟩) (.c4 rfl rfl rfl rfl .nil) (fun _ h=>(h.fX 241 5)) ?_
  rintro ⟨j,xs,px_,cx_⟩ ⟨hj,hX⟩
  show VC _ _ _ _ _ ([(3,.slice px_ xs.length cx_),(13,.int .i64 (j:Nat))]++_) ([own 241 5 px_ cx_ (xs.map iW.C)]++_) _ _
  dsimp only at hj hX
  have hxl:xs.length=j:=by rw[hX];simp;omega
  refine VC.q (VO.t rfl<|VO.n<|ak<|ay rfl (fun h14=>?_) (fun h14=>?_))
  ·
   obtain⟨c,hr⟩:∃c,o.cs[j]? =some c:=⟨_,af (by omega)⟩
   have hrm:c∈o.cs:=al hr
   refine aC (ag<|ak<|aG<|VC.q (ah (cw wD JJ hrr.sm (.r rfl) (.r rfl) rfl (by omega)) rfl<|ah (aB vo (.r rfl) (fun w hw=>bq (off:=0) ((fun w2 hw2=>(hrr.keep w2 hw2).cells _ _ (by rw[aw,hr];rfl)) w hw) ⟨_,rfl⟩)) rfl<|VO.a rfl<|VO.n<|aF (VO.m rfl<|VO.m rfl<|ah (bH (.r rfl)) rfl<|ah (aM (vs:=[_,_,_,_,_]) alL (.r rfl) (fun w2 hw2=>dP (hh.keep hw2) hrm) rfl) rfl<|aD rfl<|fu (ps:=[(_,_)]) (vs:=[(_,_)]) (Z:=[_,_,_,_,_]) (C:=[_,_,_,_,_]) X5 alQ ak8 ⟨(.r rfl),trivial⟩ rfl rfl rfl rfl ⟨_,[_,_,_,_,_],[_,_,_,_,_],rfl,rfl,rfl,rfl,rfl⟩ fun b2=>aD rfl<|dM (c) 1 0 (fun R=>[_,R]) X5 X5 alU (.r rfl) (.r rfl) rfl rfl rfl rfl rfl rfl rfl (fun _=>rfl) rfl (by omega) fun p5 c5=>aD rfl<|aO (LO.as (.r rfl))<|aI ?_)))
   refine bB (ag<|aF (VO.p rfl rfl (by omega) (by omega) rfl<|VO.m rfl<|aI<|bn fun a w ha hw=>⟨(j+1,xs++[c],p5,c5),⟨by dsimp only;omega,by dsimp only;rw[cQ,hr,hX];rfl⟩,(by dsimp only;omega),ha.sub (.c4 rfl rfl rfl rfl .nil),hw.fO [1] rfl⟩))
  ·
   refine ca (aL (aL (cD (ag<|VC.q (VO.m rfl<|VO.a rfl<|VO.n<|aP (VE.s rfl rfl (fun w hw=>?_)))))))
   have hx2:xs=o.cs:=by rw[hX,dK (by omega)]
   rw[←hx2]
   exact⟨(px_,cx_),trivial,rfl,hw.fO [0] rfl⟩
theorem anj (o:iG) (r:jN) (T:Int) (w:World) (hr:r∈o.rc) (hlv:r.lv.length=o.ts.length) (hn:o.ts.length<1000000) (hs:o.ts.Pairwise (· ≤ ·)) (hh:Has w (kh o)):
 Calls ae 159 #[jR o.b,jR r.b,.int .i64 T] w fun e w'=>e= .returned (.int .i64 (EC o.ts r.lv T))∧St (bs w) [] w':=by
 have hrv:=(mI hh hr).2.2
 have hk:=MN (ts:=o.ts) (T:=T)
 unfold P5 at hk
 refine enter (vs:=[_,_,_]) (env:=[(0,_),(1,_),(2,_)]) Tryz.func159 rfl rfl rfl rfl ?_
 refine VC.q (VO.a rfl<|VO.n<|VC.q (VO.m rfl<|ah (bH (.r rfl)) rfl<|VO.f (r:=10) Am rfl<|ah (aB ij (.r rfl) (aW (aU (off:=10) (ky hh) ⟨_,rfl⟩))) rfl<|VO.m rfl<|ah (bD (xs:=[_,_]) (vs:=[_,_]) ano ⟨(.r rfl),(.r rfl),trivial⟩ (fun w hw=>Cv o.ts o.pt o.ct T w (by omega) (RO.kg (hh.keep hw) 5 rfl) hs)) rfl<|VO.m rfl<|ah (LO.ex (.r rfl) rfl) rfl<|ah (LO.ex (.r rfl) rfl) rfl<|VO.a rfl<|VO.a rfl<|VO.n<|ak ?_))
 refine VC.q (VO.m rfl<|VO.n<|ay rfl (fun h18=>?_) (fun h18=>?_))
 ·
  have hkA:(P5 o.ts T:Int)=(o.ts.countP (fun t=>decide (t<T)):Nat)+1:=by unfold P5;rw[if_pos h18];rfl
  refine aF (VO.m rfl<|VO.p rfl rfl (by omega) (by omega) rfl<|VO.a rfl<|VO.n<|ak<|VC.q (VO.m rfl<|ah (LO.eq (.r rfl) (.r rfl)) rfl<|VO.n<|ay rfl (fun h22=>?_) (fun h22=>?_)))
  ·
   refine VC.q (VO.a rfl<|VO.n<|aP (VE.cJ (VE.s rfl rfl (fun w hw=>?_))))
   refine⟨?_,hw.nil⟩
   simp only[gF]
   congr 2
   unfold EC
   first |rw[if_pos (by omega)]|rw[if_neg (by omega)]
  ·
   have hk2:=MN (ts:=o.ts) (T:=T)
   refine aC (ag<|VC.q (VO.m rfl<|ah (bH (.r rfl)) rfl<|VO.f (r:=4) xd rfl<|ah (aB ij (.r rfl) (aW (aU (off:=4) (mI hh hr).1 ⟨_,rfl⟩))) rfl<|VO.m rfl<|ah (LO.sub (.r rfl) (.r rfl) (wi (by omega) (by omega))) rfl<|ah (cw ei N3 hrv.sm (.r rfl) (.r rfl) (by omega) (by omega)) rfl<|ah (aB O3 (.r rfl) (fun w hw=>bq (off:=0) ((hrv.at 0 (j:=(P5 o.ts T-1)) (by omega)) w hw) ⟨_,rfl⟩)) rfl<|VO.a rfl<|VO.n<|aP (VE.s rfl rfl (fun w hw=>?_))))
   refine⟨?_,hw.nil⟩
   simp only[gF]
   congr 2
   unfold EC
   first |rw[if_pos (by omega)]|rw[if_neg (by omega)]
 ·
  have hkA:(P5 o.ts T:Int)=(o.ts.countP (fun t=>decide (t<T)):Nat):=by unfold P5;rw[if_neg h18];rfl
  refine aC (ag<|ak<|VC.q (VO.m rfl<|ah (LO.eq (.r rfl) (.r rfl)) rfl<|VO.n<|ay rfl (fun h22=>?_) (fun h22=>?_)))
  ·
   refine VC.q (VO.a rfl<|VO.n<|aP (VE.cJ (VE.s rfl rfl (fun w hw=>?_))))
   refine⟨?_,hw.nil⟩
   simp only[gF]
   congr 2
   unfold EC
   first |rw[if_pos (by omega)]|rw[if_neg (by omega)]
  ·
   have hk2:=MN (ts:=o.ts) (T:=T)
   refine aC (ag<|VC.q (VO.m rfl<|ah (bH (.r rfl)) rfl<|VO.f (r:=4) xd rfl<|ah (aB ij (.r rfl) (aW (aU (off:=4) (mI hh hr).1 ⟨_,rfl⟩))) rfl<|VO.m rfl<|ah (LO.sub (.r rfl) (.r rfl) (wi (by omega) (by omega))) rfl<|ah (cw ei N3 hrv.sm (.r rfl) (.r rfl) (by omega) (by omega)) rfl<|ah (aB O3 (.r rfl) (fun w hw=>bq (off:=0) ((hrv.at 0 (j:=(P5 o.ts T-1)) (by omega)) w hw) ⟨_,rfl⟩)) rfl<|VO.a rfl<|VO.n<|aP (VE.s rfl rfl (fun w hw=>?_))))
   refine⟨?_,hw.nil⟩
   simp only[gF]
   congr 2
   unfold EC
   first |rw[if_pos (by omega)]|rw[if_neg (by omega)]
theorem amY:dF ae 191 9:=Tryz.underlying191
theorem Z9:cj ae 9 (.string ra):=by unfold cj;kernel_rfl
theorem N9:(ae.info? 9).map (·.size)=some 1:=by kernel_rfl
theorem N5:(ae.info? 5).map (·.size)=some 1:=by kernel_rfl
def nmB (n:UInt8):ByteArray:=⟨#[n]⟩
def HV (i:Nat):ByteArray:=[nmB 97,nmB 98,nmB 99].getD i ra
theorem ahA {i:Nat} (h:i<3):∃r,[Value.string (nmB 97),.string (nmB 98),.string (nmB 99)].drop (0+i*1)=[.string (HV i)]++r:=by
 match i,h with
 |0,_=>exact⟨_,rfl⟩
 |1,_=>exact⟨_,rfl⟩
 |2,_=>exact⟨_,rfl⟩
theorem tm {n m:Int} (h:0≤n) (hm:0<m):0≤n.tmod m∧n.tmod m<m:=⟨Int.tmod_nonneg _ h,Int.tmod_lt_of_pos _ hm⟩
theorem St.Pj {β:Bs} {L:List cq} {w:World} (hw:St β L w) (i:Nat) {E z b:Nat} {C:Array Value} {rows:List (List Value)} (hi:L[i]? =some (de b (.cells C E))) (hC:C.toList=rows.flatten) (hz:∀r,r∈rows→r.length=z):St β (L.set i (own E z (some ⟨b,0,none⟩) rows.length rows)) w:=
 hw.conv i hi (fun k hk=>hk.2) ⟨bA _,hz,fun q=>(by cases q),fun a ha=>by
  cases ha
  exact⟨rfl,rfl,C,[],hw.inv i _ hi,by rw[List.append_nil];exact hC,by rw[←Array.length_toList,hC,km hz]⟩⟩
def Asc (n:Nat) (l:List Int):Prop:=l.Pairwise (· < ·)∧∀v,v∈l→0≤v∧v<(n:Int)
theorem M7 {n:Nat} (f:Nat→Bool):Asc n (((br n).filter f).map Int.ofNat):=by
 constructor
 ·rw[gl]
  exact(List.Pairwise.filter f List.pairwise_lt_range).imp fun h=>by exact Int.ofNat_lt.2 h
 ·intro v hv
  obtain⟨p,hp,e⟩:=List.mem_map.1 hv
  have:=List.mem_range.1 (List.mem_filter.1 hp).1
  subst e
  constructor
  ·exact dD p
  ·exact Int.ofNat_lt.2 this
theorem adO {n:Nat} {l:List Int} (h:Asc n l) {i:Nat} (h0:0<i) (hi:i<l.length):l.getD (i-1) 0<l.getD i 0:=by
 have:=be.1 h.1 (i-1) i (by omega) hi (by omega)
 rw[av,av,af hi,af (by omega:i-1<l.length)]
 exact this
theorem Zu {i j:Nat} (hi:i<3) (hj:j<3) (h:HV i=HV j):i=j:=by
 have key:∀i j:Fin 3,HV i.val=HV j.val→i=j:=by decide
 have:=key ⟨i,hi⟩ ⟨j,hj⟩ h
 exact congrArg Fin.val this
theorem aeT {i:Nat} (hi:i<3):A8 (HV i)=true:=by
 have key:∀i:Fin 3,A8 (HV i.val)=true:=by decide
 exact key ⟨i,hi⟩
def wF (s:Sp) (l:List cZ):List xZ:=s.fI.map fun r=>C2 (nE s.g l s.lead s.step) r.pix s.step
theorem adA {o:iG} (h:Vp o) (l:List cZ):Mf o l=wF o.sp l:=by
 unfold Mf wF iG.sp
 refine cO fun k=>?_
 simp only[aw]
 cases q:o.rc[k]? with
 |none=>
  have:o.rc.length≤k:=by
   rcases aK k o.rc.length with z|z
   ·rw[af z]at q;cases q
   ·exact z
  rw[aH (by rw[←h.len];exact this)];rfl
 |some r=>rw[(h.idx k r q).1];rfl
theorem U8 {o:iG} {w:World} (h:(bS (o.cs.map lf)).inv w):(o.cs.map zA).Nodup:=by
 have:=h.2
 rw[gl]at this
 unfold List.Nodup
 rw[gl]
 refine this.imp fun {a b} hab e=>?_
 exact hab a.b rfl (by show a.b=b.b;exact e)
theorem ac9 (o:iG) (st:List pP) (T:Int) (m:List CP) (pm:Option Addr) (cm:Nat) (w:World) (hh:Has w (kh o)) (hcl:∀{L:List cq} {v:World},St ⟨w,lu (kh o)⟩ L v→l0 v pm m) (hcn:m.length<1000000000) (h:Af o st) (hT1:0≤T) (hT3:T≤4294967296) (hlate:o.ts=[]∨ko o.ts<T) (hful:o.lg.length<256) (hlk:qE o.g (m.map iJ)=0):
  Calls ae 23 #[jR o.b,.int .i64 T,.slice pm m.length cm] w fun e w'=>∃y:wW,(CD o T (m.map iJ) y∧Af (y.o o T) (st++[⟨T,wF o.sp (m.map iJ)⟩])∧y.es=P6 o.hold o.rc.length st ⟨T,wF o.sp (m.map iJ)⟩)∧e= .returned (.tuple #[.slice y.pe y.es.length y.ce,.int .i64 0])∧St ⟨w,lu (kh o)⟩ (own 239 7 y.pe y.ce (y.es.map zP)::kh (y.o o T)) w':=by
 refine(aeZ o T m pm cm w hh hcl hcn h.wf hT1 hT3 hlate hful hlk).mono ?_
 rintro e w' ⟨y,hp,he,hs⟩
 have hnd:(y.cs.map zA).Nodup:=U8 (o:=y.o o T) (hs.inv 8 _ rfl)
 have:=UU h hp hT1 hT3 hlate hnd
 rw[adA h.wf]at this
 exact⟨y,⟨hp,this⟩,he,hs⟩
theorem ak6 {o:iG} (h:Vp o):o.rc.length=o.sp.fI.length:=by unfold iG.sp;rw[aq];exact h.len
theorem C29:ef ae 29:=⟨_,Tryz.func29,by decide,rfl⟩
theorem Nn {o:iG} {st:List pP} (h:Af o st):pG o=(br o.rc.length).map fun j=>qT o.hold j st:=by
 unfold pG
 refine cO fun j=>?_
 rw[aw,aw]
 rcases aK j o.rc.length with q|q
 ·rw[List.getElem?_range q,af q]
  have:=(h.SW j _ (af q)).2.1
  simp only[dH,this,JU]
 ·rw[aH q,aH (by simpa using q)];rfl
theorem JI {g:cU} {c:cZ} (h:fy g c=0):(∀n,n∈c.sure→n∈c.may)∧(∀n,n∈c.may→0≤n∧n≤g.wide*g.high-1):=by
 unfold fy at h
 split at h
 ·omega
 ·split at h
  ·omega
  ·split at h
   ·omega
   ·split at h
    ·omega
    ·split at h
     ·omega
     ·rename_i q
      have q:=cL.1 q
      constructor
      ·intro n hn
       obtain⟨i,hi,e⟩:=da hn
       have:=oW h i hi
       unfold rK at this
       have e2:c.sure.getD i 0=n:=by rw[av,af hi];exact e
       rw[e2]at this
       split at this
       ·omega
       ·split at this
        ·omega
        ·rename_i r;exact cL.1 r
      ·intro n hn
       obtain⟨i,hi,e⟩:=da hn
       have:=oW q i hi
       unfold lO at this
       have e2:c.may.getD i 0=n:=by rw[av,af hi];exact e
       rw[e2]at this
       split at this
       ·omega
       ·rename_i r;exact cL.1 r
def AtG (g:cU) (l:List Int) (x y:Int):Prop:=(0≤x∧x≤g.wide-1)∧(0≤y∧y≤g.high-1)∧y*g.wide+x∈l
section
variable {g:cU} {c:cZ} {p t:Int}
theorem Rf (hf:im c.fh) (hr1:0≤c.grow) (hr2:c.grow≤10000) (ht:0≤t) (hs1:fW c.sure (-1)=false):iL g c p t=2↔∀v u,(kf c.fh.c c.grow t≤v∧v≤ke c.fh.d c.grow t)→(kf c.fh.a c.grow t≤u∧u≤ke c.fh.b c.grow t)→AtG g c.sure (p.tmod g.wide-u) (p.tdiv g.wide-v):=by
 have e1:iL g c p t=2↔(mU g c p t).all (fW c.sure)=true:=by
  unfold iL;split
  ·simp_all
  ·rename_i h;constructor
   ·intro k;split at k<;>omega
   ·intro k;exact absurd k h
 rw[e1, ←Yz hf hr1 hr2 ht hs1]
 have ok:∀v u,okA g c p v u=true↔AtG g c.sure (p.tmod g.wide-u) (p.tdiv g.wide-v):=fun v u=>by
  unfold okA inG AtG fW;simp only[aQ,decide_eq_true_eq];exact and_assoc
 obtain⟨⟨hfa,hfb,hfc⟩,hfd,hfe,hff⟩:=hf
 have b1:=j5 (f:=c.fh.a) (c:=c) (by omega) (by omega) hr1 hr2 ht
 have b2:=j5 (f:=c.fh.b) (c:=c) (by omega) (by omega) hr1 hr2 ht
 have b3:=j5 (f:=c.fh.c) (c:=c) (by omega) (by omega) hr1 hr2 ht
 have b4:=j5 (f:=c.fh.d) (c:=c) (by omega) (by omega) hr1 hr2 ht
 constructor
 ·intro k v u hv hu
  exact(ok v u).1 (k v (by omega) (by omega) (jY.2 hv) u (by omega) (by omega) (jY.2 hu))
 ·intro k v h1 h2 h3 u h4 h5 h6
  exact(ok v u).2 (k v u (jY.1 h3) (jY.1 h6))
theorem Nl (hf:im c.fh) (hr1:0≤c.grow) (hr2:c.grow≤10000) (ht:0≤t) (hm1:fW c.may (-1)=false):(mU g c p t).any (fW c.may)=true↔∃v u,(kf c.fh.c c.grow t≤v∧v≤ke c.fh.d c.grow t)∧(kf c.fh.a c.grow t≤u∧u≤ke c.fh.b c.grow t)∧AtG g c.may (p.tmod g.wide-u) (p.tdiv g.wide-v):=by
 rw[←ZS hf hr1 hr2 ht hm1]
 have ok:∀v u,okM g c p v u=true↔AtG g c.may (p.tmod g.wide-u) (p.tdiv g.wide-v):=fun v u=>by
  unfold okM inG AtG fW;simp only[aQ,decide_eq_true_eq];exact and_assoc
 obtain⟨⟨hfa,hfb,hfc⟩,hfd,hfe,hff⟩:=hf
 have b1:=j5 (f:=c.fh.a) (c:=c) (by omega) (by omega) hr1 hr2 ht
 have b2:=j5 (f:=c.fh.b) (c:=c) (by omega) (by omega) hr1 hr2 ht
 have b3:=j5 (f:=c.fh.c) (c:=c) (by omega) (by omega) hr1 hr2 ht
 have b4:=j5 (f:=c.fh.d) (c:=c) (by omega) (by omega) hr1 hr2 ht
 constructor
 ·rintro ⟨v,h1,h2,h3,u,h4,h5,h6,h7⟩
  exact⟨v,u,jY.1 h3,jY.1 h6,(ok v u).1 h7⟩
 ·rintro ⟨v,u,hv,hu,h⟩
  exact⟨v,by omega,by omega,jY.2 hv,u,by omega,by omega,jY.2 hu,(ok v u).2 h⟩
end
section
variable {g:cU} {c:cZ} {p t vx vy u v e:Int}
end
def ThG (ls:List (List Int)) (pix:List Int) (v:Int) (n k:Nat):Prop:=∀m j,(m<n∧j<pix.length)∨(m=n∧j<k)→(ls.getD m []).getD (pix.getD j 0).toNat 0≤v
def ThA (ls:List (List Int)) (pix:List Int) (b:Int) (t:xZ) (n k:Nat):Prop:=(t.lv=0∧t.ld= -1∧t.px= -1)∨(0<t.lv∧∃m j:Nat,((m<n∧j<pix.length)∨(m=n∧j<k))∧t.ld=m*b∧t.px=pix.getD j 0∧t.lv=(ls.getD m []).getD t.px.toNat 0)
theorem Py {ls:List (List Int)} {pix:List Int} {b:Int} {n:Nat} {a:xZ} (h:ThG ls pix a.lv n 0∧ThA ls pix b a n 0∧0≤a.lv):∀k,k≤pix.length→ThG ls pix (wE (ls.getD n []) (n*b) pix a k).lv n k∧ThA ls pix b (wE (ls.getD n []) (n*b) pix a k) n k∧0≤(wE (ls.getD n []) (n*b) pix a k).lv
 |0,_=>h
 |k+1,hk=>by
  obtain⟨h1,h2,h3⟩:=Py h k (by omega)
  unfold wE
  generalize wE (ls.getD n []) (n*b) pix a k=t at*
  by_cases q:t.lv<(ls.getD n []).getD (pix.getD k 0).toNat 0
  ·rw[if_pos q]
   refine⟨fun m j hmj=>?_,.inr ⟨by show 0<(ls.getD n []).getD (pix.getD k 0).toNat 0;omega,n,k,.inr ⟨rfl,by omega⟩,rfl,rfl,rfl⟩,by show 0≤(ls.getD n []).getD (pix.getD k 0).toNat 0;omega⟩
   show _≤(ls.getD n []).getD (pix.getD k 0).toNat 0
   rcases hmj with z|⟨rfl,z⟩
   ·have:=h1 m j (.inl z);omega
   ·rcases aK j k with y|y
    ·have:=h1 m j (.inr ⟨rfl,y⟩);omega
    ·rw[show j=k by omega];exact dx _
  ·rw[if_neg q]
   refine⟨fun m j hmj=>?_,?_,h3⟩
   ·rcases hmj with z|⟨rfl,z⟩
    ·exact h1 m j (.inl z)
    ·rcases aK j k with y|y
     ·exact h1 m j (.inr ⟨rfl,y⟩)
     ·rw[show j=k by omega];omega
   ·rcases h2 with z|⟨z,m,j,hmj,r⟩
    ·exact .inl z
    ·refine .inr ⟨z,m,j,?_,r⟩
     rcases hmj with y|⟨y,y2⟩
     ·exact .inl y
     ·exact .inr ⟨y,by omega⟩
theorem B4 {ls:List (List Int)} {pix:List Int} {b:Int}:∀n,ThG ls pix (GF ls pix b n).lv n 0∧ThA ls pix b (GF ls pix b n) n 0∧0≤(GF ls pix b n).lv
 |0=>⟨fun m j h=>(by omega),.inl ⟨rfl,rfl,rfl⟩,dx _⟩
 |n+1=>by
  obtain⟨h1,h2,h3⟩:=Py (B4 (ls:=ls) (pix:=pix) (b:=b) n) pix.length (bA _)
  unfold GF
  refine⟨fun m j h=>?_,?_,h3⟩
  ·refine h1 m j ?_
   rcases h with⟨h,k⟩|⟨_,h⟩
   ·rcases aK m n with y|y
    ·exact .inl ⟨y,k⟩
    ·exact .inr ⟨by omega,k⟩
   ·omega
  ·rcases h2 with z|⟨z,m,j,hmj,r⟩
   ·exact .inl z
   ·refine .inr ⟨z,m,j,.inl ?_,r⟩
    rcases hmj with y|⟨y,y2⟩
    ·exact⟨by omega,y.2⟩
    ·exact⟨by omega,y2⟩
theorem ads {ls:List (List Int)} {pix:List Int} {b:Int} {m j:Nat} (hm:m<ls.length) (hj:j<pix.length):(ls.getD m []).getD (pix.getD j 0).toNat 0≤(C2 ls pix b).lv:=(B4 ls.length).1 m j (.inl ⟨hm,hj⟩)
theorem YR {ls:List (List Int)} {pix:List Int} {b:Int}:((C2 ls pix b).lv=0∧(C2 ls pix b).ld= -1∧(C2 ls pix b).px= -1)∨(0<(C2 ls pix b).lv∧∃m j:Nat,m<ls.length∧j<pix.length∧(C2 ls pix b).ld=m*b∧(C2 ls pix b).px=pix.getD j 0∧(C2 ls pix b).lv=(ls.getD m []).getD (C2 ls pix b).px.toNat 0):=by
 rcases(B4 (ls:=ls) (pix:=pix) (b:=b) ls.length).2.1 with z|⟨z,m,j,hmj,r⟩
 ·exact .inl z
 ·refine .inr ⟨z,m,j,?_,?_,r⟩
  ·omega
  ·omega
theorem Hh {f:cZ→Int}:∀(l:List cZ) (m:Int),m≤l.foldl (fun m c=>max m (f c)) m
 |[],m=>dx _
 |x::l,m=>by have:=Hh (f:=f) l (max m (f x));simp only[mK];omega
theorem Ia {f:cZ→Int}:∀(l:List cZ) (m:Int) {x:cZ},x∈l→f x≤l.foldl (fun m c=>max m (f c)) m
 |y::l,m,x,h=>by
  rcases cA.1 h with rfl|q
  ·have:=Hh (f:=f) l (max m (f x));simp only[mK];omega
  ·exact Ia l _ q
theorem Jf {f:cZ→Int}:∀(l:List cZ) (m:Int),l.foldl (fun m c=>max m (f c)) m=m∨∃x,x∈l∧f x=l.foldl (fun m c=>max m (f c)) m
 |[],m=>.inl rfl
 |x::l,m=>by
  rcases Jf (f:=f) l (max m (f x)) with h|⟨y,h,k⟩
  ·simp only[mK]
   rw[h]
   rcases mZ m (f x) with q|q
   ·exact .inr ⟨x,by simp,by omega⟩
   ·exact .inl (by omega)
  ·exact .inr ⟨y,by simp [h],k⟩
section
variable {l:List cZ} {a b:Int} {m:Nat}
theorem JN {g:cU} {t p:Int} {c:cZ} (h:c∈l):iL g c p t≤iY g l t p:=Ia l 0 h
theorem GZ {g:cU} {t p:Int} (h:iY g l t p≠0):∃c,c∈l∧iL g c p t=iY g l t p:=by
 rcases Jf (f:=fun c=>iL g c p t) l 0 with q|q
 ·exact absurd q h
 ·exact q
end
theorem Rh (g:cU) (c:cZ) (p t:Int):iL g c p t=0∨iL g c p t=1∨iL g c p t=2:=by
 unfold iL
 split
 ·exact .inr (.inr rfl)
 ·split
  ·exact .inr (.inl rfl)
  ·exact .inl rfl
section
variable {l:List cZ} {a b:Int} {pix:List Int} {m j:Nat} {c:cZ}
end
end Go.Proofs.YtffbohecdocajaaGreat
namespace Go.Proofs.YtffbohecdocajaaGreat
open Go.SL Go.Proofs Go.qO Go.Cell
set_option linter.unusedVariables false
structure LA (x:mj) (l:List cZ):Prop where
 ok:∀c,c∈l→fy (gw x) c=0
 n:l.length≤64
 gr:∀c,c∈l→c.grow=0
 may:∀p,p<gA x*kK x→wR x 1 p=true→∃c,c∈l∧(p:Int)∈c.may
 sure:∀c,c∈l→∀p:Nat,p<gA x*kK x→(p:Int)∈c.sure→wR x 1 p=true
 fl:∀c,c∈l→(c.fh.a*(iH x:Int)≤1000000*B2 x∧1000000*B2 x≤c.fh.b*(iH x:Int))∧(c.fh.c*(iH x:Int)≤1000000*Cb x∧1000000*Cb x≤c.fh.d*(iH x:Int))
theorem x8 {lo hi t m:Int} (h1:lo*t≤1000000*m) (h2:1000000*m≤hi*t):kf lo 0 t≤m∧m≤ke hi 0 t:=by
 unfold kf ke
 rw[Int.sub_zero,Int.add_zero]
 generalize lo*t=u at h1 ⊢
 generalize hi*t=v at h2 ⊢
 omega
theorem aa9 {g:cU} {c:cZ} (h:fy g c=0):im c.fh∧0≤c.grow∧c.grow≤10000:=by
 unfold fy at h
 by_cases h1:¬cF g
 ·rw[if_pos h1]at h;exact absurd h (by decide)
 ·rw[if_neg h1]at h
  by_cases h2:¬im c.fh
  ·rw[if_pos h2]at h;exact absurd h (by decide)
  ·rw[if_neg h2]at h
   by_cases h3:¬(0≤c.grow∧c.grow≤10000)
   ·rw[if_pos h3]at h;exact absurd h (by decide)
   ·exact⟨cL.1 h2,cL.1 h3⟩
section
variable {x:mj} {l:List cZ} {n p q:Nat} {a b t:Int}
theorem Pf (h:wz (gA x) (kK x) a b q p):(((p / gA x:Nat):Int)-b)*(gA x:Int)+(((p%gA x:Nat):Int)-a)=(q:Int):=by
 have hu:=h.hu;have hv:=h.hv
 have hw:=(sR x).1
 rw[show((p / gA x:Nat):Int)-b=((q / gA x:Nat):Int) by omega,show((p%gA x:Nat):Int)-a=((q%gA x:Nat):Int) by omega, ←Int.natCast_mul, ←Int.natCast_add]
 have:=nH q (gA x)
 rw[Nat.mul_comm (q / gA x)]
 exact congrArg Int.ofNat this
theorem Ts (h:LA x l) (ht:0≤t) (hf:∀c,c∈l→(c.fh.a*t≤1000000*a∧1000000*a≤c.fh.b*t)∧(c.fh.c*t≤1000000*b∧1000000*b≤c.fh.d*t)) (hp:p<gA x*kK x)
  (hin:wR x n p=true→∃q,wz (gA x) (kK x) a b q p) (hmv:∀q,wz (gA x) (kK x) a b q p→wR x n p=wR x 1 q):
  (wR x n p=true→iY (gw x) l t p≠0)∧(iY (gw x) l t p=2→wR x n p=true):=by
 have ew:((p:Int)).tmod (gw x).wide=((p%gA x:Nat):Int):=rfl
 have eh:((p:Int)).tdiv (gw x).wide=((p / gA x:Nat):Int):=rfl
 constructor
 ·intro hi
  obtain⟨q,hq⟩:=hin hi
  obtain⟨c,hc,hcm⟩:=h.may q hq.hp (by rw[←hmv q hq];exact hi)
  have hok:=h.ok c hc
  obtain⟨hfl,hg1,hg2⟩:=aa9 hok
  have hm:=(JI hok).2
  have hm1:fW c.may (-1)=false:=decide_eq_false fun z=>by have:=(hm _ z).1;omega
  obtain⟨f1,f2⟩:=hf c hc
  have hx:=x8 f1.1 f1.2
  have hy:=x8 f2.1 f2.2
  have hany:(mU (gw x) c p t).any (fW c.may)=true:=by
   refine(Nl hfl hg1 hg2 ht hm1).2 ⟨b,a,by rw[h.gr c hc];exact hy,by rw[h.gr c hc];exact hx,?_⟩
   rw[ew,eh]
   have hu:=hq.hu;have hv:=hq.hv
   have hwq:q%gA x<gA x:=Nat.mod_lt _ (by have:=(sR x).1;omega)
   have hhq:q / gA x<kK x:=jM hq.hp
   refine⟨⟨?_,?_⟩,⟨?_,?_⟩,?_⟩
   ·rw[show((p%gA x:Nat):Int)-a=((q%gA x:Nat):Int) by omega];exact dD _
   ·rw[show((p%gA x:Nat):Int)-a=((q%gA x:Nat):Int) by omega];show _≤(gA x:Int)-1;omega
   ·rw[show((p / gA x:Nat):Int)-b=((q / gA x:Nat):Int) by omega];exact dD _
   ·rw[show((p / gA x:Nat):Int)-b=((q / gA x:Nat):Int) by omega];show _≤(kK x:Int)-1
    have:q / gA x+1≤kK x:=hhq
    have h2:((q / gA x+1:Nat):Int)≤((kK x:Nat):Int):=by exact_mod_cast this
    rw[Int.natCast_add]at h2
    omega
   ·have e:=Pf hq
    show _*(gA x:Int)+_∈c.may
    rw[e];exact hcm
  have hs:iL (gw x) c p t≠0:=by
   unfold iL
   rw[if_pos hany];split<;>decide
  have h1:=JN (g:=gw x) (t:=t) (p:=p) hc
  rcases Rh (gw x) c p t with z|z|z
  ·exact absurd z hs
  ·omega
  ·omega
 ·intro h2
  obtain⟨c,hc,hs⟩:=GZ (g:=gw x) (t:=t) (p:=p) (l:=l) (by omega)
  rw[h2]at hs
  have hok:=h.ok c hc
  obtain⟨hfl,hg1,hg2⟩:=aa9 hok
  obtain⟨hsm,hm⟩:=JI hok
  have hs1:fW c.sure (-1)=false:=decide_eq_false fun z=>by have:=(hm _ (hsm _ z)).1;omega
  obtain⟨f1,f2⟩:=hf c hc
  have hx:=x8 f1.1 f1.2
  have hy:=x8 f2.1 f2.2
  obtain⟨g1,g2,g3⟩:=(Rf hfl hg1 hg2 ht hs1).1 hs b a (by rw[h.gr c hc];exact hy) (by rw[h.gr c hc];exact hx)
  rw[ew]at g1;rw[eh]at g2;rw[ew,eh]at g3
  obtain⟨g1a,g1b⟩:=g1
  obtain⟨g2a,g2b⟩:=g2
  have g1c:((p%gA x:Nat):Int)-a≤(gA x:Int)-1:=g1b
  have g2c:((p / gA x:Nat):Int)-b≤(kK x:Int)-1:=g2b
  have hq:=VG (W:=gA x) (H:=kK x) (x:= -a) (y:= -b) hp (by constructor<;>omega)
  have hq2:=hq.neg
  rw[oi,oi]at hq2
  rw[hmv _ hq2]
  have e:=Pf hq2
  refine h.sure c hc _ hq2.hp ?_
  rw[←e]
  exact g3
theorem Y3 (h:wR x n p=true):(0≤oq x n p∧oq x n p<gA x)∧(0≤nB x n p∧nB x n p<kK x):=by
 unfold wR at h
 split at h
 ·exact absurd h (by decide)
 ·rename_i z;omega
theorem TL (h:LA x l) (hp:p<gA x*kK x):(wR x 1 p=true→iY (gw x) l 0 p≠0)∧(iY (gw x) l 0 p=2→wR x 1 p=true):=by
 refine Ts (a:=0) (b:=0) h (dx _) (fun c hc=>by simp) hp (fun _=>⟨p,hp,hp,by omega,by omega⟩) fun q hq=>?_
 have e:p=q:=by
  have h1:q%gA x=p%gA x:=by have:=hq.hu;omega
  have h2:q / gA x=p / gA x:=by have:=hq.hv;omega
  have d1:=nH q (gA x)
  have d2:=nH p (gA x)
  rw[h1,h2]at d1
  omega
 rw[e]
theorem P3 (h:LA x l) (hp:p<gA x*kK x):(wR x 2 p=true→iY (gw x) l (iH x:Int) p≠0)∧(iY (gw x) l (iH x:Int) p=2→wR x 2 p=true):=by
 refine Ts (a:=B2 x) (b:=Cb x) h (dD _) h.fl hp (fun hi=>?_) fun q hq=>aa0 (n:=1) hq
 obtain⟨⟨h1,h2⟩,h3,h4⟩:=Y3 hi
 unfold oq at h1 h2;unfold nB at h3 h4
 have hw:=(sR x).1
 have hwp:p%gA x<gA x:=Nat.mod_lt _ (by omega)
 have hhp:p / gA x<kK x:=jM hp
 have c1:((p / gA x:Nat):Int)<(kK x:Int):=by exact_mod_cast hhp
 have c0:(0:Int)≤((p / gA x:Nat):Int):=dD _
 have c2:((p%gA x:Nat):Int)<(gA x:Int):=by exact_mod_cast hwp
 have c3:(0:Int)≤((p%gA x:Nat):Int):=dD _
 obtain⟨pv,hpv⟩:∃z,z=((p / gA x:Nat):Int):=⟨_,rfl⟩
 rw[←hpv]at c0 c1 h3 h4
 have hq:=VG (W:=gA x) (H:=kK x) (x:= -B2 x) (y:= -Cb x) hp (by rw[←hpv];refine⟨?_,?_,?_,?_⟩<;>omega)
 have hq2:=hq.neg
 rw[oi,oi]at hq2
 exact⟨_,hq2⟩
end
end Go.Proofs.YtffbohecdocajaaGreat
namespace Go.Proofs.YtffbohecdocajaaGreat
open Go.SL Go.Proofs Go.qO
set_option linter.unusedVariables false
structure Dn where
 t:Int
 g:cU
 p:Option Addr
 c:Nat
 vs:List Span
 lv:Int
abbrev Dn.cells (n:Dn):List Value:=[.int .i64 n.t,.int .i64 n.g.x,.int .i64 n.g.y,.int .i64 n.g.size,.int .i64 n.g.wide,.int .i64 n.g.high,.slice n.p n.vs.length n.c,.int .i64 n.lv]
structure Nt where
 t:Int
 vs:List Span
 lv:Int
def Dn.n (x:Dn):Nt:=⟨x.t,x.vs,x.lv⟩
def p9 (pix:List Int) (vs:List Span) (lv:Int):Bool:=pix.any fun p=>decide (lv≤(vs.getD p.toNat ⟨0,0⟩).lo)
def vh (pix:List Int) (vs:List Span) (lv:Int):Bool:=pix.any fun p=>decide (lv≤(vs.getD p.toNat ⟨0,0⟩).hi)
theorem IW {pix:List Int} {f:Int→Bool} {j:Nat} {p:Int} (h:pix[j]? =some p):(pix.take (j+1)).any f=((pix.take j).any f||f p):=by
 rw[cQ,h,List.any_append];simp
structure FQ where
 h:Int
 m:Int
 a:Int
 q:Int
 o:Int
 lo:Int
 hi:Int
abbrev FQ.cells (x:FQ):List Value:=[.int .i64 x.h,.int .i64 x.m,.int .i64 x.a,.int .i64 x.q,.int .i64 x.o,.int .i64 x.lo,.int .i64 x.hi]
def kN (i c on:Bool):Nat:=if i&&on then 0 else if i then 1 else if c then 2 else if on then 3 else 4
def Fz (pix:List Int) (on:Int→Bool) (n:Nt):Nat:=kN (p9 pix n.vs n.lv) (vh pix n.vs n.lv) (on n.t)
def qm (pix:List Int) (on:Int→Bool) (k:Nat) (ns:List Nt):Int:=ns.countP fun n=>decide (Fz pix on n=k)
theorem qL {pix:List Int} {on:Int→Bool} {k:Nat} {ns:List Nt}:0≤qm pix on k ns∧qm pix on k ns≤ns.length:=by
 unfold qm
 have:=vO (p:=fun n=>decide (Fz pix on n=k)) (l:=ns)
 omega
theorem ael {pix:List Int} {on:Int→Bool} {k:Nat} {ns:List Nt} {n:Nt} (h:Fz pix on n=k):qm pix on k (ns++[n])=qm pix on k ns+1:=by
 unfold qm;rw[zE];simp [h]
theorem adh {pix:List Int} {on:Int→Bool} {k:Nat} {ns:List Nt} {n:Nt} (h:Fz pix on n≠k):qm pix on k (ns++[n])=qm pix on k ns:=by
 unfold qm;rw[zE];simp [h]
def ZJ (pix:List Int) (on:Int→Bool) (ns:List Nt) (x:FQ):Prop:=x.h=qm pix on 0 ns∧x.m=qm pix on 1 ns∧x.o=qm pix on 2 ns∧x.a=qm pix on 3 ns∧x.q=qm pix on 4 ns
def RU (k:Nat) (x:FQ):FQ:=match k with
 |0=>{ x with h:=x.h+1 }
 |1=>{ x with m:=x.m+1 }
 |2=>{ x with o:=x.o+1 }
 |3=>{ x with a:=x.a+1 }
 |_=>{ x with q:=x.q+1 }
theorem ahx {i c on:Bool}:kN i c on<5:=by cases i<;>cases c<;>cases on<;>decide
theorem uX {pix:List Int} {on:Int→Bool} {ns:List Nt} {n:Nt} {x:FQ} {k:Nat} (h:ZJ pix on ns x) (hk:Fz pix on n=k):ZJ pix on (ns++[n]) (RU k x):=by
 obtain⟨h0,h1,h2,h3,h4⟩:=h
 have hlt:k<5:=by rw[←hk];exact ahx
 have y:∀j,k=j→qm pix on j (ns++[n])=qm pix on j ns+1:=fun j e=>ael (by rw[hk,e])
 have z:∀j,k≠j→qm pix on j (ns++[n])=qm pix on j ns:=fun j e=>adh (by rw[hk];exact e)
 match k,hlt with
 |0,_=>exact⟨by rw[y 0 rfl, ←h0];rfl,by rw[z 1 (by decide)];exact h1,by rw[z 2 (by decide)];exact h2,by rw[z 3 (by decide)];exact h3,by rw[z 4 (by decide)];exact h4⟩
 |1,_=>exact⟨by rw[z 0 (by decide)];exact h0,by rw[y 1 rfl, ←h1];rfl,by rw[z 2 (by decide)];exact h2,by rw[z 3 (by decide)];exact h3,by rw[z 4 (by decide)];exact h4⟩
 |2,_=>exact⟨by rw[z 0 (by decide)];exact h0,by rw[z 1 (by decide)];exact h1,by rw[y 2 rfl, ←h2];rfl,by rw[z 3 (by decide)];exact h3,by rw[z 4 (by decide)];exact h4⟩
 |3,_=>exact⟨by rw[z 0 (by decide)];exact h0,by rw[z 1 (by decide)];exact h1,by rw[z 2 (by decide)];exact h2,by rw[y 3 rfl, ←h3];rfl,by rw[z 4 (by decide)];exact h4⟩
 |4,_=>exact⟨by rw[z 0 (by decide)];exact h0,by rw[z 1 (by decide)];exact h1,by rw[z 2 (by decide)];exact h2,by rw[z 3 (by decide)];exact h3,by rw[y 4 rfl, ←h4];rfl⟩
def PK (pix:List Int) (c:Cs) (n:Nt):Bool:=(p9 pix n.vs n.lv&&decide (c.bg≤n.t))&&decide (n.t<c.en)
def abv (m:Option Int) (v:Int):Option Int:=match m with
 |none=>some v
 |some u=>some (min u v)
def nQ (pix:List Int) (c:Cs) (ns:List Nt):Option Int:=ns.foldl (fun m n=>if PK pix c n=true then abv m (n.t-c.bg) else m) none
theorem u5 {pix:List Int} {c:Cs} {ns:List Nt} {n:Nt}:nQ pix c (ns++[n])=if PK pix c n=true then abv (nQ pix c ns) (n.t-c.bg) else nQ pix c ns:=by unfold nQ;rw[kB];rfl
def nD (k:Int) (pix:List Int) (cs:List Cs) (ns:List Nt) (i j:Nat):Int→Option Int:=fun n=>
 if 1≤n∧n≤(cs.length:Int) then(if(cs.getD (n.toNat-1) zC).rg=k then nQ pix (cs.getD (n.toNat-1) zC) (if n.toNat-1<j then ns.take (i+1) else ns.take i) else none) else none
section
variable {k:Int} {pix:List Int} {cs:List Cs} {ns:List Nt} {i j:Nat}
theorem acW:nD k pix cs ns 0 0=fun _=>none:=by
 funext n
 unfold nD
 split
 ·split
  ·rw[if_neg (by omega)];rfl
  ·rfl
 ·rfl
theorem sP:nD k pix cs ns i cs.length=nD k pix cs ns (i+1) 0:=by
 funext n
 unfold nD
 split
 ·split
  ·rw[if_pos (by omega),if_neg (by omega)]
  ·rfl
 ·rfl
theorem yE {c:Cs} (hc:cs[j]? =some c) (hr:c.rg=k):nD k pix cs ns i j ((j:Int)+1)=nQ pix c (ns.take i):=by
 have hj:=(aj.1 hc).1
 unfold nD
 rw[if_pos (by omega),show((j:Int)+1).toNat-1=j by omega,av,hc]
 simp only[dk]
 rw[if_pos hr,if_neg (by omega)]
theorem sI {c:Cs} {n:Nt} (hc:cs[j]? =some c) (hn:ns[i]? =some n) (h:¬(c.rg=k∧PK pix c n=true)):nD k pix cs ns i (j+1)=nD k pix cs ns i j:=by
 funext m
 unfold nD
 split
 ·rename_i q
  by_cases e:m.toNat-1=j
  ·rw[e,av,hc]
   simp only[dk]
   split
   ·rename_i q2
    rw[if_pos (by omega),if_neg (by omega),cQ,hn]
    simp only[nL]
    rw[u5,if_neg (fun z=>h ⟨q2,z⟩)]
   ·rfl
  ·by_cases q2:m.toNat-1<j
   ·rw[if_pos (show m.toNat-1<j+1 by omega),if_pos q2]
   ·rw[if_neg (show ¬m.toNat-1<j+1 by omega),if_neg q2]
 ·rfl
theorem sN {c:Cs} {n:Nt} {u:Int} (hc:cs[j]? =some c) (hn:ns[i]? =some n) (hr:c.rg=k) (h:PK pix c n=true) (hu:nQ pix c (ns.take i)=some u) (hle:u≤n.t-c.bg):nD k pix cs ns i (j+1)=nD k pix cs ns i j:=by
 funext m
 unfold nD
 split
 ·rename_i q
  by_cases e:m.toNat-1=j
  ·rw[e,av,hc]
   simp only[dk]
   rw[if_pos hr,if_pos hr,if_pos (by omega),if_neg (by omega),cQ,hn]
   simp only[nL]
   rw[u5,if_pos h,hu]
   show some (min u (n.t-c.bg))=some u
   rw[uw hle]
  ·by_cases q2:m.toNat-1<j
   ·rw[if_pos (show m.toNat-1<j+1 by omega),if_pos q2]
   ·rw[if_neg (show ¬m.toNat-1<j+1 by omega),if_neg q2]
 ·rfl
theorem uJ {c:Cs} {n:Nt} (hc:cs[j]? =some c) (hn:ns[i]? =some n) (hr:c.rg=k) (h:PK pix c n=true) (hu:nQ pix c (ns.take i)=none∨∃u,nQ pix c (ns.take i)=some u∧n.t-c.bg<u):nD k pix cs ns i (j+1)=Gv (nD k pix cs ns i j) ((j:Int)+1) (n.t-c.bg):=by
 have hj:=(aj.1 hc).1
 funext m
 unfold Gv
 by_cases e:m=(j:Int)+1
 ·rw[if_pos e]
  unfold nD
  rw[if_pos (by omega),show m.toNat-1=j by omega,av,hc]
  simp only[dk]
  rw[if_pos hr,if_pos (by omega),cQ,hn]
  simp only[nL]
  rw[u5,if_pos h]
  rcases hu with z|⟨u,z,z2⟩
  ·rw[z];rfl
  ·rw[z]
   show some (min u (n.t-c.bg))=_
   rw[td (by omega)]
 ·rw[if_neg e]
  unfold nD
  split
  ·have e2:m.toNat-1≠j:=by omega
   by_cases q2:m.toNat-1<j
   ·rw[if_pos (show m.toNat-1<j+1 by omega),if_pos q2]
   ·rw[if_neg (show ¬m.toNat-1<j+1 by omega),if_neg q2]
  ·rfl
end
def tK (k:Int) (pix:List Int) (cs:List Cs) (ns:List Nt):List Int:=cs.filterMap fun c=>if c.rg=k then nQ pix c ns else none
def Fp:List Int→Int×Int
 |[]=>(0,0)
 |x::l=>(l.foldl min x,l.foldl max x)
theorem akN (l:List Int):∀(x:Int),l.foldl min x≤x∧(∀y,y∈l→l.foldl min x≤y)∧(l.foldl min x=x∨l.foldl min x∈l):=by
 induction l with
 |nil=>intro x;exact⟨dx _,fun y h=>(by cases h),.inl rfl⟩
 |cons a l ih=>
  intro x
  obtain⟨h1,h2,h3⟩:=ih (min x a)
  simp only[mK]
  refine⟨by omega,fun y hy=>?_,?_⟩
  ·rcases cA.1 hy with rfl|q
   ·omega
   ·exact h2 y q
  ·rcases h3 with q|q
   ·rcases mZ x a with z|z
    ·left;rw[q,uw z]
    ·right;rw[q,td z];exact gI
   ·right;exact gd _ q
theorem am5 (l:List Int):∀(x:Int),x≤l.foldl max x∧(∀y,y∈l→y≤l.foldl max x)∧(l.foldl max x=x∨l.foldl max x∈l):=by
 induction l with
 |nil=>intro x;exact⟨dx _,fun y h=>(by cases h),.inl rfl⟩
 |cons a l ih=>
  intro x
  obtain⟨h1,h2,h3⟩:=ih (max x a)
  simp only[mK]
  refine⟨by omega,fun y hy=>?_,?_⟩
  ·rcases cA.1 hy with rfl|q
   ·omega
   ·exact h2 y q
  ·rcases h3 with q|q
   ·rcases mZ x a with z|z
    ·right;rw[q,AT z];exact gI
    ·left;rw[q,Int.max_eq_left z]
   ·right;exact gd _ q
def Gp (S:Int→Prop) (lo hi:Int):Prop:=(S lo∧S hi∧∀v,S v→lo≤v∧v≤hi)∨((∀v,¬S v)∧lo=0∧hi=0)
theorem UM (l:List Int):Gp (fun v=>v∈l) (Fp l).1 (Fp l).2:=by
 cases l with
 |nil=>exact .inr ⟨fun v h=>(by cases h),rfl,rfl⟩
 |cons x l=>
  obtain⟨a1,a2,a3⟩:=akN l x
  obtain⟨b1,b2,b3⟩:=am5 l x
  refine .inl ⟨?_,?_,fun v hv=>?_⟩
  ·show l.foldl min x∈x::l
   rcases a3 with q|q
   ·rw[q];exact gI
   ·exact gd _ q
  ·show l.foldl max x∈x::l
   rcases b3 with q|q
   ·rw[q];exact gI
   ·exact gd _ q
  ·show l.foldl min x≤v∧v≤l.foldl max x
   rcases cA.1 hv with rfl|q
   ·exact⟨a1,b1⟩
   ·exact⟨a2 v q,b2 v q⟩
theorem YJ {S T:Int→Prop} {a b c d:Int} (h:Gp S a b) (k:Gp T c d) (e:∀v,S v↔T v):a=c∧b=d:=by
 rcases h with⟨h1,h2,h3⟩|⟨h1,h2,h3⟩
 ·rcases k with⟨k1,k2,k3⟩|⟨k1,k2,k3⟩
  ·have q1:=h3 c ((e c).2 k1)
   have q2:=h3 d ((e d).2 k2)
   have q3:=k3 a ((e a).1 h1)
   have q4:=k3 b ((e b).1 h2)
   omega
  ·exact absurd ((e a).1 h1) (k1 a)
 ·rcases k with⟨k1,k2,k3⟩|⟨k1,k2,k3⟩
  ·exact absurd ((e c).2 k1) (h1 c)
  ·omega
theorem Fb {k:Int} {pix:List Int} {cs:List Cs} {ns:List Nt} {v:Int}:v∈tK k pix cs ns↔∃n,nD k pix cs ns ns.length 0 n=some v:=by
 unfold tK
 rw[List.mem_filterMap]
 constructor
 ·rintro ⟨c,hc,e⟩
  obtain⟨j,hj⟩:=cV.1 hc
  have hjl:=(aj.1 hj).1
  refine⟨(j:Int)+1,?_⟩
  split at e
  ·rename_i q
   unfold nD
   rw[if_pos (by omega),show((j:Int)+1).toNat-1=j by omega,av,hj]
   simp only[dk]
   rw[if_pos q,if_neg (by omega),du];exact e
  ·cases e
 ·rintro ⟨n,e⟩
  unfold nD at e
  split at e
  ·split at e
   ·rename_i q1 q2
    rw[if_neg (by omega),du]at e
    refine⟨cs.getD (n.toNat-1) zC,kQ (by omega),?_⟩
    rw[if_pos q2];exact e
   ·cases e
  ·cases e
def IL (k:Int) (pix:List Int) (on:Int→Bool) (cs:List Cs) (ns:List Nt):FQ:=⟨qm pix on 0 ns,qm pix on 1 ns,qm pix on 3 ns,qm pix on 4 ns,qm pix on 2 ns,(Fp (tK k pix cs ns)).1,(Fp (tK k pix cs ns)).2⟩
def AhI (es:List MapEntry) (seen:Array Nat) (sm:Bool) (lo hi:Int):Prop:=(∀e,e∈es→e.born∈seen→sm=true∧∃v,e.val=fB v∧lo≤v∧v≤hi)∧(sm=true→(∃e,e∈es∧e.val=fB lo)∧∃e,e∈es∧e.val=fB hi)∧(sm=false→lo=0∧hi=0)
theorem alC {es:List MapEntry}:AhI es #[] false 0 0:=⟨fun e _ h=>(by simp at h),fun h=>(by cases h),fun _=>⟨rfl,rfl⟩⟩
theorem PH {es:List MapEntry} (h:(es.map (·.born)).Nodup) {a b:MapEntry} (ha:a∈es) (hb:b∈es) (e:a.born=b.born):a=b:=by
 obtain⟨i,hi,rfl⟩:=da ha
 obtain⟨j,hj,rfl⟩:=da hb
 have pw:=be.1 h
 have:i=j:=by
  rcases e9 i j with q|q|q
  ·exact absurd (by rw[gi,gi];exact e) (pw i j (by simpa using hi) (by simpa using hj) q)
  ·exact q
  ·exact absurd (by rw[gi,gi];exact e.symm) (pw j i (by simpa using hj) (by simpa using hi) q)
 subst this;rfl
theorem Wv {es:List MapEntry} {seen:Array Nat} {lo hi v:Int} {e:MapEntry} (h:AhI es seen false lo hi) (hn:(es.map (·.born)).Nodup) (he:e∈es) (hv:e.val=fB v):AhI es (seen.push e.born) true (min v v) (max v v):=by
 refine⟨fun x hx hb=>?_,fun _=>⟨⟨e,he,by rw[hv,Int.min_self]⟩,⟨e,he,by rw[hv,Int.max_self]⟩⟩,fun q=>(by cases q)⟩
 rcases HP.1 hb with q|q
 ·have:=(h.1 x hx q).1;cases this
 ·have:=PH hn hx he q;subst this
  exact⟨rfl,v,hv,by omega,by omega⟩
theorem Yb {es:List MapEntry} {seen:Array Nat} {lo hi v:Int} {e:MapEntry} (h:AhI es seen true lo hi) (hn:(es.map (·.born)).Nodup) (he:e∈es) (hv:e.val=fB v):AhI es (seen.push e.born) true (min lo v) (max hi v):=by
 obtain⟨h1,h2,_⟩:=h
 obtain⟨⟨a,ha,ha2⟩,⟨b,hb,hb2⟩⟩:=h2 rfl
 refine⟨fun x hx hbn=>?_,fun _=>⟨?_,?_⟩,fun q=>(by cases q)⟩
 ·rcases HP.1 hbn with q|q
  ·obtain⟨_,u,g1,g2,g3⟩:=h1 x hx q
   exact⟨rfl,u,g1,by omega,by omega⟩
  ·have:=PH hn hx he q;subst this
   exact⟨rfl,v,hv,by omega,by omega⟩
 ·rcases mZ lo v with q|q
  ·exact⟨a,ha,by rw[uw q];exact ha2⟩
  ·exact⟨e,he,by rw[td q];exact hv⟩
 ·rcases mZ hi v with q|q
  ·exact⟨e,he,by rw[AT q];exact hv⟩
  ·exact⟨b,hb,by rw[Int.max_eq_left q];exact hb2⟩
theorem afa {es:Array MapEntry} {seen:Array Nat} {sm:Bool} {lo hi:Int} {k:Int} {pix:List Int} {cs:List Cs} {ns:List Nt} (h:AhI es.toList seen sm lo hi) (hE:uz es.toList (nD k pix cs ns ns.length 0)) (h0:(Go.leftOf es seen).size=0):lo=(Fp (tK k pix cs ns)).1∧hi=(Fp (tK k pix cs ns)).2:=by
 obtain⟨h1,h2,h3⟩:=h
 have val:∀e,e∈es.toList→∀v,e.val=fB v→v∈tK k pix cs ns:=fun e he v hv=>by
  obtain⟨n,u,g1,g2,g3⟩:=hE.zN e he
  have:u=v:=mF (g2.symm.trans hv)
  subst this
  exact Fb.2 ⟨n,g3⟩
 have all:∀v,v∈tK k pix cs ns→sm=true∧lo≤v∧v≤hi:=fun v hv=>by
  obtain⟨n,hn⟩:=Fb.1 hv
  obtain⟨e,g1,g2,g3⟩:=hE.mem n v hn
  obtain⟨q1,u,q2,q3,q4⟩:=h1 e g1 (V1 h0 g1)
  have:u=v:=mF (q2.symm.trans g3)
  subst this
  exact⟨q1,q3,q4⟩
 have s:Gp (fun v=>v∈tK k pix cs ns) lo hi:=by
  cases sm with
  |true=>
   obtain⟨⟨a,ha,ha2⟩,⟨b,hb,hb2⟩⟩:=h2 rfl
   exact .inl ⟨val a ha lo ha2,val b hb hi hb2,fun v hv=>(all v hv).2⟩
  |false=>
   obtain⟨e1,e2⟩:=h3 rfl
   exact .inr ⟨fun v hv=>Bool.noConfusion (all v hv).1,e1,e2⟩
 exact YJ s (UM _) fun v=>Iff.rfl
end Go.Proofs.YtffbohecdocajaaGreat
