/-
  Parts of sets of pixels: plain.
  (and more)
-/
import Derived.Test.YtgemekpofpoopaaGreatKBOO01
import Derived.Laws.IdiomRangeMap
open List renaming mem_append→bQ,range→bF,mem_filter→bR,mem_range→a8,any_eq_true→dY,nodup_range→lF,nodup_cons→kT,length_cons→dX,mem_cons→dU,pairwise_lt_range→nz,pairwise_cons→jm,any_eq_false→qZ,pairwise_append→jD,mem_of_getElem?→al,mem_iff_getElem?→eA,filter_append→dI,filter_cons→dj,filter_nil→jV,append_nil→ew,append_assoc→dk,length_map→ak,all_eq_true→cz,getElem_mem→gS,getD_eq_getElem?_getD→aO,getElem?_eq_getElem→aw,getElem?_append_left→aV,getElem?_map→aI,getElem?_append_right→bJ,getElem?_append→kK,getElem?_eq_none→aQ,getElem?_set_ne→fm,perm_append_comm→ji,getElem?_eq_some_iff→an,replicate→bH,ext_getElem?→cM,getElem?_set_self→j0,mem_map→bN,map_append→bG,nodup_append→jN,mem_singleton→bW,getElem?_modify_eq→nh,getElem?_modify→jE,length_append→aJ,getElem?_set→eQ,getElem?_range→fE,getElem?_replicate→fb,length_set→eB,map_congr_left→eO,mem_append_left→dt,eraseIdx_eq_take_drop_succ→nQ,set_cons_succ→ql,pairwise_iff_getElem→cj,getElem_of_mem→fD,nodup_iff_pairwise_ne→mc,pairwise_map→gk,range_succ→eZ,filter_eq_nil_iff→fZ,filter_congr→gC,length_filter_le→cE,take_succ_eq_append_getElem→bX,take_length→eG,mem_iff_getElem→gg,find?_eq_none→gJ,find?_append→nR
open Nat renaming div_eq_of_lt→qY,eq_zero_or_pos→fC,mul_add→qm,zero_le→aY,zero_add→fF,lt_or_ge→bf,le_of_lt→pq,le_refl→cg,blt→dO,le_of_ble_eq_true→bz,le_trans→dE,lt_succ_self→nM,sub_self→gd,not_lt_zero→cQ,lt_trichotomy→ic,lt_succ_iff_lt_or_eq→cZ
open Bool renaming and_eq_true→bD,not_eq_true'→cF,toNat_true→nj,false_eq_true→cA,or_false→rE,eq_iff_iff→p8
open List.Pairwise renaming filter→uy,nil→S0
open Classical renaming byContradiction→dx,not_not→eK,not_forall→na
open Option renaming map_some→ft
open Go.Code renaming wpIn_mono→oi
open Go.Op renaming operands→aL,equalIn→jg,equal→q6
open Go.Sem renaming run_bind→bY,run_pure→dL
open Go.Instr renaming findNow→lW,checkKey→ph,findKey→oF,sameBits→l5,mapUpdate→qA,findAsking→sZ
open Go.Proofs.Tryz renaming prog→af,underlying122→qn
open Go.SL.VC renaming q→au,seq→av,ret→be,cond→ay,skip→aE
open Go.SL.VO renaming h→aB,n→aq,m→ag,l→ah,gf→aK,gt→bh,lg→mW
open Go.SL.HO renaming box→c8
open Go.SL.LL renaming l→bl
open Go.SL.LO renaming fa→aP,ld→aC,mv→aS
open Go.SL.VE renaming aU→aj
open Go.Value renaming bool→iB,int→cX
open Int renaming natCast_nonneg→fW,mul_nonneg_of_nonpos_of_nonpos→mD
open Go.SL.St renaming inv→jI
open Go.SL.GD renaming nt→rD
open Go.SL renaming bV→mo
open Option.some renaming inj→eI
open List.Nodup renaming length_le_of_subset→mK
open Go.Result renaming andThen_ok→bP
open Array renaming toList_push→mr,toList_inj→zV
open Go.Value.agg renaming inj→S3

set_option linter.unusedSimpArgs false
set_option maxRecDepth 20000
set_option maxHeartbeats 8000000
namespace Go.Cell
set_option linter.unusedVariables false
def nb (W H p:Nat):List Nat:=(if 0<p / W then[p-W] else[])++(if 0<p%W then[p-1] else[])++(if p%W+1<W then[p+1] else[])++(if p / W+1<H then[p+W] else[])
theorem Fc {W H p r:Nat}:r∈nb W H p↔(0<p / W∧r=p-W)∨(0<p%W∧r=p-1)∨(p%W+1<W∧r=p+1)∨(p / W+1<H∧r=p+W):=by
 unfold nb
 simp only[bQ]
 constructor
 ·rintro (((h|h)|h)|h)<;>split at h<;>simp at h<;>omega
 ·rintro (⟨h,e⟩|⟨h,e⟩|⟨h,e⟩|⟨h,e⟩)
  ·left;left;left;rw[if_pos h];simp [e]
  ·left;left;right;rw[if_pos h];simp [e]
  ·left;right;rw[if_pos h];simp [e]
  ·right;rw[if_pos h];simp [e]
theorem dm (W p:Nat) (hW:0<W):p=W*(p / W)+p%W∧p%W<W:=⟨(Nat.div_add_mod p W).symm,Nat.mod_lt p hW⟩
theorem Bv {W p a b:Nat} (h:p=W*a+b) (hb:b<W):p / W=a∧p%W=b:=by
 subst h
 constructor
 ·rw[Nat.mul_add_div (by omega),qY hb,Nat.add_zero]
 ·rw[Nat.mul_add_mod,Nat.mod_eq_of_lt hb]
theorem uu {W H p:Nat} (hp:p<W*H):p / W<H:=by
 have hW:0<W:=by rcases fC W with q|q;subst q;simp at hp;exact q
 exact(Nat.div_lt_iff_lt_mul hW).2 (by rw[Nat.mul_comm];exact hp)
theorem vV {W H x y:Nat} (hx:x<W) (hy:y<H):W*y+x<W*H:=by
 have:W*(y+1)≤W*H:=Nat.mul_le_mul_left W hy
 rw[qm]at this
 omega
theorem OL {W H p r:Nat} (hp:p<W*H) (hr:r∈nb W H p):r<W*H∧((r%W=p%W∧(r / W+1=p / W∨r / W=p / W+1))∨(r / W=p / W∧(r%W+1=p%W∨r%W=p%W+1))):=by
 have hW:0<W:=by rcases fC W with q|q;subst q;simp at hp;exact q
 obtain⟨h1,h2⟩:=dm W p hW
 have hy:=uu hp
 generalize ea:p / W=a at*
 generalize eb:p%W=b at*
 rcases Fc.1 hr with⟨h,e⟩|⟨h,e⟩|⟨h,e⟩|⟨h,e⟩
 ·obtain⟨c,rfl⟩:∃c,a=c+1:=⟨a-1,by omega⟩
  have e2:r=W*c+b:=by rw[qm]at h1;omega
  obtain⟨z1,z2⟩:=Bv e2 h2
  exact⟨by rw[e2];exact vV h2 (by omega),.inl ⟨z2,.inl (by omega)⟩⟩
 ·have e2:r=W*a+(b-1):=by omega
  obtain⟨z1,z2⟩:=Bv e2 (by omega)
  exact⟨by rw[e2];exact vV (by omega) hy,.inr ⟨z1,.inl (by omega)⟩⟩
 ·have e2:r=W*a+(b+1):=by omega
  obtain⟨z1,z2⟩:=Bv e2 (by omega)
  exact⟨by rw[e2];exact vV (by omega) hy,.inr ⟨z1,.inr (by omega)⟩⟩
 ·have e2:r=W*(a+1)+b:=by rw[qm];omega
  obtain⟨z1,z2⟩:=Bv e2 h2
  exact⟨by rw[e2];exact vV h2 (by omega),.inl ⟨z2,.inr (by omega)⟩⟩
theorem Dn {W H p r:Nat} (hp:p<W*H) (hr:r<W*H) (h:(r%W=p%W∧(r / W+1=p / W∨r / W=p / W+1))∨(r / W=p / W∧(r%W+1=p%W∨r%W=p%W+1))):r∈nb W H p:=by
 have hW:0<W:=by rcases fC W with q|q;subst q;simp at hp;exact q
 obtain⟨h1,h2⟩:=dm W p hW
 obtain⟨h3,h4⟩:=dm W r hW
 have hy:=uu hp
 have hy2:=uu hr
 refine Fc.2 ?_
 rcases h with⟨e,f|f⟩|⟨e,f|f⟩
 ·left;rw[←f,qm]at h1;rw[e]at h3;exact⟨by rw[←f];exact Nat.succ_pos _,by omega⟩
 ·right;right;right;rw[f,qm,e]at h3;exact⟨by rw[←f];exact hy2,by omega⟩
 ·right;left;rw[e]at h3;exact⟨by rw[←f];exact Nat.succ_pos _,by omega⟩
 ·right;right;left;rw[e]at h3;exact⟨by rw[←f];exact h4,by omega⟩
theorem oz {W H p r:Nat} (hp:p<W*H) (hr:r∈nb W H p):r<W*H:=(OL hp hr).1
theorem u6 {W H p r:Nat} (hp:p<W*H) (hr:r∈nb W H p):p∈nb W H r:=by
 obtain⟨h1,h2⟩:=OL hp hr
 exact Dn h1 hp (by omega)
inductive Cn (W H:Nat) (S:Nat→Bool) (p:Nat):Nat→Prop
 |refl:S p=true→Cn W H S p p
 |step {q r:Nat}:Cn W H S p q→r∈nb W H q→S r=true→Cn W H S p r
section
variable {W H:Nat} {S T:Nat→Bool} {p q r:Nat}
theorem Cn.left (h:Cn W H S p q):S p=true:=by induction h with|refl h=>exact h|step _ _ _ ih=>exact ih
theorem Cn.right (h:Cn W H S p q):S q=true:=by cases h with|refl h=>exact h|step _ _ h=>exact h
theorem Cn.lt (h:Cn W H S p q) (hp:p<W*H):q<W*H:=by induction h with|refl _=>exact hp|step _ h _ ih=>exact oz ih h
theorem Cn.trans (h:Cn W H S p q) (k:Cn W H S q r):Cn W H S p r:=by induction k with|refl _=>exact h|step _ h2 h3 ih=>exact .step ih h2 h3
theorem Cn.symm (h:Cn W H S p q) (hp:p<W*H):Cn W H S q p:=by
 induction h with
 |refl h=>exact .refl h
 |step h1 h2 h3 ih=>exact Cn.trans (.step (.refl h3) (u6 (h1.lt hp) h2) h1.right) ih
theorem Cn.mono (h:Cn W H S p q) (hp:p<W*H) (hST:∀r,r<W*H→S r=true→T r=true):Cn W H T p q:=by
 induction h with
 |refl h=>exact .refl (hST _ hp h)
 |step h1 h2 h3 ih=>exact .step ih h2 (hST _ (oz (h1.lt hp) h2) h3)
theorem Cn.closed {X:Nat→Prop} (h:Cn W H S p q) (hp:X p) (hc:∀a b,X a→b∈nb W H a→S b=true→X b):X q:=by
 induction h with
 |refl _=>exact hp
 |step _ h2 h3 ih=>exact hc _ _ ih h2 h3
end
section
variable (W H:Nat) (S:Nat→Bool)
def grow (l:List Nat):List Nat:=(bF (W*H)).filter fun q=>decide (q∈l)||(S q&&(nb W H q).any fun r=>decide (r∈l))
def vN (p:Nat):Nat→List Nat
 |0=>[p]
 |k+1=>grow W H S (vN p k)
def gU (p:Nat):List Nat:=vN W H S p (W*H)
end
section
variable {W H:Nat} {S T:Nat→Bool} {p q r:Nat}
theorem mem_grow {l:List Nat}:q∈grow W H S l↔q<W*H∧(q∈l∨(S q=true∧∃r,r∈nb W H q∧r∈l)):=by
 unfold grow
 simp only[bR,a8,Bool.or_eq_true,decide_eq_true_eq,bD,dY]
theorem wa (hp:p<W*H):∀{k q},q∈vN W H S p k→q<W*H
 |0,q,h=>by simp [vN]at h;omega
 |k+1,q,h=>(mem_grow.1 h).1
theorem wc (hp:p<W*H) (hs:S p=true):∀{k q},q∈vN W H S p k→Cn W H S p q
 |0,q,h=>by simp [vN]at h;subst h;exact .refl hs
 |k+1,q,h=>by
  obtain⟨h1,h2|⟨h2,r,h3,h4⟩⟩:=mem_grow.1 h
  ·exact wc hp hs h2
  ·exact .step (wc hp hs h4) (u6 h1 h3) h2
theorem Di (hp:p<W*H) {k:Nat} (h:q∈vN W H S p k):q∈vN W H S p (k+1):=mem_grow.2 ⟨wa hp h,.inl h⟩
theorem tg (hp:p<W*H):∀k,(vN W H S p k).Nodup
 |0=>by simp [vN]
 |k+1=>by unfold vN grow;exact uy _ lF
theorem length_le_of_subset:∀{l m:List Nat},l.Nodup→(∀x,x∈l→x∈m)→l.length≤m.length
 |[],_,_,_=>aY _
 |a::l,m,hn,hs=>by
  have h1:a∈m:=hs a (by simp)
  have h2:=length_le_of_subset (l:=l) (m:=m.erase a) (kT.1 hn).2 (fun x hx=>(List.mem_erase_of_ne (fun e=>(kT.1 hn).1 (by rw[←e];exact hx))).2 (hs x (by simp [hx])))
  have h3:=List.length_erase_of_mem h1
  have h4:0<m.length:=List.length_pos_of_mem h1
  simp only[dX]
  omega
theorem qJ {l m:List Nat} (hl:l.Nodup) (hs:∀x,x∈l→x∈m) (hlen:m.length≤l.length) (hm:m.Nodup):∀x,x∈m→x∈l:=by
 intro x hx
 by_cases q:x∈l
 ·exact q
 ·have:=length_le_of_subset (l:=x::l) (m:=m) (kT.2 ⟨q,hl⟩) (fun y hy=>by rcases dU.1 hy with e|e;exact e ▸ hx;exact hs y e)
  simp only[dX]at this
  omega
theorem zG (hp:p<W*H):∀k,k≤(vN W H S p k).length∨∃j,j<k∧∀x,x∈vN W H S p (j+1)→x∈vN W H S p j
 |0=>.inl (aY _)
 |k+1=>by
  rcases zG hp k with h|⟨j,h1,h2⟩
  ·by_cases q:(vN W H S p (k+1)).length≤(vN W H S p k).length
   ·right
    exact⟨k,by omega,qJ (tg hp k) (fun x hx=>Di hp hx) q (tg hp (k+1))⟩
   ·left;omega
  ·exact .inr ⟨j,by omega,h2⟩
theorem vR {j:Nat} (hp:p<W*H) (h:∀x,x∈vN W H S p (j+1)→x∈vN W H S p j):∀k x,x∈vN W H S p (j+k)→x∈vN W H S p j
 |0,x,hx=>hx
 |k+1,x,hx=>by
  apply h
  obtain⟨h1,h2⟩:=mem_grow.1 (show x∈grow W H S (vN W H S p (j+k)) from hx)
  refine mem_grow.2 ⟨h1,?_⟩
  rcases h2 with h2|⟨h2,r,h3,h4⟩
  ·exact .inl (vR hp h k x h2)
  ·exact .inr ⟨h2,r,h3,vR hp h k r h4⟩
theorem Fa (hp:p<W*H) {j:Nat}:∀{k x},x∈vN W H S p j→x∈vN W H S p (j+k)
 |0,x,h=>h
 |k+1,x,h=>Di hp (Fa hp h)
theorem BS (hp:p<W*H) {a b:Nat} (ha:a∈gU W H S p) (hb:b∈nb W H a) (hs:S b=true):b∈gU W H S p:=by
 unfold gU at*
 have hstep:∀j,a∈vN W H S p j→b∈vN W H S p (j+1):=fun j h=>mem_grow.2 ⟨oz (wa hp h) hb,.inr ⟨hs,a,u6 (wa hp h) hb,h⟩⟩
 rcases zG (S:=S) hp (W*H) with h|⟨j,h1,h2⟩
 ·
  have hall:=qJ (tg (S:=S) hp (W*H)) (m:=bF (W*H)) (fun x hx=>a8.2 (wa hp hx)) (by simpa using h) lF
  exact hall b (a8.2 (oz (wa hp ha) hb))
 ·have e:W*H=j+(W*H-j):=by omega
  have ha':a∈vN W H S p j:=by rw[e]at ha;exact vR hp h2 _ a ha
  have:=Fa hp (k:=W*H-j) (h2 b (hstep j ha'))
  rw[←e]at this
  exact this
theorem uQ (hp:p<W*H):p∈gU W H S p:=by
 have:=Fa (S:=S) hp (j:=0) (k:=W*H) (x:=p) (by simp [vN])
 rw[fF]at this
 exact this
theorem kg (hp:p<W*H) (hs:S p=true):q∈gU W H S p↔Cn W H S p q:=
 ⟨wc hp hs,fun h=>h.closed (X:=fun x=>x∈gU W H S p) (uQ hp) fun a b ha hb hS=>BS hp ha hb hS⟩
theorem ja (hp:p<W*H):(gU W H S p).Pairwise (· < ·):=by
 unfold gU
 obtain⟨k,e⟩:∃k,W*H=k+1:=⟨W*H-1,by omega⟩
 rw[e]
 unfold vN grow
 exact uy _ nz
theorem pH (hp:p<W*H) (h:q∈gU W H S p):q<W*H:=wa hp h
end
theorem rv:∀{l m:List Nat},l.Pairwise (· < ·)→m.Pairwise (· < ·)→(∀x,x∈l↔x∈m)→l=m
 |[],[],_,_,_=>rfl
 |[],b::m,_,_,h=>by have:=(h b).2 (by simp);simp at this
 |a::l,[],_,_,h=>by have:=(h a).1 (by simp);simp at this
 |a::l,b::m,hl,hm,h=>by
  obtain⟨h1,h2⟩:=jm.1 hl
  obtain⟨h3,h4⟩:=jm.1 hm
  have e:a=b:=by
   rcases dU.1 ((h a).1 (by simp)) with e|e
   ·exact e
   ·rcases dU.1 ((h b).2 (by simp)) with f|f
    ·exact f.symm
    ·have:=h3 a e;have:=h1 b f;omega
  subst e
  congr 1
  refine rv h2 h4 fun x=>?_
  have hx:=h x
  simp only[dU]at hx
  constructor
  ·intro q
   rcases hx.1 (.inr q) with e|e
   ·subst e;exact absurd (h1 _ q) (Nat.lt_irrefl _)
   ·exact e
  ·intro q
   rcases hx.2 (.inr q) with e|e
   ·subst e;exact absurd (h3 _ q) (Nat.lt_irrefl _)
   ·exact e
theorem Pg {W H:Nat} {S:Nat→Bool} {p q:Nat} (hp:p<W*H) (h:Cn W H S p q):gU W H S q=gU W H S p:=
 rv (ja (h.lt hp)) (ja hp) fun x=>by
  rw[kg (h.lt hp) h.right,kg hp h.left]
  exact⟨fun k=>h.trans k,fun k=>(h.symm hp).trans k⟩
section
variable (W H:Nat) (S:Nat→Bool)
def dz:Nat→List (List Nat)
 |0=>[]
 |p+1=>if(S p&& !(dz p).any fun l=>decide (p∈l))=true then dz p++[gU W H S p] else dz p
def dM:List (List Nat):=dz W H S (W*H)
end
def iG:List (List Nat)→Nat→Int
 |[],_=> -1
 |l::ls,q=>if q∈l then 0 else if iG ls q= -1 then-1 else iG ls q+1
section
variable {W H:Nat} {S:Nat→Bool} {p q r:Nat}
theorem kq (h:S p=true) (k:∀l,l∈dz W H S p→p∉l):dz W H S (p+1)=dz W H S p++[gU W H S p]:=by
 rw[dz,if_pos]
 rw[bD,cF,qZ]
 exact⟨h,fun l hl=>by simpa using k l hl⟩
theorem ko (h:¬(S p=true∧∀l,l∈dz W H S p→p∉l)):dz W H S (p+1)=dz W H S p:=by
 rw[dz,if_neg]
 intro q
 rw[bD,cF,qZ]at q
 exact h ⟨q.1,fun l hl=>by simpa using q.2 l hl⟩
theorem k9 {l:List Nat}:∀{p},l∈dz W H S p→∃r,r<p∧S r=true∧l=gU W H S r
 |0,h=>by simp [dz]at h
 |p+1,h=>by
  by_cases q:S p=true∧∀l,l∈dz W H S p→p∉l
  ·rw[kq q.1 q.2]at h
   rcases bQ.1 h with h|h
   ·obtain⟨r,h1,h2⟩:=k9 h;exact⟨r,by omega,h2⟩
   ·exact⟨p,by omega,q.1,by simpa using h⟩
  ·rw[ko q]at h
   obtain⟨r,h1,h2⟩:=k9 h;exact⟨r,by omega,h2⟩
theorem oA {l:List Nat} (hp:p≤W*H) (hl:l∈dz W H S p) (ha:q∈l):S q=true∧q<W*H∧(∀x,x∈l↔Cn W H S q x)∧l=gU W H S q:=by
 obtain⟨r,h1,h2,rfl⟩:=k9 hl
 have hr:r<W*H:=by omega
 have h3:=(kg hr h2).1 ha
 have e:=Pg hr h3
 exact⟨h3.right,h3.lt hr,fun x=>by rw[←e];exact kg (h3.lt hr) h3.right,e.symm⟩
theorem Bx (hp:p≤W*H) (hq:q<p) (hs:S q=true):∃l,l∈dz W H S p∧q∈l:=by
 induction p with
 |zero=>omega
 |succ p ih=>
  by_cases z:S p=true∧∀l,l∈dz W H S p→p∉l
  ·rw[kq z.1 z.2]
   rcases bf q p with h|h
   ·obtain⟨l,h1,h2⟩:=ih (by omega) h;exact⟨l,by simp [h1],h2⟩
   ·have:q=p:=by omega
    subst this
    exact⟨gU W H S q,by simp,uQ (by omega)⟩
  ·rw[ko z]
   rcases bf q p with h|h
   ·exact ih (by omega) h
   ·have:q=p:=by omega
    subst this
    exact dx fun k=>z ⟨hs,fun l h1 h2=>k ⟨l,h1,h2⟩⟩
theorem sO (hp:p≤W*H):(dz W H S p).Pairwise fun a b=>∀x,x∈a→x∉b:=by
 induction p with
 |zero=>exact S0
 |succ p ih=>
  by_cases z:S p=true∧∀l,l∈dz W H S p→p∉l
  ·rw[kq z.1 z.2]
   refine jD.2 ⟨ih (by omega),List.pairwise_singleton _ _,fun a ha b hb x hx hx2=>?_⟩
   simp at hb;subst hb
   have h1:=(kg (by omega:p<W*H) z.1).1 hx2
   obtain⟨_,h2,h3,_⟩:=oA (by omega) ha hx
   exact z.2 a ha ((h3 p).2 (h1.symm (by omega)))
  ·rw[ko z];exact ih (by omega)
theorem yi:∀{ls:List (List Nat)},(∀l,l∈ls→q∉l)→iG ls q= -1
 |[],_=>rfl
 |l::ls,h=>by
  unfold iG
  rw[if_neg (h l (by simp)),if_pos (yi fun m hm=>h m (by simp [hm]))]
theorem Fs {q:Nat}:∀{ls:List (List Nat)}, -1≤iG ls q
 |[]=>by simp [iG]
 |l::ls=>by have:=Fs (q:=q) (ls:=ls);unfold iG;split<;>(try split)<;>omega
theorem Fi:∀{ls:List (List Nat)} {i:Nat} {l:List Nat},ls.Pairwise (fun a b=>∀x,x∈a→x∉b)→ls[i]? =some l→q∈l→iG ls q=i
 |[],i,l,_,h,_=>by simp at h
 |m::ls,0,l,_,h,hq=>by simp at h;subst h;unfold iG;rw[if_pos hq];rfl
 |m::ls,i+1,l,hp,h,hq=>by
  obtain⟨h1,h2⟩:=jm.1 hp
  have h3:ls[i]? =some l:=by simpa using h
  have h4:=Fi h2 h3 hq
  have hm:q∉m:=fun z=>h1 l (al h3) q z hq
  unfold iG
  rw[if_neg hm,h4,if_neg (by omega)]
  omega
theorem Cg {q:Nat}:∀{ls:List (List Nat)},0≤iG ls q→∃(i:Nat) (l:List Nat),ls[i]? =some l∧q∈l∧iG ls q=i
 |[],h=>by simp [iG]at h
 |m::ls,h=>by
  unfold iG at h ⊢
  by_cases z:q∈m
  ·rw[if_pos z];exact⟨0,m,rfl,z,rfl⟩
  ·rw[if_neg z]at h ⊢
   by_cases y:iG ls q= -1
   ·rw[if_pos y]at h;omega
   ·rw[if_neg y]at h ⊢
    obtain⟨i,l,h1,h2,h3⟩:=Cg (ls:=ls) (q:=q) (by have:=Fs (q:=q) (ls:=ls);omega)
    exact⟨i+1,l,by simpa using h1,h2,by omega⟩
theorem w7 {ls:List (List Nat)}:iG ls q<0↔∀l,l∈ls→q∉l:=by
 constructor
 ·intro h l hl hq
  obtain⟨i,hi⟩:=eA.1 hl
  have:∀{ls:List (List Nat)},l∈ls→0≤iG ls q:=fun {ls}=>by
   induction ls with
   |nil=>intro h;cases h
   |cons m ls ih=>
    intro h
    unfold iG
    rcases dU.1 h with e|e
    ·subst e;rw[if_pos hq];exact Int.le_refl _
    ·have:=ih e;split
     ·exact Int.le_refl _
     ·split<;>omega
  have:=this hl;omega
 ·intro h;rw[yi h];omega
theorem Rn {ls:List (List Nat)} {l:List Nat}:iG (ls++[l]) q=if iG ls q= -1 then(if q∈l then(ls.length:Int) else-1) else iG ls q:=by
 induction ls with
 |nil=>simp [iG]
 |cons m ls ih=>
  rw[List.cons_append,iG,iG,ih]
  by_cases z:q∈m
  ·rw[if_pos z,if_pos z,if_neg (by omega)]
  ·rw[if_neg z,if_neg z]
   have h0:=Fs (q:=q) (ls:=ls)
   by_cases y:iG ls q= -1
   ·rw[if_pos y,if_pos y,if_pos rfl]
    by_cases x:q∈l
    ·rw[if_pos x,if_pos x,if_neg (by omega)];simp only[dX];omega
    ·rw[if_neg x,if_neg x,if_pos rfl]
   ·rw[if_neg y,if_neg y,if_neg (by omega)]
end
section
variable {W H:Nat} {S T:Nat→Bool} {p q r:Nat}
theorem KH (hp:p<W*H) (hs:S p=true) (hn:∀l,l∈dz W H S p→p∉l) (hq:q∈gU W H S p):p≤q:=by
 rcases bf q p with h|h
 ·have h1:=(kg hp hs).1 hq
  obtain⟨l,h2,h3⟩:=Bx (pq hp) h h1.right
  obtain⟨_,_,h4,_⟩:=oA (pq hp) h2 h3
  exact absurd ((h4 p).2 (h1.symm hp)) (hn l h2)
 ·exact h
theorem uL (hp:p<W*H):gU W H S p≠[]:=fun e=>by have:=uQ (S:=S) hp;rw[e]at this;cases this
theorem Ph (hp:p<W*H) (hs:S p=true) (hn:∀l,l∈dz W H S p→p∉l):(gU W H S p).headD 0=p:=by
 have h1:=fun q=>KH (q:=q) hp hs hn
 have h2:=uQ (S:=S) hp
 have h3:=ja (S:=S) hp
 cases e:gU W H S p with
 |nil=>exact absurd e (uL hp)
 |cons a l=>
  rw[e]at h1 h2 h3
  have h4:=h1 a (by simp)
  show a=p
  rcases dU.1 h2 with f|f
  ·exact f.symm
  ·have:=(jm.1 h3).1 p f;omega
theorem wb {l:List Nat} (h:l≠[]):l.headD 0∈l:=by cases l with|nil=>exact absurd rfl h|cons a l=>simp
theorem sI {l:List Nat} (hTS:∀x,x<W*H→T x=true→S x=true) (hl:∀a b,a<W*H→a∈l→Cn W H S a b→b∈l):
  ∀{p},p≤W*H→dz W H (fun x=>T x&&decide (x∈l)) p=(dz W H T p).filter fun k=>decide (k.headD 0∈l)
 |0,_=>rfl
 |p+1,hp=>by
  have ih:=sI hTS hl (p:=p) (by omega)
  have hp':p<W*H:=by omega
  
  have same:T p=true→p∈l→gU W H (fun x=>T x&&decide (x∈l)) p=gU W H T p:=fun h1 h2=>by
   have h3:(T p&&decide (p∈l))=true:=by simp [h1,h2]
   refine rv (ja hp') (ja hp') fun x=>?_
   rw[kg (S:=fun x=>T x&&decide (x∈l)) hp' h3,kg hp' h1]
   constructor
   ·exact fun k=>k.mono hp' fun r _ hr=>by simp at hr;exact hr.1
   ·intro k
    refine(Cn.closed (X:=fun y=>Cn W H (fun x=>T x&&decide (x∈l)) p y∧Cn W H T p y) k ⟨.refl h3,.refl h1⟩ ?_).1
    rintro a b ⟨ha,ha2⟩ hb hs
    have z:Cn W H T p b:=.step ha2 hb hs
    exact⟨.step ha hb (by simp [hs];exact hl p b hp' h2 (z.mono hp' hTS)),z⟩
  by_cases z:T p=true∧∀k,k∈dz W H T p→p∉k
  ·rw[kq z.1 z.2,dI]
   have hh:=Ph hp' z.1 z.2
   by_cases y:p∈l
   ·rw[kq (by simp [z.1,y]) (by rw[ih];exact fun k hk=>z.2 k (bR.1 hk).1),ih,same z.1 y,dj,hh,if_pos (by simpa using y),jV]
   ·rw[ko (by simp [y]),ih,dj,hh,if_neg (by simpa using y),jV,ew]
  ·rw[ko z]
   by_cases y:T p=true∧p∈l
   ·rw[ko,ih]
    rintro ⟨_,h2⟩
    refine z ⟨y.1,fun k hk hm=>?_⟩
    rw[ih]at h2
    refine h2 k (bR.2 ⟨hk,?_⟩) hm
    obtain⟨h3,h4,h5,h6⟩:=oA (by omega) hk hm
    have hne:k≠[]:=fun e=>by rw[e]at hm;cases hm
    have h7:=(h5 _).1 (wb hne)
    simp only[decide_eq_true_eq]
    exact hl p _ hp' y.2 (h7.mono hp' hTS)
   ·rw[ko,ih]
    rintro ⟨h1,_⟩
    simp at h1
    exact y h1
theorem Ci {l:List Nat} (hTS:∀x,x<W*H→T x=true→S x=true) (hl:l∈dM W H S):dM W H (fun x=>T x&&decide (x∈l))=(dM W H T).filter fun k=>decide (k.headD 0∈l):=
 sI hTS (fun a b ha hm hc=>by
  obtain⟨_,_,h3,_⟩:=oA (cg _) hl hm
  exact(h3 b).2 hc) (cg _)
end
end Go.Cell
namespace Go.SL
set_option linter.unusedVariables false
theorem rR {β:Bs} {L L1 L2 X:List dg} (is:List Nat) (hn:kN is=true) (h:gY L is=L1++L2) (hlt:is.all (fun i=>dO i L.length)=true):∀w,St β (L++X) w→St β (L1++(L2++X)) w:=fun w hw=>by
 rw[←dk, ←h]
 have hle:(gY L is).length=is.length:=by unfold gY;exact ak _
 have hb:∀j (hj:j<is.length),is[j]<L.length:=fun j hj=>bz (cz.1 hlt _ (gS hj))
 have hfl:∀j (hj:j<is.length),is.getD j 0=is[j]:=fun j hj=>by rw[aO,aw hj];rfl
 refine hw.map (fun j=>if j<is.length then is.getD j 0 else L.length+(j-is.length)) ?_ ?_
 ·intro j l hjl hj hl
  by_cases h1:j<is.length
  ·by_cases h2:l<is.length
   ·rw[if_pos h1,if_pos h2,hfl j h1,hfl l h2]
    exact oD hn j l h1 h2 hjl
   ·rw[if_pos h1,if_neg h2,hfl j h1]
    have:=hb j h1;omega
  ·by_cases h2:l<is.length
   ·rw[if_neg h1,if_pos h2,hfl l h2]
    have:=hb l h2;omega
   ·rw[if_neg h1,if_neg h2];omega
 ·intro j r hr
  by_cases h1:j<is.length
  ·refine .inr ?_
   rw[if_pos h1,hfl j h1,aV (hb j h1)]
   rw[aV (by rw[hle];exact h1)]at hr
   unfold gY at hr
   rw[aI,aw h1]at hr
   simp only[ft,Option.some.injEq]at hr
   rw[aO,aw (hb j h1)]at hr
   rw[aw (hb j h1), ←hr];rfl
  ·refine .inr ?_
   rw[if_neg h1,bJ (by omega),show L.length+(j-is.length)-L.length=j-is.length by omega]
   rw[bJ (by rw[hle];omega),hle]at hr
   exact hr
end Go.SL
namespace Go.SL
set_option linter.unusedVariables false
open Go.RowKit
section
variable {P:Program} {ro:Option Nat} {β:Bs} {N:Nat} {ds:List Deferred} {env:Env} {L:List dg} {Q:Exit→Act→World→Prop}
theorem VC.FY {α:Type} {gop:Operand} {ps:Array Tmp} {asg body:Code} {gf:FuncId} {lb:List Value} {Cap:World→Prop} {xs:List (List Value)} (F:α→List dg) (I:Nat→α→Prop) (Ix:Code→Nat→α→Prop) (x0:α) (envb:List Value→Env)
  (hg:ev env gop=some (.func (.func gf) #[] lb.toArray)) (hf:fh P gf) (hseq:RE P gf lb Cap xs) (hF0:∀w,St β L w→St β (F x0) w) (h0:I 0 x0)
  (hps:∀vs,vs∈xs→vs.length=ps.size) (hpN:ps.toList.all (fun t=>dO t N)=true)
  (hCap:∀n x w,I n x→(∀(i:Nat) (r:dg),(F x)[i]? =some r→r.inv w)→(∀k,k<β.w.heap.size→¬β.O k→w.heap[k]? =β.w.heap[k]?)→Cap w)
  (hasg:∀(n:Nat) (x:α) (vs:List Value) l T w1,I n x→xs[n]? =some vs→St β (F x++T) w1→VC P (some l) ⟨w1,mG (F x++T)⟩ N [] (SG ps vs++env) (F x++T) asg (AP ⟨w1,mG (F x++T)⟩ N (envb vs) (F x++T)))
  (hbody:∀(n:Nat) (x:α) (vs:List Value) l T w1,I n x→xs[n]? =some vs→St β (F x++T) w1→VC P (some l) ⟨w1,mG (F x++T)⟩ N [] (envb vs) (F x++T) body (RB ⟨w1,mG (F x++T)⟩ F T (I (n+1)) (fun c=>Ix c (n+1))))
  (hdone:∀D x,I xs.length x→VE β N (mark D::ds) env (F x++[dR D]) .normal Q)
  (hstop:∀D c n x,n≤xs.length→Ix c n x→VC P none β N (mark D::ds) env (F x++[dR D]) c Q):
  VC P none β N ds env L (.rangeFunc gop ps asg body) Q:=by
 intro a w ha hw
 have hw0:=hF0 w hw
 refine wpIn_rangeFunc fun fn _=>?_
 obtain⟨rec,hrec⟩:∃rec:LoopState→Option Code→Loop,rec=fun st pe=>{ state:=st,pending:=pe,fn,tmps:=a.tmps,params:=ps,assign:=asg,body,defers:=w.heap.size }:=⟨_,rfl⟩
 obtain⟨D,hD⟩:∃D,D=w.heap.size:=⟨_,rfl⟩
 obtain⟨l,hl⟩:∃l,l=w.heap.size+1:=⟨_,rfl⟩
 obtain⟨W1,hW1⟩:∃W1,(w.alloc (.deferred (some []))).alloc (.loop (rec .ready none))=W1:=⟨_,rfl⟩
 obtain⟨T,hT⟩:∃T:LoopState→Option Code→List dg,T=fun st pe=>[gq l (.loop (rec st pe)),dR D]:=⟨_,rfl⟩
 have hTget:∀x st pe,(F x++T st pe)[(F x).length]? =some (gq l (.loop (rec st pe))):=by intro x st pe;simp [hT]
 have hTset:∀x st pe st' pe',(F x++T st pe).set (F x).length (gq l (.loop (rec st' pe')))=F x++T st' pe':=by intro x st pe st' pe';simp [hT]
 have hst1:St β (F x0++T .ready none) W1:=by
  have h1:=(hw0.alloc (.deferred (some []))).alloc (.loop (rec .ready none))
  rw[hW1,World.size_alloc]at h1
  refine h1.map (fun j=>if j<(F x0).length then j+2 else if j=(F x0).length then 0 else 1) ?_ ?_
  ·intro a b hab ha hb
   simp [hT]at ha hb
   split<;>split<;>(try split)<;>(try split)<;>omega
  ·intro j r hr
   right
   rw[kK]at hr
   by_cases q:j<(F x0).length
   ·simp only[q,if_true]at hr ⊢
    simpa using hr
   ·simp only[q,if_false]at hr ⊢
    by_cases e:j=(F x0).length
    ·subst e;simp [hT]at hr;subst hr;simp [hl]
    ·have:j=(F x0).length+1:=by
      rcases bf (j-(F x0).length) 2 with s|s
      ·omega
      ·simp only[hT]at hr;rw[aQ (by simpa using s)]at hr;cases hr
     subst this
     simp [hT]at hr;subst hr;simp [dR,hD]
 
 have endx:∀x st pe w',St β (F x++T st pe) w'→st≠ .busy→∃w4,(Instr.endLoop l).run P w'= .ok pe w4∧St β (F x++[dR D]) w4:=by
  intro x st pe w' hs hne
  have hrl:w'.heap[l]? =some (.loop (rec st pe)):=hs.inv _ _ (hTget x st pe)
  refine⟨w'.putObj l (.loop { rec st pe with state:=.exhausted }),?_,?_⟩
  ·have:=run_endLoop (P:=P) hrl (by rw[hrec];exact hne)
   rw[this];congr 1;rw[hrec]
  ·have h2:=hs.obj (o':=.loop { rec st pe with state:=.exhausted }) _ (hTget x st pe)
   refine h2.map (fun j=>if j<(F x).length then j else j+1) ?_ ?_
   ·intro a b hab ha hb
    split<;>split<;>omega
   ·intro j r hr
    right
    rw[kK]at hr
    by_cases q:j<(F x).length
    ·simp only[q,if_true]at hr ⊢
     rw[fm (by omega),aV q];exact hr
    ·simp only[q,if_false]at hr ⊢
     have:j=(F x).length:=by
      rcases bf (j-(F x).length) 1 with s|s
      ·omega
      ·rw[aQ (by simpa using s)]at hr;cases hr
     subst this
     simp at hr;subst hr
     rw[fm (by omega),bJ (by omega)]
     simp [hT]
 refine⟨l,[mark D],W1,{ target:=.fn (.func gf) lb.toArray,args:=#[yv l] },W1,gf,(yv l::lb).toArray,W1,?_,?_,?_,?_,fun h=>by simp [Wf,Fence.wide]at h,?_⟩
 ·rw[←hW1,hrec,hl,hD];exact run_enterLoop_outer _ _ _ _ _
 ·have e:a.eval gop= .func (.func gf) #[] lb.toArray:=ha.eval hg
  simp only[resolve,e]
  simp [Deferred.ofValue,yv,Act.eval]
 ·intro f' _;exact True.intro
 ·simp [invoke,qG hf]
 ·refine ri.2 ((hseq l (fun n r=>∃x,I n x∧r=Qn β (F x++T .ready none)∧Fits β (F x++T .ready none)) (fun n r=>∃c x,Ix c n x∧r=Qn β (F x++T .done (some c))∧Fits β (F x++T .done (some c)))
   W1 (Qn β (F x0++T .ready none)) ?_ ?_ ⟨x0,h0,rfl,hst1.fits⟩ ⟨hst1.inv,hst1.fr⟩ ?_).mono ?_)
  ·rintro n r w' ⟨x,hI,rfl,_⟩ hinv
   exact hCap n x w' hI (fun i r hr=>hinv.1 i r (by
    rw[aV]
    ·exact hr
    ·rcases bf i (F x).length with q|q
     ·exact q
     ·simp [aQ q]at hr)) hinv.2
  ·
   rintro n vs hvs r w1 ⟨x,hI,rfl,hfit⟩ hinv hb hos
   have hs1:St β (F x++T .ready none) w1:=St.Oi (w1:=w1) (O:=β.O) hfit ⟨hos.1.trans hst1.os,hos.2.1.trans hst1.tape,hos.2.2.1.trans hst1.output,dE hst1.size hos.2.2.2⟩ hinv hb
   have hrl:w1.heap[l]? =some (.loop (rec .ready none)):=hs1.inv _ _ (hTget x .ready none)
   have hlen:vs.toArray.size=ps.size:=by simpa using hps vs (al hvs)
   have hy:=run_yield (P:=P) (args:=vs.toArray) hrl (by rw[hrec];exact hlen)
   refine⟨_,_,_,_,hy,?_⟩
   refine roundIn_of_wpIn (F:=Fence.wide) (n:=0) True.intro ?_
   have hA:Ag N [] (SG ps vs++env) { tmps:=(ps.zip vs.toArray).foldl (fun t (p,v)=>t.setIfInBounds p v) a.tmps,defers:=[] }:=by
    have h1:=PE (N:=N) (ds:=[]) (ps.toList.zip vs) env { tmps:=a.tmps,defers:=[] } (fun z hz=>by
     have hm:z.1∈ps.toList:=(List.of_mem_zip (a:=z.1) (b:=z.2) hz).1
     exact bz (cz.1 hpN z.1 hm)) ⟨ha.size,rfl,ha.get⟩
    have e:(ps.zip vs.toArray).foldl (fun t (p,v)=>t.setIfInBounds p v) a.tmps=(ps.toList.zip vs).foldl (fun t (p,v)=>t.setIfInBounds p v) a.tmps:=by
     rw[←Array.foldl_toList,Array.toList_zip]
    rw[e];exact h1
   have ha1:=hasg n x vs l (T .ready none) w1 hI hvs hs1 _ w1 hA hs1.nF
   rw[hrec]
   refine oi ?_ ha1
   rintro e a2 w2 ⟨rfl,hag,hs2⟩
   have hs2':=hs1.back hs2
   have hrl2:w2.heap[l]? =some (.loop (rec .ready none)):=hs2.inv _ _ (hTget x .ready none)
   refine⟨w2.putObj l (.loop { rec .ready none with state:=.busy }),run_beginRound hrl2 (by rw[hrec]),?_⟩
   have eb:({ rec .ready none with state:=.busy }:Loop)=rec .busy none:=by rw[hrec]
   rw[eb]
   have hs3:=hs2'.obj (o':=.loop (rec .busy none)) _ (hTget x .ready none)
   rw[hTset]at hs3
   have hs3':=hs2.obj (o':=.loop (rec .busy none)) _ (hTget x .ready none)
   rw[hTset]at hs3'
   have hb1:=hbody n x vs l (T .busy none) _ hI hvs hs3 _ _ hag hs3.nF
   refine oi ?_ hb1
   intro e a3 w3 hq
   have fin:∀y (jump:Option Code),St ⟨w2.putObj l (.loop (rec .busy none)),mG (F x++T .busy none)⟩ (F y++T .busy none) w3→
     ∃w4,(Instr.endRound l jump).run P w3= .ok (.bool jump.isNone) w4∧St ⟨w1,(Qn β (F x++T .ready none)).fp⟩ [Qn β (F y++T (if jump.isNone then .ready else .done) jump)] w4∧Fits β (F y++T (if jump.isNone then .ready else .done) jump):=by
    intro y jump hsy
    have h4:=hs3'.back hsy
    have hrl3:w3.heap[l]? =some (.loop (rec .busy none)):=h4.inv _ _ (hTget y .busy none)
    refine⟨_,run_endRound jump hrl3,?_⟩
    have er:({ rec .busy none with state:=if jump.isNone then .ready else .done,pending:=jump }:Loop)=rec (if jump.isNone then .ready else .done) jump:=by rw[hrec]
    rw[er]
    have h5:=h4.obj (o':=.loop (rec (if jump.isNone then .ready else .done) jump)) _ (hTget y .busy none)
    rw[hTset]at h5
    exact⟨St.VJ hs1 h5,(hs1.back h5).fits⟩
   cases e with
   |normal=>
    obtain⟨y,hy1,hy2⟩:=hq
    obtain⟨w4,h1,h2,h3⟩:=fin y none hy2
    exact⟨_,w4,h1,true,_,rfl,⟨y,hy1,rfl,h3⟩,h2⟩
   |ret=>
    obtain⟨y,hy1,hy2⟩:=hq
    obtain⟨w4,h1,h2,h3⟩:=fin y (some .ret) hy2
    exact⟨_,w4,h1,false,_,rfl,⟨_,y,hy1,rfl,h3⟩,h2⟩
   |exit id=>
    obtain⟨y,hy1,hy2⟩:=hq
    obtain⟨w4,h1,h2,h3⟩:=fin y (some (.exit id)) hy2
    exact⟨_,w4,h1,false,_,rfl,⟨_,y,hy1,rfl,h3⟩,h2⟩
   |goto t=>exact hq.elim
   |panic ch=>exact hq.elim
   |outgrown=>exact hq.elim
  ·intro k hk
   rcases hk with⟨i,r,hr,hk⟩|⟨hk,_⟩
   ·exact(hst1.qE i r hr k hk).2
   ·exact Nat.lt_of_lt_of_le hk hst1.size
  ·rintro e w' ⟨rfl,n,r',hJ,hs⟩
   have toSt:∀L2,r'=Qn β L2→Fits β L2→St β L2 w':=by
    rintro L2 rfl hfit
    have hb:=hs.qE 0 _ rfl
    exact St.Oi (w1:=w') (O:=β.O) hfit ⟨hs.os.trans hst1.os,hs.tape.trans hst1.tape,hs.output.trans hst1.output,dE hst1.size hs.size⟩ (hs.inv 0 _ rfl) (fun k hk=>(hb k hk).2)
   have hag:Ag N (mark D::ds) env { a with defers:=[mark D]++a.defers }:=⟨ha.size,by simp [ha.yr],ha.get⟩
   rcases hJ with⟨x,hI,hr,hfit⟩|⟨hle,c,x,hI,hr,hfit⟩
   ·obtain⟨w4,h1,h2⟩:=endx x .ready none w' (toSt _ hr hfit) (by simp)
    exact⟨none,w4,h1,hdone D x hI _ _ hag h2⟩
   ·obtain⟨w4,h1,h2⟩:=endx x .done (some c) w' (toSt _ hr hfit) (by simp)
    exact⟨some c,w4,h1,hstop D c n x hle hI _ _ hag h2⟩
def Dm (Ds:List Nat):List Deferred:=Ds.map mark
def Db (Ds:List Nat):dg:=bV (Ds.map dR)
theorem St.db0 {w:World} (h:St β L w):St β (Db []::L) w:=St.bV (Rs:=[]) h
theorem St.Ue {w:World} {A:List dg} {D:Nat} {Ds:List Nat} (h:St β (A++[Db Ds]++[dR D]) w):St β (A++[Db (D::Ds)]) w:=by
 have h1:St β (dR D::Db Ds::A) w:=h.perm (by
  rw[dk]
  refine(ji).trans ?_
  exact List.Perm.swap _ _ _)
 have h2:St β (Db (D::Ds)::A) w:=by
  have h3:=St.Cf (A:=[]) (B:=Ds.map dR) (r:=dR D) (L:=A) h1
  exact h3
 exact h2.perm (ji (l₁:=[Db (D::Ds)]) (l₂:=A))
theorem VC.FM {α:Type} {gop:Operand} {ps:Array Tmp} {asg body:Code} {gf:FuncId} {lb:List Value} {Cap:World→Prop} {xs:List (List Value)} {Ds:List Nat} (F:α→List dg) (I:Nat→α→Prop) (Ix:Code→Nat→α→Prop) (x0:α) (envb:List Value→Env)
  (hg:ev env gop=some (.func (.func gf) #[] lb.toArray)) (hf:fh P gf) (hseq:RE P gf lb Cap xs) (hF0:∀w,St β L w→St β (F x0++[Db Ds]) w) (h0:I 0 x0)
  (hps:∀vs,vs∈xs→vs.length=ps.size) (hpN:ps.toList.all (fun t=>dO t N)=true)
  (hCap:∀n x w,I n x→(∀(i:Nat) (r:dg),(F x)[i]? =some r→r.inv w)→Cap w)
  (hasg:∀(n:Nat) (x:α) (vs:List Value) l T w1,I n x→xs[n]? =some vs→St β (F x++T) w1→VC P (some l) ⟨w1,mG (F x++T)⟩ N [] (SG ps vs++env) (F x++T) asg (AP ⟨w1,mG (F x++T)⟩ N (envb vs) (F x++T)))
  (hbody:∀(n:Nat) (x:α) (vs:List Value) l T w1,I n x→xs[n]? =some vs→St β (F x++T) w1→VC P (some l) ⟨w1,mG (F x++T)⟩ N [] (envb vs) (F x++T) body (RB ⟨w1,mG (F x++T)⟩ F T (I (n+1)) (fun c=>Ix c (n+1))))
  (hdone:∀D x,I xs.length x→VE β N (Dm (D::Ds)) env (F x++[Db (D::Ds)]) .normal Q)
  (hstop:∀D c n x,n≤xs.length→Ix c n x→VC P none β N (Dm (D::Ds)) env (F x++[Db (D::Ds)]) c Q):
  VC P none β N (Dm Ds) env L (.rangeFunc gop ps asg body) Q:=by
 have as1:∀(x:α) (T:List dg),(F x++[Db Ds])++T=F x++([Db Ds]++T):=fun x T=>dk _ _ _
 refine VC.FY (fun x=>F x++[Db Ds]) I Ix x0 envb hg hf hseq hF0 h0 hps hpN (fun n x w h1 h2 _=>hCap n x w h1 fun i r hr=>h2 i r (by
   rw[aV (an.1 hr).1];exact hr)) ?_ ?_ (fun D x hI=>?_) (fun D c n x hn hI=>?_)
 ·intro n x vs l T w1 h1 h2 h3
  rw[as1]at h3 ⊢
  exact hasg n x vs l _ w1 h1 h2 h3
 ·intro n x vs l T w1 h1 h2 h3
  rw[as1]at h3 ⊢
  refine fun a w ha hw=>oi ?_ (hbody n x vs l _ w1 h1 h2 h3 a w ha hw)
  intro e a w q
  cases e with
  |normal=>obtain⟨y,q1,q2⟩:=q;exact⟨y,q1,by rw[as1];exact q2⟩
  |ret=>obtain⟨y,q1,q2⟩:=q;exact⟨y,q1,by rw[as1];exact q2⟩
  |exit id=>obtain⟨y,q1,q2⟩:=q;exact⟨y,q1,by rw[as1];exact q2⟩
  |_=>exact q
 ·intro a w ha hw
  exact hdone D x hI a w ha (St.Ue hw)
 ·intro a w ha hw
  exact hstop D c n x hn hI a w ha (St.Ue hw)
theorem VC.ue {α:Type} {gop:Operand} {ps:Array Tmp} {asg body:Code} {gf:FuncId} {lb:List Value} {Cap:World→Prop} {xs:List (List Value)} {Ds:List Nat} (R:List dg) (F:α→List dg) (I:Nat→α→Prop) (Ix:Code→Nat→α→Prop) (x0:α) (envb:List Value→Env)
  (hg:ev env gop=some (.func (.func gf) #[] lb.toArray)) (hf:fh P gf) (hseq:RE P gf lb Cap xs) (hF0:∀w,St β L w→St β ((F x0++R)++[Db Ds]) w) (h0:I 0 x0)
  (hps:∀vs,vs∈xs→vs.length=ps.size) (hpN:ps.toList.all (fun t=>dO t N)=true)
  (hCap:∀n x w,I n x→(∀(i:Nat) (r:dg),(F x++R)[i]? =some r→r.inv w)→Cap w)
  (hasg:∀(n:Nat) (x:α) (vs:List Value) l T w1,I n x→xs[n]? =some vs→St β ((F x++R)++T) w1→VC P (some l) ⟨w1,mG ((F x++R)++T)⟩ N [] (SG ps vs++env) ((F x++R)++T) asg (AP ⟨w1,mG ((F x++R)++T)⟩ N (envb vs) ((F x++R)++T)))
  (hbody:∀(n:Nat) (x:α) (vs:List Value) l T w1,I n x→xs[n]? =some vs→St β ((F x++R)++T) w1→VC P (some l) ⟨w1,mG ((F x++R)++T)⟩ N [] (envb vs) ((F x++R)++T) body (RB ⟨w1,mG ((F x++R)++T)⟩ (fun x=>F x++R) T (I (n+1)) (fun c=>Ix c (n+1))))
  (hdone:∀D x,I xs.length x→VE β N (Dm (D::Ds)) env ((F x++R)++[Db (D::Ds)]) .normal Q)
  (hstop:∀D c n x,n≤xs.length→Ix c n x→VC P none β N (Dm (D::Ds)) env ((F x++R)++[Db (D::Ds)]) c Q):
  VC P none β N (Dm Ds) env L (.rangeFunc gop ps asg body) Q:=
 VC.FM (fun x=>F x++R) I Ix x0 envb hg hf hseq hF0 h0 hps hpN hCap hasg hbody hdone hstop
theorem VC.Dh {α:Type} (n:Nat) (E:α→Env) (Ek:Env) (F:α→List dg) (Df:α→List Nat) (I:α→Prop) (μ:α→Nat) (x0:α) {Ds:List Nat} {c:Code} (hd:Df x0=Ds) (h0:I x0) (hE:Sub (E x0++Ek) env)
  (hF:∀w,St β L w→St β (F x0++L.drop n) w)
  (hr:∀x,I x→VC P ro β N (Dm (Df x)) (E x++Ek) (F x++L.drop n) c (Exit.then (fun a w=>∃y,I y∧μ y<μ x∧Ag N (Dm (Df y)) (E y++Ek) a∧St β (F y++L.drop n) w) Q)):VC P ro β N (Dm Ds) env L (.loop c) Q:=by
 intro a w ha hw
 refine Bw (fun n' a w=>∃x,I x∧μ x=n'∧Ag N (Dm (Df x)) (E x++Ek) a∧St β (F x++L.drop n) w) (μ x0) ⟨x0,h0,rfl,by rw[hd];exact ha.sub hE,hF w hw⟩ ?_
 rintro n' a w ⟨x,hI,rfl,hA,hS⟩
 refine oi ?_ (hr x hI a w hA hS)
 intro e a w q
 cases e with
 |normal=>obtain⟨y,h1,h2,h3,h4⟩:=q;exact⟨μ y,h2,y,h1,rfl,h3,h4⟩
 |_=>exact q
theorem BA {fn:Func} {R:Ending→World→Prop} {tmps:Array Value}:∀{Ds:List Nat} {A:List dg} {w:World},St β (Db Ds::A) w→(∀w',St β A w'→LeavesInM (Wf none) 0 P fn tmps R [] .returning w')→LeavesInM (Wf none) 0 P fn tmps R (Dm Ds) .returning w
 |[],A,w,h,k=>k w (h.perm (List.Perm.refl _) |> fun h=>h.uk)
 |D::Ds,A,w,h,k=>by
  have h1:St β (dR D::Db Ds::A) w:=St.focus (A:=[]) (B:=Ds.map dR) (r:=dR D) (L:=A) h
  have hd:w.heap[D]? =some (.deferred (some [])):=h1.inv 0 _ rfl
  have hs:=h1.obj (o':=.deferred none) 0 rfl
  refine⟨by simp,.inl ⟨D,_,rfl,run_takeDeferred hd,?_⟩⟩
  have h2:St β (Db Ds::A) (w.putObj D (.deferred none)):=by
   have:([dR D]++(Db Ds::A)).set 0 (gq D (.deferred none))=gq D (.deferred none)::Db Ds::A:=rfl
   exact(hs.map (fun j=>j+1) (fun a b hab _ _=>by omega) (fun j r hr=>.inr (by simpa using hr)):St β (Db Ds::A) _)
  exact BA h2 k
theorem VE.TN {fn:Func} {R:Ending→World→Prop} {xs:List ResultVar} {vs:List Value} {Ds:List Nat} {A:List dg} (hr:fn.results=xs.toArray) (hL:∀w,St β L w→St β (Db Ds::A) w) (h:Q6 P β A env xs vs)
  (k:∀w,St β A w→R (.returned (oq vs)) w):VE β N (Dm Ds) env L .ret (FP P fn R):=by
 intro a w ha hw
 show LeavesInM (Wf none) 0 P fn a.tmps R a.defers .returning w
 rw[ha.yr]
 refine BA (hL w hw) fun w' hw'=>?_
 exact⟨_,sE (ds:=[]) (a:={ tmps:=a.tmps,defers:=[] }) hr ⟨ha.size,rfl,ha.get⟩ hw' h,k _ hw'⟩
theorem VC.dm0 {c:Code} (h:VC P ro β N (Dm []) env (Db []::L) c Q):VC P ro β N [] env L c Q:=fun a w ha hw=>h a w ha hw.db0
end
section
variable {P:Program} {ro:Option Nat} {β:Bs} {ds:List Deferred} {N:Nat} {env:Env} {L:List dg} {Q:Exit→Act→World→Prop}
variable {d:Option Nat} {ty:TypeId} {pos:String} {aft:Array Edge} {g:Option (Nat×Bool)}
variable {K:Value→List dg→Prop} {dd:Option Nat}
theorem HO.bs0 {T E z:Nat} (hT:ee P T E) (hs:(P.info? E).map (·.size)=some z) (k:∀b,K (.slice (some ⟨b,0,none⟩) 0 0) (own E z (some ⟨b,0,none⟩) 0 []::L)):HO P β env L ⟨dd,.buildSlice T 0 #[],ty,pos,aft,none⟩ K:=by
 intro a w h hw
 refine .inl ⟨_,w.alloc (.cells #[] E),_,_,?_,.inl rfl,k w.heap.size,?_⟩
 ·simp [execOp,Instr.buildSlice,run_underlying hT,iz hs,Instr.fill,newRow]
  rw[Array.eq_empty_of_size_eq_zero (xs:=Array.map (fun x=>default) (Array.range 0)) (by simp)]
 ·have h1:=hw.alloc (.cells #[] E)
  have:=h1.conv 0 (r':=own E z (some ⟨w.heap.size,0,none⟩) 0 []) rfl (fun k hk=>hk.2) ⟨by simp,by simp,fun q=>(by cases q),fun a ha=>by cases ha;exact⟨rfl,rfl,#[],[],h1.inv 0 _ rfl,rfl,by simp⟩⟩
  simpa using this
theorem LO.slH {T E z:Nat} {x j:Operand} {p:Option Addr} {n c k:Nat} {e:Int} (hT:ee P T E) (hz:(P.info? E).map (·.size)=some z) (hx:OV env x (.slice p n c)) (hj:OV env j (.int .i64 e)) (he:e=(k:Int)) (hk:k≤c):LO P β env L ⟨d,.slice T x none (some j) none,ty,pos,aft,g⟩ (.slice p k c):=
 .fy fun a w h hw=>⟨w,by
  subst he
  have h0:∀q:Addr,q.add 0=q:=fun q=>by simp [Addr.add]
  have h2:p.map (fun x=>x.add 0)=p:=by cases p<;>simp [h0]
  simp [execOp,h x (by simp [aL]) _ hx,h j (by simp [aL]) _ hj,Instr.sliceAt,run_underlying hT,Instr.slice,Instr.sliceBounds,Instr.sliceBound,asIntOf,hk,iz hz,h2],hw⟩
end
section
variable {P:Program} {ro:Option Nat} {β:Bs} {N:Nat} {ds:List Deferred} {env:Env} {L:List dg} {Q:Exit→Act→World→Prop}
 {ty:TypeId} {pos:String} {aft:Array Edge} {g:Option (Nat×Bool)}
theorem VC.nF {c:Code} (h:∀w1,St β L w1→VC P ro (bs w1) N ds env [] c Q):VC P ro β N ds env L c Q:=fun a w ha hw=>h w hw a w ha (St.refl w)
theorem St.DV {w0 w1 w2:World} {L L':List dg} (h:St (bs w0) L w1) (k:St (bs w1) L' w2):St (bs w0) [] w2:=(h.call k).nil
theorem HO.Au {α:Type} {f:α→List Value} {z0:α} {K:Value→List dg→Prop} {dd:Option Nat} {x y:Operand} {T E z by_ n:Nat} {zero:Value} {e:Int} (hf:zero.cells.toList=f z0) (hT:ee P T E) (hE:j6 P E z by_ zero) (hx:OV env x (.int .i64 e)) (hy:OV env y (.int .i64 e)) (he:e=(n:Int)) (hz1:0<z) (hn:by_*n≤281474976710656) (hn2:n≤281474976710656)
  (k:∀b,K (.slice (some ⟨b,0,none⟩) n n) (own E z (some ⟨b,0,none⟩) n ((bH n z0).map f)::L)):HO P β env L ⟨dd,.makeSlice T x y,ty,pos,aft,none⟩ K:=
 HO.mks hT hE hx hy he hz1 hn hn2 fun b=>by
  have:=k b
  rw[List.map_replicate, ←hf]at this
  exact this
theorem HO.zF {α:Type} {f:α→List Value} {l:List α} (i:Nat) (LF:dg→List dg) (v0:α) {K:Value→List dg→Prop} {dd:Option Nat} {x y:Operand} {T E z cap j q:Nat} {p:Option Addr} {v:Value} {vs:List Value} (hT:(P.info? T).map (·.size)=some vs.length) (hx:OV env x (.pointer (some ⟨pb p,q,none⟩))) (hy:OV env y v)
  (hi:L[i]? =some (own E z p cap (l.map f))) (hj:j<l.length) (hq:q=po p+j*z) (hv:v.cells=vs.toArray) (hfv:f v0=vs) (hz:vs.length=z) (h1:mU vs=true) (hL:∀R:dg,L.set i R=LF R)
  (k:K undef (LF (own E z p cap ((l.set j v0).map f)))):HO P β env L ⟨dd,.store T x y,ty,pos,aft,none⟩ K:=by
 obtain⟨r,hr⟩:∃r,(l.map f)[j]? =some r:=⟨_,aw (by simpa using hj)⟩
 intro a w h hw
 have hrz:r.length=z:=(hw.inv i _ hi).2.1 r (al hr)
 refine HO.Qv i LF (o:=0) (vs:=vs) (rows:=l.map f) (r:=r) (j:=j) hT hx hy hi hr (by rw[hq];rfl) hv (by omega) h1 hL ?_ a w h hw
 have e:(l.map f).set j (r.take 0++vs++r.drop (0+vs.length))=(l.set j v0).map f:=by
  rw[List.map_set,hfv,List.take_zero,List.nil_append,fF,hz, ←hrz,List.drop_length,ew]
 rw[e]
 exact k
theorem LO.neB {d:Option Nat} {x y:Operand} {T T2:TypeId} {b c:Bool} (hT:P.underlying T=some .bool) (hx:OV env x (.bool b)) (hy:OV env y (.bool c)):LO P β env L ⟨d,.binOp .neq T x y T2,ty,pos,aft,g⟩ (.bool (decide (¬b=c))):=
 .fy fun a w h hw=>⟨w,by
  have key:(jg Op.maxDepth T (.bool b) (.bool c)).run P w= .ok (b==c) w:=by
   show(jg (9999+1) T (.bool b) (.bool c)).run P w=_
   unfold Op.equalIn
   rw[bY,run_underlying hT]
   rfl
  have e:decide (¬b=c)= !(b==c):=by cases b<;>cases c<;>rfl
  rw[e]
  simp [execOp,h x (by simp [aL]) _ hx,h y (by simp [aL]) _ hy,eqGuard,binOp,q6,key],hw⟩
end
theorem xn {k:IntKind} {n:Int}:∀{es:List MapEntry} (i:Nat),(∀e,e∈es→∃m,e.key=je m)→
  (∃j e,lW (.int k) (je n) es i=some (some (j,e.val))∧i≤j∧es[j-i]? =some e∧e.key=je n)∨(lW (.int k) (je n) es i=some none∧∀e,e∈es→e.key≠je n)
 |[],i,_=>.inr ⟨rfl,by simp⟩
 |e::es,i,h=>by
  obtain⟨m,hm⟩:=h e (by simp)
  simp only[lW,hm,je,Instr.sameNow,if_true]
  by_cases q:n=m
  ·subst q
   left
   simp only[beq_self_eq_true]
   exact⟨i,e,rfl,cg _,by simp,hm⟩
  ·have:(n==m)=false:=by simp [q]
   rw[this]
   rcases xn (k:=k) (n:=n) (es:=es) (i+1) (fun e' he=>h e' (by simp [he])) with⟨j,e',h1,h2,h3,h4⟩|⟨h1,h2⟩
   ·left
    refine⟨j,e',h1,by omega,?_,h4⟩
    rw[show j-i=(j-(i+1))+1 by omega]
    simpa using h3
   ·right
    refine⟨h1,?_⟩
    intro e' he
    rcases dU.1 he with rfl|he
    ·rw[hm];exact fun e=>q (pJ e).symm
    ·exact h2 e' he
theorem Fo {es:List MapEntry} {j c:Nat} {e:MapEntry} {k v:Value} (h:sf es c) (hj:es[j]? =some e):sf (es.set j ⟨k,v,e.born⟩) c:=by
 have hm:(es.set j ⟨k,v,e.born⟩).map (·.born)=es.map (·.born):=by
  rw[List.map_set]
  refine cM fun i=>?_
  by_cases q:j=i
  ·subst q
   have:=(an.1 hj).1
   rw[j0 (by simpa using this),aI,hj];rfl
  ·rw[fm q]
 refine⟨by rw[hm];exact h.1,fun x hx=>?_⟩
 have:x.born∈(es.set j ⟨k,v,e.born⟩).map (·.born):=List.mem_map_of_mem hx
 rw[hm]at this
 obtain⟨y,h1,h2⟩:=bN.1 this
 rw[←h2];exact h.2 y h1
theorem En {es:List MapEntry} {c:Nat} {k v:Value} (h:sf es c):sf (es++[⟨k,v,c⟩]) (c+1):=by
 refine⟨?_,fun x hx=>?_⟩
 ·rw[bG,jN]
  refine⟨h.1,by simp,?_⟩
  intro a ha b hb
  obtain⟨x,hx,rfl⟩:=bN.1 ha
  have:=h.2 x hx
  simp at hb
  omega
 ·rcases bQ.1 hx with q|q
  ·have:=h.2 x q;omega
  ·have:=bW.1 q;subst this;exact nM _
theorem y9 {es:Array MapEntry} {j:Nat} {e:MapEntry} {f:MapEntry→MapEntry} (hj:es.toList[j]? =some e):(es.modify j f).toList=es.toList.set j (f e):=by
 refine cM fun i=>?_
 have hjl:=(an.1 hj).1
 rw[Array.toList_modify]
 by_cases q:j=i
 ·subst q
  rw[nh,hj,j0 hjl];rfl
 ·rw[fm q];simp [jE,q]
section
variable {P:Program} {ro:Option Nat} {β:Bs} {N:Nat} {ds:List Deferred} {env:Env} {L:List dg} {Q:Exit→Act→World→Prop}
variable {d:Option Nat} {ty:TypeId} {pos:String} {aft:Array Edge} {g:Option (Nat×Bool)}
section
variable {K:Value→List dg→Prop} {dd:Option Nat}
theorem IY {s:Sem Unit} {w w':World} (h:s.run P w= .ok () w'):(s.run P w).andThen (fun _ w=>.ok Next.skip w)= .ok Next.skip w':=by rw[h];rfl
end
end
end Go.SL
namespace Go.Proofs.YtgemekpofpoopaaGreat
open Go.SL Go.Proofs Go.sM Go.Cell
set_option linter.unusedVariables false
theorem y8:cP af 122 0 0:=⟨_,_,qn,rfl,rfl,5,by kernel_rfl⟩
theorem Nw:cP af 122 1 6:=⟨_,_,qn,rfl,rfl,0,by kernel_rfl⟩
theorem mixed:af.follows .mixedOrders=true:=by kernel_rfl
theorem LW:fU af 58 [(0,1),(1,1)] [.int .i64 0,.int .i64 0]:=fU.mk fun _=>by kernel_rfl
theorem Ka:dr af 122 (.agg #[.int .i64 0,.int .i64 0,.int .i64 0,.int .i64 0,.int .i64 0,.slice none 0 0,.int .i64 0]):=by unfold dr;kernel_rfl
theorem V6:fh af 30:=⟨_,Tryz.func30,by decide,rfl⟩
theorem Vm:fU af 122 [(0,6),(6,1)] [.int .i64 0,.int .i64 0,.int .i64 0,.int .i64 0,.int .i64 0,.slice none 0 0,.int .i64 0]:=fU.mk fun _=>by kernel_rfl
theorem KA:(af.info? 122).map (·.size)=some 7:=by kernel_rfl
theorem wv:lh af 122 7:=⟨⟨_,qn,rfl⟩,by kernel_rfl⟩
abbrev nC (p:Nat):List Value:=[.int .i64 (p:Int)]
abbrev iC (n:Int):List Value:=[.int .i64 n]
abbrev im (g:eo) (pv:Option Addr) (n cv:Nat):Value:=.agg #[.int .i64 g.x,.int .i64 g.y,.int .i64 g.size,.int .i64 g.wide,.int .i64 g.high,.slice pv n cv]
abbrev rm (g:eo) (pv:Option Addr) (n cv:Nat) (lv:Int):Value:=.agg #[.int .i64 g.x,.int .i64 g.y,.int .i64 g.size,.int .i64 g.wide,.int .i64 g.high,.slice pv n cv,.int .i64 lv]
def et (vs:List Span) (lv:Int) (p:Nat):Bool:=decide (lv≤(vs.getD p ⟨0,0⟩).hi)
def pF (vs:List Span) (lv:Int) (p:Nat):Bool:=decide (lv≤(vs.getD p ⟨0,0⟩).lo)
def sB (g:eo) (vs:List Span) (lv:Int):Int:=if eY 1073741824 ⟨g,vs⟩≠0 then eY 1073741824 ⟨g,vs⟩ else if lv<1∨1073741824<lv then 3 else 0
theorem oE1 {g:eo} {vs:List Span} {lv:Int} (h:eY 1073741824 ⟨g,vs⟩≠0):eY 1073741824 ⟨g,vs⟩=sB g vs lv:=(if_pos h).symm
theorem oO {g:eo} {vs:List Span} {lv:Int} (h:sB g vs lv=0):dH g∧(vs.length:Int)=g.wide*g.high∧(∀j,j<vs.length→iN 1073741824 (vs.getD j ⟨0,0⟩))∧1≤lv∧lv≤1073741824:=by
 unfold sB at h
 split at h
 ·rename_i q;exact absurd h q
 ·rename_i q
  split at h
  ·omega
  ·rename_i z
   have q:=eK.1 q
   unfold eY at q
   split at q
   ·omega
   ·rename_i y
    split at q
    ·omega
    ·rename_i x
     refine⟨eK.1 y,eK.1 x,fun j hj=>?_,by omega,by omega⟩
     have:=v7 q j hj
     unfold C3 at this
     split at this
     ·assumption
     ·omega
theorem DS (g:eo) (vs:List Span) (pv:Option Addr) (cv:Nat) (lv:Int) (p:Nat) (w:World) (hv:fL w pv vs) (hp:p<vs.length):
 Calls af 52 #[rm g pv vs.length cv lv,.int .i64 (p:Int)] w fun e w'=>e= .returned (.bool (et vs lv p))∧St (bs w) [] w':=by
 refine enter (vs:=[_,_]) (env:=[(0,_),(1,_)]) Tryz.func52 rfl rfl rfl rfl ?_
 refine au (aB rfl<|c8 (C:=#[_,_,_,_,_,_,_]) rfl rfl fun b1=>VO.a rfl<|aq<|av<|VC.draw mixed (bl (aP (r:=0) y8 (.r rfl) rfl) rfl<|bl (aP (r:=5) lN (.r rfl) rfl) rfl<|bl (aC zH (.r rfl) (aF 0 rfl ⟨_,rfl⟩)) rfl<|LL.m rfl<|bl (LO.iy xq yA hv.some (.r rfl) (.r rfl) rfl (by omega)) rfl<|bl (aP mF (.r rfl) rfl) rfl<|bl (aC O3 (.r rfl) (fun w hw=>aA (off:=1) ((hv.at (j:=p) (by omega)) w hw) ⟨_,rfl⟩)) rfl<|bl (aP (r:=6) Nw (.r rfl) rfl) rfl<|bl (aC O3 (.r rfl) (aF 0 rfl ⟨_,rfl⟩)) rfl<|bl (LO.ge (.r rfl) (.r rfl)) rfl<|bl (LO.as (.r rfl)) rfl<|LL.nil) (by kernel_rfl)<|aj<|be (VE.s rfl rfl (fun w hw=>?_)))
 exact⟨rfl,hw.nil⟩
theorem RH (g:eo) (vs:List Span) (pv:Option Addr) (cv:Nat) (lv:Int) (p:Nat) (w:World) (hv:fL w pv vs) (hp:p<vs.length):
 Calls af 51 #[rm g pv vs.length cv lv,.int .i64 (p:Int)] w fun e w'=>e= .returned (.bool (pF vs lv p))∧St (bs w) [] w':=by
 refine enter (vs:=[_,_]) (env:=[(0,_),(1,_)]) Tryz.func51 rfl rfl rfl rfl ?_
 refine au (aB rfl<|c8 (C:=#[_,_,_,_,_,_,_]) rfl rfl fun b1=>VO.a rfl<|aq<|av<|VC.draw mixed (bl (aP (r:=0) y8 (.r rfl) rfl) rfl<|bl (aP (r:=5) lN (.r rfl) rfl) rfl<|bl (aC zH (.r rfl) (aF 0 rfl ⟨_,rfl⟩)) rfl<|LL.m rfl<|bl (LO.iy xq yA hv.some (.r rfl) (.r rfl) rfl (by omega)) rfl<|bl (aP mj (.r rfl) rfl) rfl<|bl (aC O3 (.r rfl) (fun w hw=>aA (off:=0) ((hv.at (j:=p) (by omega)) w hw) ⟨_,rfl⟩)) rfl<|bl (aP (r:=6) Nw (.r rfl) rfl) rfl<|bl (aC O3 (.r rfl) (aF 0 rfl ⟨_,rfl⟩)) rfl<|bl (LO.ge (.r rfl) (.r rfl)) rfl<|bl (LO.as (.r rfl)) rfl<|LL.nil) (by kernel_rfl)<|aj<|be (VE.s rfl rfl (fun w hw=>?_)))
 exact⟨rfl,hw.nil⟩
theorem Ob (a b n:Int) (w:World):
 Calls af 85 #[.agg #[.int .i64 a,.int .i64 b],.int .i64 n] w fun e w'=>e= .returned (.agg #[.int .i64 (min a n),.int .i64 (max b n)])∧St (bs w) [] w':=by
 refine enter (vs:=[_,_]) (env:=[(0,_),(1,_)]) Tryz.func85 rfl rfl rfl rfl ?_
 refine au (aB rfl<|c8 (C:=#[_,_]) rfl rfl fun b1=>aB rfl<|HO.alloc (C:=#[_,_]) Z58 rfl fun b2=>aq<|au (VO.f (r:=0) mj rfl<|VO.c 1 O3 rfl rfl ⟨_,rfl⟩ rfl<|ag rfl<|ah (LO.min (.r rfl) (.r rfl)) rfl<|VO.f (r:=1) mF rfl<|VO.c 1 O3 rfl rfl ⟨_,rfl⟩ rfl<|ag rfl<|ah (LO.max (.r rfl) (.r rfl)) rfl<|ah (LO.bd (ps:=[(_,_),(_,_)]) (vs:=[(_,_),(_,_)]) (C:=[_,_]) LW ⟨(.r rfl),(.r rfl),trivial⟩ rfl ⟨_,[_],[_,_],rfl,rfl,rfl,rfl,⟨_,[_],[_,_],rfl,rfl,rfl,rfl,rfl⟩⟩) rfl<|VO.h0<|HO.st 0 (vs:=[_,_]) (C':=[_,_]) (L':=[_,_]) yA rfl rfl rfl rfl rfl rfl rfl rfl<|aq<|be (VE.res (vs:=[_]) rfl ⟨RV.agg (vs:=[_,_]) Wi rfl (aF 0 rfl ⟨_,rfl⟩) rfl,trivial⟩ (fun w hw=>?_))))
 exact⟨rfl,hw.nil⟩
theorem AT (g:eo) (vs:List Span) (pv:Option Addr) (cv:Nat) (lv:Int) (w:World) (hv:fL w pv vs) (hok:sB g vs lv=0):
 Calls af 47 #[im g pv vs.length cv,.int .i64 lv] w fun e w'=>e= .returned (.tuple #[rm g pv vs.length cv lv,.int .i64 0])∧St (bs w) [] w':=by
 refine enter (vs:=[_,_]) (env:=[(0,_),(1,_)]) Tryz.func47 rfl rfl rfl rfl ?_
 refine au (aB rfl<|c8 (C:=#[_,_,_,_,_,_]) rfl rfl fun b1=>aB rfl<|HO.alloc (C:=#[_,_,_,_,_,_,_]) Ka rfl fun b2=>VO.a rfl<|aq<|av<|au (ah (LO.fT (vs:=[_,_,_,_,_,_]) oy (.r rfl) (aF 1 rfl ⟨_,rfl⟩) rfl) rfl<|ah (LO.call (xs:=[_]) (vs:=[_]) V6 ⟨(.r rfl),trivial⟩ (fun w hw=>kA ⟨g,vs⟩ pv cv w (hv.b0 w hw))) rfl<|VO.a rfl<|aq ?_))
 refine au (ag rfl<|VO.u rfl<|aq<|ay rfl (fun h1=>?_) (fun h1=>?_))
 · (exfalso;exact h1 (by have z:=oE1 (lv:=lv) h1;rw[hok]at z;exact z))
 ·
  refine aE (aj<|av<|au (ag rfl<|VO.t rfl<|ag rfl<|aK rfl (fun hg=>aS (.r rfl))<|aK rfl (fun hg=>LO.gt (.g hg rfl) (.r rfl))<|ah (LO.jZ (.r rfl) (.r rfl) rfl rfl) rfl<|aq<|ay rfl (fun h2=>?_) (fun h2=>?_)))
  · (exfalso;have z:=oO hok;first |omega|(simp at h2;omega))
  ·
   refine aE (aj<|au (ah (LO.fT (vs:=[_,_,_,_,_,_]) oy (.r rfl) (aF 1 rfl ⟨_,rfl⟩) rfl) rfl<|ag rfl<|ah (LO.bd (ps:=[(_,_),(_,_)]) (vs:=[(_,_),(_,_)]) (C:=[_,_,_,_,_,_,_]) Vm ⟨(.r rfl),(.r rfl),trivial⟩ rfl ⟨_,[_,_,_,_,_,_],[_,_,_,_,_,_,_],rfl,rfl,rfl,rfl,⟨_,[_],[_,_,_,_,_,_,_],rfl,rfl,rfl,rfl,rfl⟩⟩) rfl<|VO.h0<|HO.st 0 (vs:=[_,_,_,_,_,_,_]) (C':=[_,_,_,_,_,_,_]) (L':=[_,_]) KA rfl rfl rfl rfl rfl rfl rfl rfl<|VO.a rfl<|aq<|be (VE.res (vs:=[_,_]) rfl ⟨RV.agg (vs:=[_,_,_,_,_,_,_]) wv rfl (aF 0 rfl ⟨_,rfl⟩) rfl,rfl,trivial⟩ (fun w hw=>?_))))
   exact⟨rfl,hw.nil⟩
abbrev arF (bp bg:Nat):Value:=.func (.func 87) #[] #[.pointer (some ⟨bp,0,none⟩),.pointer (some ⟨bg,0,none⟩)]
abbrev Dc (g:eo):List Value:=[.int .i64 g.x,.int .i64 g.y,.int .i64 g.size,.int .i64 g.wide,.int .i64 g.high]
structure ZD (g:eo) (p:Nat) (bp bg:Nat) (w:World):Prop where
 p:fG w ⟨bp,0,none⟩ [.int .i64 (p:Int)]
 g:fG w ⟨bg,0,none⟩ (Dc g)
abbrev gW (g:eo):Nat:=g.wide.toNat
abbrev gH (g:eo):Nat:=g.high.toNat
theorem An {g:eo} (h:dH g):(gW g:Int)=g.wide∧(gH g:Int)=g.high∧1≤gW g∧gW g≤64∧1≤gH g∧gH g≤64:=by
 obtain⟨_,_,_,h4,h5⟩:=h;unfold gW gH;omega
theorem sK {g:eo} (h:dH g) (p:Nat):((p:Int)).tmod g.wide=((p%gW g:Nat):Int):=by
 rw[←(An h).1];rfl
theorem jB {g:eo} (h:dH g) (p:Nat):((p:Int)).tdiv g.wide=((p / gW g:Nat):Int):=by
 rw[←(An h).1];rfl
theorem Gc {g:eo} (h:dH g):((gW g*gH g:Nat):Int)=g.wide*g.high:=by rw[Int.natCast_mul,(An h).1,(An h).2.1]
theorem AS {g:eo} (h:dH g) {n:Nat} (k:(n:Int)=g.wide*g.high):n=gW g*gH g:=by rw[←Gc h]at k;omega
theorem iM {g:eo} (h:dH g):gW g*gH g≤4096:=by have:=Ch h;have:=Gc h;omega
theorem Pf {J Jx:Nat→dg→Prop} {s d b:Bool} {k len:Nat} {r r':dg} (h1:s=false→J k r) (h2:s=true→∃n,n≤len∧Jx n r) (hk:d=true→k+1≤len) (hp:(!s&&d)=true→if b=true then J (k+1) r' else Jx (k+1) r') (hq:(!s&&d)=false→r'=r):
  ((s||(d&& !b))=false→J (k+d.toNat) r')∧((s||(d&& !b))=true→∃n,n≤len∧Jx n r'):=by
 cases s with
 |true=>exact⟨fun h=>(by cases h),fun _=>by rw[hq rfl];exact h2 rfl⟩
 |false=>
  cases d with
  |false=>exact⟨fun _=>by rw[hq rfl];exact h1 rfl,fun h=>(by cases h)⟩
  |true=>
   cases b with
   |true=>exact⟨fun _=>by have:=hp rfl;rw[if_pos rfl]at this;exact this,fun h=>(by cases h)⟩
   |false=>exact⟨fun h=>(by cases h),fun _=>⟨k+1,hk rfl,by have:=hp rfl;rw[if_neg (by decide)]at this;exact this⟩⟩
theorem acx {W H p:Nat} (h:0<p / W):(nb W H p)[0]? =some (p-W):=by unfold nb;rw[if_pos h];rfl
theorem aby {W H p:Nat} (h:0<p%W):(nb W H p)[(decide (0<p / W)).toNat]? =some (p-1):=by
 unfold nb;rw[if_pos h]
 by_cases q:0<p / W
 ·rw[if_pos q,decide_eq_true q];rfl
 ·rw[if_neg q,decide_eq_false q];rfl
theorem abq {W H p:Nat} (h:p%W+1<W):(nb W H p)[(decide (0<p / W)).toNat+(decide (0<p%W)).toNat]? =some (p+1):=by
 unfold nb;rw[if_pos h]
 by_cases q:0<p / W<;>by_cases z:0<p%W
 ·rw[if_pos q,decide_eq_true q,if_pos z,decide_eq_true z];rfl
 ·rw[if_pos q,decide_eq_true q,if_neg z,decide_eq_false z];rfl
 ·rw[if_neg q,decide_eq_false q,if_pos z,decide_eq_true z];rfl
 ·rw[if_neg q,decide_eq_false q,if_neg z,decide_eq_false z];rfl
theorem Gj {W H p:Nat}:(nb W H p).length=(decide (0<p / W)).toNat+(decide (0<p%W)).toNat+(decide (p%W+1<W)).toNat+(decide (p / W+1<H)).toNat:=by
 unfold nb
 simp only[aJ]
 have key:∀{c:Prop} [Decidable c] {x:Nat},(if c then[x] else[]).length=(decide c).toNat:=fun {c} _ {x}=>by
  by_cases q:c
  ·rw[if_pos q,decide_eq_true q];rfl
  ·rw[if_neg q,decide_eq_false q];rfl
 rw[key,key,key,key]
theorem abJ {W H p:Nat} (h:p / W+1<H):(nb W H p)[(decide (0<p / W)).toNat+(decide (0<p%W)).toNat+(decide (p%W+1<W)).toNat]? =some (p+W):=by
 have hl:=Gj (W:=W) (H:=H) (p:=p)
 rw[decide_eq_true h]at hl
 have hl2:((if 0<p / W then[p-W] else[])++(if 0<p%W then[p-1] else[])++(if p%W+1<W then[p+1] else[]):List Nat).length=(decide (0<p / W)).toNat+(decide (0<p%W)).toNat+(decide (p%W+1<W)).toNat:=by
  have e:(nb W H p).length=((if 0<p / W then[p-W] else[])++(if 0<p%W then[p-1] else[])++(if p%W+1<W then[p+1] else[]):List Nat).length+1:=by
   unfold nb;rw[if_pos h,aJ];rfl
  simp only[nj]at hl
  omega
 unfold nb
 rw[if_pos h,bJ (by omega),hl2,gd]
 rfl
theorem YI {g:eo} (h:dH g) {p:Nat} (q:0<p / gW g):(p:Int)-g.wide=((p-gW g:Nat):Int):=by
 have h1:=(An h).1
 have h2:gW g≤p:=by
  rcases bf p (gW g) with z|z
  ·rw[qY z]at q;omega
  ·exact z
 omega
theorem WS {p W:Nat} (q:0<p%W):(p:Int)-1=((p-1:Nat):Int):=by
 have:0<p:=by
  rcases fC p with z|z
  ·subst z;simp at q
  ·exact z
 omega
theorem PF {J Jx:Nat→dg→Prop} {xs:List (List Value)} {n:Nat} {r:dg} (h:n≤xs.length) (k:Jx n r):J xs.length r∨∃n,n≤xs.length∧Jx n r:=.inr ⟨n,h,k⟩
theorem MA {J Jx:Nat→dg→Prop} {xs:List (List Value)} {r:dg} (k:J xs.length r):J xs.length r∨∃n,n≤xs.length∧Jx n r:=.inl k
theorem BU {J Jx:Nat→dg→Prop} {xs:List (List Value)} {r:dg} {β:Bs} {w:World} (h:J xs.length r∨∃n,n≤xs.length∧Jx n r) (hw:St β [r] w):∃n r',(J xs.length r'∨(n≤xs.length∧Jx n r'))∧St β [r'] w:=by
 rcases h with h|⟨n,h1,h2⟩
 ·exact⟨0,r,.inl h,hw⟩
 ·exact⟨n,r,.inr ⟨h1,h2⟩,hw⟩
theorem zm (g:eo) (p:Nat) (w:World):
 Calls af 55 #[lL g,.int .i64 (p:Int)] w fun e w'=>∃y:Nat×Nat,True∧e= .returned (arF y.1 y.2)∧St (bs w) [gq y.1 (.cells #[.int .i64 (p:Int)] 3),gq y.2 (.cells (Dc g).toArray 23)] w':=by
 refine enter (vs:=[_,_]) (env:=[(0,_),(1,_)]) Tryz.func55 rfl rfl rfl rfl ?_
 refine au (aB rfl<|c8 (C:=#[_,_,_,_,_]) rfl rfl fun b1=>aB rfl<|c8 (C:=#[_]) rfl rfl fun b2=>VO.a rfl<|aq<|au (aB rfl<|HO.lo (LO.mf (cap:=[_,_]) ⟨(.r rfl),(.r rfl),trivial⟩)<|aB rfl<|HO.lo (LO.as (.r rfl))<|aq<|be (VE.s rfl rfl (fun w hw=>?_))))
 exact⟨(b2,b1),trivial,rfl,hw⟩
theorem LO.eqv {P:Program} {β:Bs} {env:Env} {L:List dg} {o:Oper} {v v':Value} (h:LO P β env L o v) (e:v=v'):LO P β env L o v':=e ▸ h
theorem dlt {a b:Nat} {x y:Int} (h1:x=a) (h2:y=b):iB (decide (x<y))= .bool (decide (a<b)):=by
 subst h1;subst h2;exact congrArg iB (decide_eq_decide.2 (by omega))
theorem yg2 {P:Program} {ro:Option Nat} {β:Bs} {N:Nat} {ds:List Deferred} {env:Env} {L:List dg} {Q:Exit→Act→World→Prop} (i:Nat) {ops:Array Oper} {d j t:Nat} {want c:Bool} {ty:TypeId} {pos:String} {aft:Array Edge} {rest:List Oper} {u:Value} {fx:Operand} {xs:List Operand} {vs:List Value} {aT:Array TypeId} {l:Nat} {r:dg} {post:Bool→dg→Prop} (hj:(ops[j]?).bind (·.dst)=some t) (ht:j9 env t=some u) (hg:GD u want c) (hd:dO d N=true)
  (hfx:c=true→OV env fx (yv l)) (hx:c=true→AA env xs vs) (hi:L[i]? =some r)
  (hy:c=true→∀w,r.inv w→(∀k,r.fp k→k<w.heap.size)→(w.os=β.w.os∧w.tape=β.w.tape∧w.output=β.w.output∧β.w.heap.size≤w.heap.size)→zh P l vs w fun e w'=>∃b r',e= .returned (.bool b)∧post b r'∧St ⟨w,r.fp⟩ [r'] w')
  (k:∀b r',(c=true→post b r')→(c=false→r'=r)→VO P ro β N ds ops ((d,gv c (.bool b))::env) (L.set i r') rest Q):
  VO P ro β N ds ops env L (⟨some d,.call ⟨.value fx,xs.toArray,aT⟩,ty,pos,aft,some (j,want)⟩::rest) Q:=by
 cases c with
 |true=>
  exact VO.hg (Kx:=fun v L'=>∃b r',v= .bool b∧L'=L.set i r'∧post b r') hj ht hg (fun q=>HO.yield i (hfx q) (hx q) hi (hy q) fun b r' hp=>⟨b,r',rfl,rfl,hp⟩) hd fun v L' h1 _=>by
   obtain⟨b,r',h2,h3,h4⟩:=h1 rfl
   subst h2;subst h3
   exact k b r' (fun _=>h4) (fun q=>by cases q)
 |false=>
  refine VO.hg (Kx:=fun _ _=>False) hj ht hg (fun q=>by cases q) hd fun v L' _ h2=>?_
  have h3:=h2 rfl
  subst h3
  have h4:=k true r (fun q=>by cases q) (fun _=>rfl)
  have h5:L'.set i r=L':=by
   apply cM
   intro n
   rw[eQ]
   split
   ·rename_i q;subst q
    split
    ·exact hi.symm
    ·rename_i q;simp [aQ (Nat.not_lt.1 q)]at hi
   ·rfl
  rw[h5]at h4
  exact h4
theorem nS {a b:Bool} (h:(!a&&b)=true):a=false:=by cases a<;>simp_all
theorem nT {a b:Bool} (h:(!a&&b)=true):b=true:=by cases a<;>simp_all
theorem nN {a:Bool} (h:(!a)=true):a=false:=by cases a<;>simp_all
theorem ur (g:eo) (p bp bg:Nat) (hg0:dH g) (hp:p<gW g*gH g):
 RE af 87 [.pointer (some ⟨bp,0,none⟩),.pointer (some ⟨bg,0,none⟩)] (ZD g p bp bg) ((nb (gW g) (gH g) p).map nC):=by
 intro l J Jx w r hCap hyl hJ hi0 hf0
 obtain⟨hW,hH,hW1,hW2,hH1,hH2⟩:=An hg0
 have hal:=iM hg0
 have hxl:p%gW g<gW g:=Nat.mod_lt _ (by omega)
 have hyl2:p / gW g<gH g:=uu hp
 have hdy:(0:Int)≤((p / gW g:Nat):Int)∧(0:Int)≤((p%gW g:Nat):Int):=⟨fW _,fW _⟩
 obtain⟨D1,hD1⟩:∃D,D=(decide (0<p / gW g)):=⟨_,rfl⟩
 obtain⟨D2,hD2⟩:∃D,D=(decide (0<p%gW g)):=⟨_,rfl⟩
 obtain⟨D3,hD3⟩:∃D,D=(decide (p%gW g+1<gW g)):=⟨_,rfl⟩
 obtain⟨D4,hD4⟩:∃D,D=(decide (p / gW g+1<gH g)):=⟨_,rfl⟩
 have hlen:((nb (gW g) (gH g) p).map nC).length=D1.toNat+D2.toNat+D3.toNat+D4.toNat:=by rw[ak,Gj,hD1,hD2,hD3,hD4]
 have hk1:D1=true→0+1≤((nb (gW g) (gH g) p).map nC).length:=fun h=>by rw[hlen,h];simp only[nj];omega
 have hk2:D2=true→0+D1.toNat+1≤((nb (gW g) (gH g) p).map nC).length:=fun h=>by rw[hlen,h];simp only[nj];omega
 have hk3:D3=true→0+D1.toNat+D2.toNat+1≤((nb (gW g) (gH g) p).map nC).length:=fun h=>by rw[hlen,h];simp only[nj];omega
 refine oL (vs:=[_,_,_]) (env:=[(0,_),(1,_),(2,_)]) (St.one hi0 hf0) Tryz.func87 rfl rfl rfl rfl ?_
 refine av<|VC.draw mixed (bl (aC O3 (.r rfl) (fun _ hw=>bI (off:=0) (hCap _ _ _ hJ (jI hw 0 _ rfl)).p ⟨_,rfl⟩)) rfl<|bl (aP (r:=3) iQ (.r rfl) rfl) rfl<|bl (aC O3 (.r rfl) (fun _ hw=>bI (off:=3) (hCap _ _ _ hJ (jI hw 0 _ rfl)).g ⟨_,rfl⟩)) rfl<|bl (LO.eqv (LO.rem (.r rfl) (.r rfl) (by omega)) (congrArg (cX .i64) (sK hg0 p))) rfl<|bl (aC O3 (.r rfl) (fun _ hw=>bI (off:=0) (hCap _ _ _ hJ (jI hw 0 _ rfl)).p ⟨_,rfl⟩)) rfl<|bl (aP (r:=3) iQ (.r rfl) rfl) rfl<|bl (aC O3 (.r rfl) (fun _ hw=>bI (off:=3) (hCap _ _ _ hJ (jI hw 0 _ rfl)).g ⟨_,rfl⟩)) rfl<|bl (LO.eqv (LO.quo (.r rfl) (.r rfl) (by omega) (wi (by rw[jB hg0];omega) (by rw[jB hg0];omega))) (congrArg (cX .i64) (jB hg0 p))) rfl<|bl (LO.as (.r rfl)) rfl<|bl (LO.as (.r rfl)) rfl<|LL.nil) (by kernel_rfl)<|aj<|av<|au (ag rfl<|ah (LO.eqv (v':=.bool D1) (LO.gt (.r rfl) (.r rfl)) (by rw[hD1];exact dlt rfl rfl)) rfl<|ag rfl<|bh rfl (fun hg=>aS (.r rfl))<|bh rfl (fun hg=>aC O3 (.r rfl) (fun _ hw=>bI (off:=0) (hCap _ _ _ hJ (jI hw 0 _ rfl)).p ⟨_,rfl⟩))<|bh rfl (fun hg=>aP (r:=3) iQ (.r rfl) rfl)<|bh rfl (fun hg=>aC O3 (.g hg rfl) (fun _ hw=>bI (off:=3) (hCap _ _ _ hJ (jI hw 0 _ rfl)).g ⟨_,rfl⟩))<|bh rfl (fun hg=>LO.eqv (LO.sub (.g hg rfl) (.g hg rfl) (wi (by omega) (by omega))) (congrArg (cX .i64) (YI hg0 (of_decide_eq_true (hD1 ▸ hg)))))<|yg2 0 (r:=r) (vs:=[_]) (post:=fun b r'=>if b=true then J (0+1) r' else Jx (0+1) r') rfl rfl (GD.t _) rfl (fun hg=>.g hg rfl) (fun hg=>⟨.g hg rfl,trivial⟩) rfl (fun hg w2 hi hr hs=>hyl (0) _ (by rw[aI,acx (of_decide_eq_true (hD1 ▸ hg))];rfl) r w2 (hJ) hi hr hs) fun b1 r1 hp1 hq1=>have hA1:=Pf (J:=J) (Jx:=Jx) (s:=false) (d:=D1) (len:=((nb (gW g) (gH g) p).map nC).length) (fun _=>hJ) (fun q=>by cases q) (hk1) hp1 hq1;bh rfl (fun hg=>LO.not (.g hg rfl))<|ah (LO.qc (.r rfl) rfl rfl (.r rfl)) rfl<|ag rfl<|aK rfl (fun hg=>aS (.r rfl))<|aK rfl (fun hg=>LO.eqv (v':=.bool D2) (LO.gt (.g hg rfl) (.r rfl)) (by rw[hD2];exact dlt rfl rfl))<|aK rfl (fun hg=>aS (.g hg rfl))<|mW rfl rfl (rD _ _) (fun hg=>aS (.r rfl)) rfl<|mW rfl rfl (rD _ _) (fun hg=>aC O3 (.r rfl) (fun _ hw=>(hCap _ _ _ (hA1.1 (nS hg)) (jI hw 0 _ rfl)).p)) rfl<|mW rfl rfl (rD _ _) (fun hg=>LO.eqv (LO.sub (.g hg rfl) (.r rfl) (wi (by omega) (by omega))) (congrArg (cX .i64) (WS (of_decide_eq_true (hD2 ▸ nT hg))))) rfl<|yg2 0 (r:=r1) (vs:=[_]) (post:=fun b r'=>if b=true then J ((0+D1.toNat)+1) r' else Jx ((0+D1.toNat)+1) r') rfl rfl (rD _ _) rfl (fun hg=>.g hg rfl) (fun hg=>⟨.g hg rfl,trivial⟩) rfl (fun hg w2 hi hr hs=>hyl ((0+D1.toNat)) _ (by rw[hD1,aI,fF,aby (of_decide_eq_true (hD2 ▸ nT hg))];rfl) r1 w2 (hA1.1 (nS hg)) hi hr hs) fun b2 r2 hp2 hq2=>have hA2:=Pf (J:=J) (Jx:=Jx) (s:=(D1&& !b1)) (d:=D2) (len:=((nb (gW g) (gH g) p).map nC).length) hA1.1 hA1.2 (hk2) hp2 hq2;mW rfl rfl (rD _ _) (fun hg=>LO.not (.g hg rfl)) rfl<|aK rfl (fun hg=>LO.qc (.g hg rfl) rfl (NI hg) (.r rfl))<|ah (LO.jZ (.r rfl) (.r rfl) rfl rfl) rfl<|ag rfl<|aK rfl (fun hg=>aS (.r rfl))<|aK rfl (fun hg=>LO.add (.g hg rfl) (.r rfl) (wi (by omega) (by omega)))<|aK rfl (fun hg=>aP (r:=3) iQ (.r rfl) rfl)<|aK rfl (fun hg=>aC (v:=.int .i64 g.wide) O3 (.g hg rfl) (fun _ hw=>bI (off:=3) (hCap _ _ _ (hA2.1 (nN hg)) (jI hw 0 _ rfl)).g ⟨_,rfl⟩))<|aK rfl (fun hg=>LO.eqv (v':=.bool D3) (LO.lt (.g hg rfl) (.g hg rfl)) (by rw[hD3];exact dlt rfl hW.symm))<|aK rfl (fun hg=>aS (.g hg rfl))<|mW rfl rfl (rD _ _) (fun hg=>aS (.r rfl)) rfl<|mW rfl rfl (rD _ _) (fun hg=>aC O3 (.r rfl) (fun _ hw=>(hCap _ _ _ (hA2.1 (nS hg)) (jI hw 0 _ rfl)).p)) rfl<|mW rfl rfl (rD _ _) (fun hg=>LO.add (.g hg rfl) (.r rfl) (wi (by omega) (by omega))) rfl<|yg2 0 (r:=r2) (vs:=[_]) (post:=fun b r'=>if b=true then J ((0+D1.toNat+D2.toNat)+1) r' else Jx ((0+D1.toNat+D2.toNat)+1) r') rfl rfl (rD _ _) rfl (fun hg=>.g hg rfl) (fun hg=>⟨.g hg rfl,trivial⟩) rfl (fun hg w2 hi hr hs=>hyl ((0+D1.toNat+D2.toNat)) _ (by rw[hD1,hD2,aI,fF,abq (of_decide_eq_true (hD3 ▸ nT hg))];rfl) r2 w2 (hA2.1 (nS hg)) hi hr hs) fun b3 r3 hp3 hq3=>have hA3:=Pf (J:=J) (Jx:=Jx) (s:=((D1&& !b1)||(D2&& !b2))) (d:=D3) (len:=((nb (gW g) (gH g) p).map nC).length) hA2.1 hA2.2 (hk3) hp3 hq3;mW rfl rfl (rD _ _) (fun hg=>LO.not (.g hg rfl)) rfl<|aK rfl (fun hg=>LO.qc (.g hg rfl) rfl (NI hg) (.r rfl))<|ah (LO.jZ (.r rfl) (.r rfl) rfl rfl) rfl<|aq ?_)
 refine ay rfl (fun h49=>?_) (fun h49=>?_)
 ·
  obtain⟨n3,hn3,hx3⟩:=hA3.2 (by simpa using h49)
  have hE:=PF (J:=J) (xs:=((nb (gW g) (gH g) p).map nC)) hn3 hx3
  refine be (VE.dB (VE.res (vs:=[]) rfl trivial (fun w hw=>?_)))
  exact⟨rfl,BU hE hw⟩
 ·
  have hJ:=hA3.1 (by simpa using h49)
  refine aE (aj<|au (ag rfl<|VO.p rfl rfl (by omega) (by omega) rfl<|VO.f (r:=4) uH rfl<|ah (aC O3 (.r rfl) (fun _ hw=>bI (off:=4) (hCap _ _ _ hJ (jI hw 0 _ rfl)).g ⟨_,rfl⟩)) rfl<|ah (LO.eqv (v':=.bool D4) (LO.lt (.r rfl) (.r rfl)) (by rw[hD4];exact dlt rfl hH.symm)) rfl<|aq<|ay rfl (fun h54=>?_) (fun h54=>?_)))
  ·
   refine VC.eX (ag rfl<|ah (aC O3 (.r rfl) (fun _ hw=>bI (off:=0) (hCap _ _ _ hJ (jI hw 0 _ rfl)).p ⟨_,rfl⟩)) rfl<|VO.f (r:=3) iQ rfl<|ah (aC O3 (.r rfl) (fun _ hw=>bI (off:=3) (hCap _ _ _ hJ (jI hw 0 _ rfl)).g ⟨_,rfl⟩)) rfl<|VO.p rfl rfl (by omega) (by omega) rfl<|aB rfl<|HO.yield 0 (r:=r3) (vs:=[_]) (post:=fun b r'=>if b=true then J (0+D1.toNat+D2.toNat+D3.toNat+1) r' else Jx (0+D1.toNat+D2.toNat+D3.toNat+1) r') (.r rfl) ⟨.r rfl,trivial⟩ rfl (fun w2 hi hr hs=>hyl (0+D1.toNat+D2.toNat+D3.toNat) _ (by rw[hD1,hD2,hD3,aI,fF,abJ (of_decide_eq_true (hD4 ▸ h54))];show some [cX .i64 ((p+gW g:Nat):Int)]=some [cX .i64 ((p:Int)+g.wide)];rw[←hW];rfl) r3 w2 hJ hi hr hs) fun b4 r4 hp4=>VO.nil ?_)
   have hE:J ((nb (gW g) (gH g) p).map nC).length r4∨∃n,n≤((nb (gW g) (gH g) p).map nC).length∧Jx n r4:=by
    have e4:0+D1.toNat+D2.toNat+D3.toNat+1=((nb (gW g) (gH g) p).map nC).length:=by rw[hlen,show D4=true from h54];simp only[nj];omega
    rw[e4]at hp4
    cases b4 with
    |true=>rw[if_pos rfl]at hp4;exact .inl hp4
    |false=>rw[if_neg (by decide)]at hp4;exact .inr ⟨_,cg _,hp4⟩
   refine VE.D5 (vs:=[]) rfl trivial (fun w hw=>?_)
   exact⟨rfl,BU hE hw⟩
  ·
   have hE:=MA (J:=J) (Jx:=Jx) (xs:=((nb (gW g) (gH g) p).map nC)) (r:=r3) (by rw[hlen,show D4=false by simpa using h54];simp only[Bool.toNat_false,Nat.add_zero];rw[fF]at hJ;exact hJ)
   refine aE (VE.D5 (vs:=[]) rfl trivial (fun w hw=>?_))
   exact⟨rfl,BU hE hw⟩
end Go.Proofs.YtgemekpofpoopaaGreat
namespace Go.Cell
set_option linter.unusedVariables false
section
variable (W H:Nat) (S:Nat→Bool)
def BV (p:Nat) (l:List Nat) (q:Nat):Int:=if q∈l then((dz W H S p).length:Int) else iG (dz W H S p) q
def zr (p:Nat) (l:List Nat):List Int:=(bF (W*H)).map (BV W H S p l)
end
section
variable {W H:Nat} {S:Nat→Bool} {p q r:Nat} {l:List Nat}
theorem oe:(zr W H S p l).length=W*H:=by unfold zr;simp
theorem uY (h:q<W*H):(zr W H S p l)[q]? =some (BV W H S p l q):=by
 unfold zr;rw[aI,fE h];rfl
theorem Mz:bH (W*H) (-1:Int)=zr W H S 0 []:=by
 refine cM fun q=>?_
 by_cases h:q<W*H
 ·rw[uY h,fb,if_pos h];simp [BV,dz,iG]
 ·rw[aQ (by simpa using h),aQ (by rw[oe];omega)]
theorem Iq (hr:r<W*H):(zr W H S p l).set r ((dz W H S p).length:Int)=zr W H S p (l++[r]):=by
 refine cM fun q=>?_
 by_cases h:q<W*H
 ·rw[uY h,eQ]
  by_cases e:r=q
  ·subst e
   rw[if_pos rfl,if_pos (by rw[oe];exact h)]
   unfold BV;rw[if_pos (by simp)]
  ·rw[if_neg e,uY h]
   unfold BV
   have:(q∈l++[r])↔q∈l:=by simp;intro z;exact absurd z.symm e
   by_cases z:q∈l
   ·rw[if_pos z,if_pos (this.2 z)]
   ·rw[if_neg z,if_neg (fun y=>z (this.1 y))]
 ·rw[aQ (by rw[eB,oe];omega),aQ (by rw[oe];omega)]
theorem WE (hp:p<W*H) (h:0≤BV W H S p [] p∨S p=false):dz W H S (p+1)=dz W H S p:=by
 refine ko fun⟨h1,h2⟩=>?_
 rcases h with h|h
 ·unfold BV at h
  rw[if_neg (by simp),yi h2]at h
  omega
 ·rw[h]at h1;cases h1
theorem RN (h:dz W H S (p+1)=dz W H S p):zr W H S (p+1) []=zr W H S p []:=by unfold zr BV;rw[h]
theorem Vd (h:¬0≤BV W H S p [] p):∀l,l∈dz W H S p→p∉l:=by
 unfold BV at h
 rw[if_neg (by simp)]at h
 exact w7.1 (by omega)
structure WL (W H:Nat) (S:Nat→Bool) (p:Nat) (l:List Nat) (i:Nat):Prop where
 Bg:l.Nodup
 mem:∀q,q∈l→q<W*H∧Cn W H S p q
 self:p∈l
 cl:∀(j q r:Nat),j<i→l[j]? =some q→r∈nb W H q→S r=true→r∈l
 le:i≤l.length
theorem WL.one (hp:p<W*H) (hs:S p=true):WL W H S p [p] 0:=⟨by simp,fun q hq=>by simp at hq;subst hq;exact⟨hp,.refl hs⟩,by simp,fun j q r hj=>absurd hj (cQ _),aY _⟩
theorem WL.len {i:Nat} (h:WL W H S p l i):l.length≤W*H:=by
 have:=length_le_of_subset (m:=bF (W*H)) h.Bg (fun x hx=>a8.2 (h.mem x hx).1)
 simpa using this
theorem WL.full (h:WL W H S p l l.length) (hp:p<W*H) (hs:S p=true):∀q,q∈l↔q∈gU W H S p:=fun q=>by
 rw[kg hp hs]
 refine⟨fun z=>(h.mem q z).2,fun z=>?_⟩
 refine z.closed (X:=fun x=>x∈l) h.self fun a b ha hb hS=>?_
 obtain⟨j,hj⟩:=eA.1 ha
 exact h.cl j a b (an.1 hj).1 hj hb hS
theorem OR (hp:p<W*H) (hs:S p=true) (hn:∀l,l∈dz W H S p→p∉l) (h:∀q,q∈l↔q∈gU W H S p):zr W H S p l=zr W H S (p+1) []:=by
 unfold zr
 refine eO fun q hq=>?_
 have hq:=a8.1 hq
 have e2:BV W H S (p+1) [] q=if iG (dz W H S p) q= -1 then(if q∈gU W H S p then((dz W H S p).length:Int) else-1) else iG (dz W H S p) q:=by
  unfold BV
  rw[if_neg (by simp),kq hs hn,Rn]
 rw[e2]
 unfold BV
 by_cases z:q∈l
 ·rw[if_pos z]
  have z2:=(h q).1 z
  have hno:∀m,m∈dz W H S p→q∉m:=fun m hm hqm=>by
   have h1:=(kg hp hs).1 z2
   obtain⟨_,_,h2,_⟩:=oA (pq hp) hm hqm
   exact hn m hm ((h2 p).2 (h1.symm hp))
  rw[if_pos (yi hno),if_pos z2]
 ·rw[if_neg z]
  by_cases y:iG (dz W H S p) q= -1
  ·rw[if_pos y,if_neg (fun z2=>z ((h q).2 z2)),y]
  ·rw[if_neg y]
structure WN (W H:Nat) (S:Nat→Bool) (p:Nat) (l:List Nat) (q k:Nat) (m:List Nat):Prop where
 Bg:m.Nodup
 mem:∀z,z∈m→z<W*H∧Cn W H S p z
 pre:∃t,m=l++t
 dn:∀(j r:Nat),j<k→(nb W H q)[j]? =some r→S r=true→r∈m
theorem WN.zero {i:Nat} (h:WL W H S p l i):WN W H S p l q 0 l:=⟨h.Bg,h.mem,⟨[],by simp⟩,fun j r hj=>absurd hj (cQ _)⟩
theorem WN.len {k:Nat} {m:List Nat} (h:WN W H S p l q k m):m.length≤W*H:=by
 have:=length_le_of_subset (m:=bF (W*H)) h.Bg (fun x hx=>a8.2 (h.mem x hx).1)
 simpa using this
theorem WN.skip {k:Nat} {m:List Nat} (h:WN W H S p l q k m) (hr:(nb W H q)[k]? =some r) (hx:S r=true→r∈m):WN W H S p l q (k+1) m:=by
 refine⟨h.Bg,h.mem,h.pre,fun j z hj hz hs=>?_⟩
 rcases bf j k with y|y
 ·exact h.dn j z y hz hs
 ·have:j=k:=by omega
  subst this
  rw[hr]at hz;cases hz
  exact hx hs
theorem WN.take {k i:Nat} {m:List Nat} (h:WN W H S p l q k m) (h0:WL W H S p l i) (hi:l[i]? =some q) (hr:(nb W H q)[k]? =some r) (hx:r∉m) (hs:S r=true):WN W H S p l q (k+1) (m++[r]):=by
 have hq:=h0.mem q (al hi)
 have hrn:=al hr
 obtain⟨t,ht⟩:=h.pre
 refine⟨jN.2 ⟨h.Bg,by simp,fun a ha b hb=>by simp at hb;subst hb;intro e;subst e;exact hx ha⟩,fun z hz=>?_,⟨t++[r],by rw[ht,dk]⟩,fun j z hj hz hS=>?_⟩
 ·rcases bQ.1 hz with y|y
  ·exact h.mem z y
  ·simp at y;subst y;exact⟨oz hq.1 hrn,.step hq.2 hrn hs⟩
 ·rcases bf j k with y|y
  ·exact dt _ (h.dn j z y hz hS)
  ·have:j=k:=by omega
   subst this
   rw[hr]at hz;cases hz
   simp
theorem Na {k i:Nat} {m:List Nat} (h:WN W H S p l q k m) (h0:WL W H S p l i) (hp:p<W*H) (hi:l[i]? =some q) (hr:(nb W H q)[k]? =some r) (hn:∀l,l∈dz W H S p→p∉l) (hs:S r=true):BV W H S p m r<0↔r∉m:=by
 have hq:=h0.mem q (al hi)
 have hrn:=al hr
 unfold BV
 by_cases z:r∈m
 ·rw[if_pos z];exact⟨fun y=>by omega,fun y=>absurd z y⟩
 ·rw[if_neg z]
  refine⟨fun _=>z,fun _=>?_⟩
  refine w7.2 fun x hx hrx=>?_
  obtain⟨_,_,h2,_⟩:=oA (pq hp) hx hrx
  have hc:Cn W H S p r:=.step hq.2 hrn hs
  exact hn x hx ((h2 p).2 (hc.symm hp))
theorem WN.done {k i:Nat} {m:List Nat} (h:WN W H S p l q k m) (h0:WL W H S p l i) (hi:l[i]? =some q) (hk:(nb W H q).length≤k):WL W H S p m (i+1):=by
 obtain⟨t,ht⟩:=h.pre
 have hil:=(an.1 hi).1
 refine⟨h.Bg,h.mem,by rw[ht];exact dt _ h0.self,fun j z r hj hz hr hs=>?_,by rw[ht,aJ];omega⟩
 rcases bf j i with y|y
 ·rw[ht,aV (by omega)]at hz
  rw[ht];exact dt _ (h0.cl j z r y hz hr hs)
 ·have:j=i:=by omega
  subst this
  rw[ht,aV hil,hi]at hz;cases hz
  obtain⟨n,hn⟩:=eA.1 hr
  exact h.dn n r (by have:=(an.1 hn).1;omega) hn hs
end
end Go.Cell
namespace Go.SL
set_option linter.unusedVariables false
section
variable {P:Program} {ro:Option Nat} {β:Bs} {N:Nat} {ds:List Deferred} {env:Env} {L:List dg} {Q:Exit→Act→World→Prop} {w v:World}
theorem VC.I5 {Lk Lf:List dg} {c:Code} (h:∀w1,St β (Lk++Lf) w1→VC P ro ⟨w1,mG Lk⟩ N ds env Lk c Q):VC P ro β N ds env (Lk++Lf) c Q:=fun a w ha hw=>h w hw a w ha (hw.has (List.sublist_append_left _ _))
theorem St.fz {R rest:List dg} (h:St β (R++rest) w) (hs:St ⟨w,mG R⟩ L v):St β (L++rest) v:=h.AV (fun k hk=>hk) hs
theorem St.ln {A B:List dg} (h:St β (A++B) w):St β B w:=h.map (fun j=>A.length+j) (fun a b hab _ _=>by omega) (fun j r hr=>.inr (by rw[bJ (by omega),show A.length+j-A.length=j by omega];exact hr))
variable {α:Type} {f:α→dg} {as_:List α} {a:α} {i:Nat}
theorem St.rh (h:St β (mo (as_.map f)::L) w) (hi:as_[i]? =some a):St β (f a::mo ((as_.eraseIdx i).map f)::L) w:=by
 obtain⟨hl,rfl⟩:=an.1 hi
 have e:as_.map f=(as_.take i).map f++f as_[i]::(as_.drop (i+1)).map f:=by
  rw[←List.map_cons, ←bG, ←List.drop_eq_getElem_cons hl,List.take_append_drop]
 rw[e]at h
 have h2:=St.focus h
 rw[nQ,bG]
 exact h2
theorem St.nK (h:St β (f a::mo ((as_.eraseIdx i).map f)::L) w) (hl:i<as_.length):St β (mo ((as_.set i a).map f)::L) w:=by
 rw[nQ,bG]at h
 have h2:=St.Cf h
 have e:(as_.set i a).map f=(as_.take i).map f++f a::(as_.drop (i+1)).map f:=by
  rw[List.set_eq_take_append_cons_drop,if_pos hl,bG,List.map_cons]
 rw[e]
 exact h2
end
end Go.SL
namespace Go.Cell
set_option linter.unusedVariables false
inductive Gp (W H:Nat) (M:Nat→Bool) (C:Nat→Nat) (p:Nat):Nat→Nat→Prop
 |start:M p=true→Gp W H M C p (C p) p
 |step {c q r:Nat}:Gp W H M C p c q→r∈nb W H q→M r=true→Gp W H M C p (c+C r) r
def IM (W H:Nat) (M:Nat→Bool) (C:Nat→Nat) (p q:Nat) (c:Int):Prop:=(c= -1∧∀n,¬Gp W H M C p n q)∨∃n:Nat,c=n∧Gp W H M C p n q∧∀m,Gp W H M C p m q→n≤m
def kG (ls:List Int):Nat:=(ls.filter fun x=>decide (x<0)).length
theorem Bo:∀{ls:List Int} {r:Nat} {v:Int},r<ls.length→ls.getD r (-1)<0→0≤v→kG (ls.set r v)+1=kG ls
 |[],r,v,h,_,_=>by simp at h
 |x::ls,0,v,_,hx,hv=>by
  have hx:x<0:=hx
  unfold kG
  rw[List.set_cons_zero,dj,dj,if_neg (by simpa using hv),if_pos (by simpa using hx)]
  rfl
 |x::ls,r+1,v,h,hx,hv=>by
  have ih:=Bo (ls:=ls) (r:=r) (v:=v) (by simpa using h) hx hv
  unfold kG at*
  rw[ql,dj,dj]
  split
  ·simp only[dX];omega
  ·exact ih
section
variable {W H:Nat} {M:Nat→Bool} {C:Nat→Nat} {p n q:Nat}
theorem Gp.may (h:Gp W H M C p n q):M q=true:=by cases h with|start h=>exact h|step _ _ h=>exact h
theorem Gp.lt (hp:p<W*H) (h:Gp W H M C p n q):q<W*H:=by induction h with|start _=>exact hp|step _ h _ ih=>exact oz ih h
end
def vY (n:Nat) (ls:List Int) (now next:List Nat) (e t:Nat):Prop:=(0≤ls.getD t (-1)∧ls.getD t (-1)≤e)∨(e=n∧t∈now)∨(e=n+1∧t∈next)
structure GI (W H:Nat) (M:Nat→Bool) (C:Nat→Nat) (p n:Nat) (ls:List Int) (now next:List Nat) (X:Nat→Nat→Prop):Prop where
 len:ls.length=W*H
 set:∀r,r<W*H→0≤ls.getD r (-1)→∃d:Nat,ls.getD r (-1)=d∧d≤n∧Gp W H M C p d r
 neg:∀r,r<W*H→ -1≤ls.getD r (-1)
 Aw:∀r,r∈now→r<W*H∧Gp W H M C p n r
 nxt:∀r,r∈next→r<W*H∧Gp W H M C p (n+1) r
 cl:∀(r t d:Nat),r<W*H→ls.getD r (-1)=d→t∈nb W H r→M t=true→¬X r t→vY n ls now next (d+C t) t
 st:vY n ls now next (C p) p
 bd:5*kG ls+now.length+next.length≤5*(W*H)+1
def X0:Nat→Nat→Prop:=fun _ _=>False
def XN (W H r k:Nat):Nat→Nat→Prop:=fun a t=>a=r∧¬∃j,j<k∧(nb W H r)[j]? =some t
section
variable {W H:Nat} {M:Nat→Bool} {C:Nat→Nat} {p n r:Nat} {ls:List Int} {now next:List Nat} {X:Nat→Nat→Prop}
theorem qF {m:Nat} {r:Nat}:(bH m (-1:Int)).getD r (-1)= -1:=by
 rw[aO,fb];split<;>rfl
theorem vX {m:Nat}:kG (bH m (-1:Int))=m:=by
 unfold kG
 rw[List.filter_replicate]
 simp
theorem GI.Yd (hp:p<W*H) (hM:M p=true) (hC:C p=0):GI W H M C p 0 (bH (W*H) (-1)) [p] [] X0:=by
 refine⟨by simp,fun r _ h=>by rw[qF]at h;omega,fun r _=>by rw[qF];omega,fun r hr=>?_,fun r hr=>(by cases hr),fun r t d _ h=>by rw[qF]at h;omega,.inr (.inl ⟨hC,by simp⟩),by rw[vX];simp⟩
 simp at hr;subst hr
 exact⟨hp,hC ▸ .start hM⟩
theorem GI.Yp (hp:p<W*H) (hM:M p=true) (hC:C p=1):GI W H M C p 0 (bH (W*H) (-1)) [] [p] X0:=by
 refine⟨by simp,fun r _ h=>by rw[qF]at h;omega,fun r _=>by rw[qF];omega,fun r hr=>(by cases hr),fun r hr=>?_,fun r t d _ h=>by rw[qF]at h;omega,.inr (.inr ⟨hC,by simp⟩),by rw[vX];simp⟩
 simp at hr;subst hr
 exact⟨hp,by have:=Gp.start (W:=W) (H:=H) (C:=C) hM;rw[hC]at this;exact this⟩
theorem GI.skip (h:GI W H M C p n ls (now++[r]) next X) (hr:0≤ls.getD r (-1)):GI W H M C p n ls now next X:=by
 have hrn:=h.Aw r (by simp)
 obtain⟨d,hd,hdn,_⟩:=h.set r hrn.1 hr
 have pd:∀e t,vY n ls (now++[r]) next e t→vY n ls now next e t:=fun e t k=>by
  rcases k with k|⟨k1,k2⟩|k
  ·exact .inl k
  ·rcases bQ.1 k2 with z|z
   ·exact .inr (.inl ⟨k1,z⟩)
   ·simp at z;subst z
    exact .inl ⟨hr,by omega⟩
  ·exact .inr (.inr k)
 have hb:=h.bd
 rw[aJ]at hb
 exact⟨h.len,h.set,h.neg,fun a ha=>h.Aw a (by simp [ha]),h.nxt,fun a t d h1 h2 h3 h4 h5=>pd _ _ (h.cl a t d h1 h2 h3 h4 h5),pd _ _ h.st,by simp at hb;omega⟩
theorem oB {ls:List Int} {r t:Nat} {v:Int} (hr:r<ls.length):(ls.set r v).getD t (-1)=if r=t then v else ls.getD t (-1):=by
 rw[aO,aO,eQ]
 by_cases e:r=t
 ·subst e;rw[if_pos rfl,if_pos rfl,if_pos hr];rfl
 ·rw[if_neg e,if_neg e]
theorem GI.put (h:GI W H M C p n ls (now++[r]) next X0) (hr:ls.getD r (-1)<0):GI W H M C p n (ls.set r n) now next (XN W H r 0)∧kG (ls.set r (n:Int))+1=kG ls:=by
 have hrn:=h.Aw r (by simp)
 have hrl:r<ls.length:=by rw[h.len];exact hrn.1
 have hu:=Bo hrl hr (v:=(n:Int)) (fW _)
 have pd:∀e t,vY n ls (now++[r]) next e t→vY n (ls.set r n) now next e t:=fun e t k=>by
  unfold vY
  rw[oB hrl]
  by_cases z:r=t
  ·subst z
   rw[if_pos rfl]
   rcases k with⟨k1,_⟩|⟨k1,_⟩|⟨k1,_⟩
   ·omega
   ·exact .inl ⟨by omega,by omega⟩
   ·exact .inl ⟨by omega,by omega⟩
  ·rw[if_neg z]
   rcases k with k|⟨k1,k2⟩|k
   ·exact .inl k
   ·rcases bQ.1 k2 with y|y
    ·exact .inr (.inl ⟨k1,y⟩)
    ·simp at y;exact absurd y.symm z
   ·exact .inr (.inr k)
 have hb:=h.bd
 rw[aJ]at hb
 refine⟨⟨by rw[eB];exact h.len,fun a ha k=>?_,fun a ha=>?_,fun a ha=>h.Aw a (by simp [ha]),h.nxt,fun a t d h1 h2 h3 h4 h5=>?_,pd _ _ h.st,by simp at hb;omega⟩,hu⟩
 ·rw[oB hrl]at k ⊢
  by_cases z:r=a
  ·subst z;rw[if_pos rfl];exact⟨n,rfl,cg _,hrn.2⟩
  ·rw[if_neg z]at k ⊢;exact h.set a ha k
 ·rw[oB hrl]
  split
  ·omega
  ·exact h.neg a ha
 ·rw[oB hrl]at h2
  by_cases z:r=a
  ·exfalso;exact h5 ⟨z.symm,fun⟨j,hj,_⟩=>absurd hj (cQ _)⟩
  ·rw[if_neg z]at h2;exact pd _ _ (h.cl a t d h1 h2 h3 h4 (fun f=>f))
theorem Cl {r k t a x:Nat} (ht:(nb W H r)[k]? =some t) (h:¬XN W H r (k+1) a x):¬XN W H r k a x∨(a=r∧x=t):=by
 by_cases z:XN W H r k a x
 ·right
  obtain⟨h1,h2⟩:=z
  refine⟨h1,?_⟩
  have h3:∃j,j<k+1∧(nb W H r)[j]? =some x:=dx fun y=>h ⟨h1,y⟩
  obtain⟨j,hj,hx⟩:=h3
  have:j=k:=by
   rcases bf j k with y|y
   ·exact absurd ⟨j,y,hx⟩ h2
   ·omega
  subst this
  rw[ht]at hx;exact(eI hx).symm
 ·exact .inl z
theorem GI.Oq {k t:Nat} (h:GI W H M C p n ls now next (XN W H r k)) (hr:r<W*H) (hrd:ls.getD r (-1)=n) (ht:(nb W H r)[k]? =some t) (hx:¬(M t=true∧ls.getD t (-1)<0)):GI W H M C p n ls now next (XN W H r (k+1)):=by
 refine⟨h.len,h.set,h.neg,h.Aw,h.nxt,fun a x d h1 h2 h3 h4 h5=>?_,h.st,h.bd⟩
 rcases Cl ht h5 with z|⟨rfl,rfl⟩
 ·exact h.cl a x d h1 h2 h3 h4 z
 ·have hge:0≤ls.getD x (-1):=by
   rcases Int.lt_or_le (ls.getD x (-1)) 0 with y|y
   ·exact absurd ⟨h4,y⟩ hx
   ·exact y
  obtain⟨e,he,hen,_⟩:=h.set x (oz hr (al ht)) hge
  exact .inl ⟨hge,by rw[he];omega⟩
theorem GI.Ye {k t:Nat} (h:GI W H M C p n ls now next (XN W H r k)) (hb:5*kG ls+now.length+next.length+1≤5*(W*H)+1) (hr:r<W*H) (hrd:ls.getD r (-1)=n) (ht:(nb W H r)[k]? =some t) (hM:M t=true) (hC:C t=0):GI W H M C p n ls (now++[t]) next (XN W H r (k+1)):=by
 obtain⟨d,hd,hdn,hg⟩:=h.set r hr (by rw[hrd];omega)
 have hdn2:d=n:=by rw[hrd]at hd;omega
 subst hdn2
 have hgt:Gp W H M C p d t:=by have:=Gp.step hg (al ht) hM;rw[hC]at this;exact this
 have pd:∀e x,vY d ls now next e x→vY d ls (now++[t]) next e x:=fun e x k=>by
  rcases k with k|⟨k1,k2⟩|k
  ·exact .inl k
  ·exact .inr (.inl ⟨k1,dt _ k2⟩)
  ·exact .inr (.inr k)
 refine⟨h.len,h.set,h.neg,fun a ha=>?_,h.nxt,fun a x e h1 h2 h3 h4 h5=>?_,pd _ _ h.st,by rw[aJ];simp;omega⟩
 ·rcases bQ.1 ha with z|z
  ·exact h.Aw a z
  ·simp at z;subst z;exact⟨oz hr (al ht),hgt⟩
 ·rcases Cl ht h5 with z|⟨rfl,rfl⟩
  ·exact pd _ _ (h.cl a x e h1 h2 h3 h4 z)
  ·have:e=d:=by rw[hrd]at h2;omega
   subst this
   exact .inr (.inl ⟨by omega,by simp⟩)
theorem GI.Vr {k t:Nat} (h:GI W H M C p n ls now next (XN W H r k)) (hb:5*kG ls+now.length+next.length+1≤5*(W*H)+1) (hr:r<W*H) (hrd:ls.getD r (-1)=n) (ht:(nb W H r)[k]? =some t) (hM:M t=true) (hC:C t=1):GI W H M C p n ls now (next++[t]) (XN W H r (k+1)):=by
 obtain⟨d,hd,hdn,hg⟩:=h.set r hr (by rw[hrd];omega)
 have hdn2:d=n:=by rw[hrd]at hd;omega
 subst hdn2
 have hgt:Gp W H M C p (d+1) t:=by have:=Gp.step hg (al ht) hM;rw[hC]at this;exact this
 have pd:∀e x,vY d ls now next e x→vY d ls now (next++[t]) e x:=fun e x k=>by
  rcases k with k|k|⟨k1,k2⟩
  ·exact .inl k
  ·exact .inr (.inl k)
  ·exact .inr (.inr ⟨k1,dt _ k2⟩)
 refine⟨h.len,h.set,h.neg,h.Aw,fun a ha=>?_,fun a x e h1 h2 h3 h4 h5=>?_,pd _ _ h.st,by rw[aJ];simp;omega⟩
 ·rcases bQ.1 ha with z|z
  ·exact h.nxt a z
  ·simp at z;subst z;exact⟨oz hr (al ht),hgt⟩
 ·rcases Cl ht h5 with z|⟨rfl,rfl⟩
  ·exact pd _ _ (h.cl a x e h1 h2 h3 h4 z)
  ·have:e=d:=by rw[hrd]at h2;omega
   subst this
   exact .inr (.inr ⟨by omega,by simp⟩)
theorem GI.Of {k:Nat} (h:GI W H M C p n ls now next (XN W H r k)) (hk:(nb W H r).length≤k):GI W H M C p n ls now next X0:=by
 refine⟨h.len,h.set,h.neg,h.Aw,h.nxt,fun a x e h1 h2 h3 h4 h5=>?_,h.st,h.bd⟩
 refine h.cl a x e h1 h2 h3 h4 fun⟨z1,z2⟩=>?_
 subst z1
 obtain⟨j,hj⟩:=eA.1 h3
 exact z2 ⟨j,by have:=(an.1 hj).1;omega,hj⟩
theorem GI.swap (h:GI W H M C p n ls [] next X0):GI W H M C p (n+1) ls next [] X0:=by
 have pd:∀e x,vY n ls [] next e x→vY (n+1) ls next [] e x:=fun e x k=>by
  rcases k with k|⟨_,k2⟩|⟨k1,k2⟩
  ·exact .inl k
  ·cases k2
  ·exact .inr (.inl ⟨k1,k2⟩)
 refine⟨h.len,fun r h1 h2=>?_,h.neg,h.nxt,fun r hr=>(by cases hr),fun a x e h1 h2 h3 h4 h5=>pd _ _ (h.cl a x e h1 h2 h3 h4 h5),pd _ _ h.st,by have:=h.bd;simp at this ⊢;omega⟩
 obtain⟨d,hd,hn,hg⟩:=h.set r h1 h2
 exact⟨d,hd,by omega,hg⟩
theorem GI.fin (h:GI W H M C p n ls [] [] X0) (hp:p<W*H) {c q:Nat} (hg:Gp W H M C p c q):0≤ls.getD q (-1)∧ls.getD q (-1)≤c:=by
 induction hg with
 |start _=>
  rcases h.st with k|⟨_,k⟩|⟨_,k⟩
  ·exact k
  ·cases k
  ·cases k
 |step hq hr hM ih=>
  obtain⟨d,hd,_,_⟩:=h.set _ (hq.lt hp) ih.1
  rcases h.cl _ _ d (hq.lt hp) hd hr hM (fun f=>f) with k|⟨_,k⟩|⟨_,k⟩
  ·exact⟨k.1,by omega⟩
  ·cases k
  ·cases k
theorem GI.gap (h:GI W H M C p n ls [] [] X0) (hp:p<W*H) {q:Nat} (hq:q<W*H):IM W H M C p q (ls.getD q (-1)):=by
 rcases Int.lt_or_le (ls.getD q (-1)) 0 with z|z
 ·left
  have:=h.neg q hq
  exact⟨by omega,fun n hg=>by have:=h.fin hp hg;omega⟩
 ·right
  obtain⟨d,hd,_,hg⟩:=h.set q hq z
  exact⟨d,hd,hg,fun m hm=>by have:=h.fin hp hm;omega⟩
end
end Go.Cell
namespace Go.SL
set_option linter.unusedVariables false
open Go.RowKit
structure Oc {α:Type} (P:Program) (K:TypeId) (kE:α→Value):Prop where
 inj:∀{a b:α},kE a=kE b→a=b
 FI:∀(e:Bool) (n:Nat) (a:α) (w:World),(ph e (n+2) K (kE a)).run P w= .ok () w
 find:∀(n:α) (es:List MapEntry) (w:World),(∀e,e∈es→∃m,e.key=kE m)→
  (∃j e,(oF K (kE n) es).run P w= .ok (some (j,e.val)) w∧es[j]? =some e∧e.key=kE n)∨((oF K (kE n) es).run P w= .ok none w∧∀e,e∈es→e.key≠kE n)
 bits:∀a:α,l5 10000 (kE a) (kE a)=true
section
variable {α δ:Type} {kE:α→Value} {vE:δ→Value}
structure Aq (kE:α→Value) (vE:δ→Value) (es:List MapEntry) (M:α→Option δ):Prop where
 IJ:∀e,e∈es→∃n v,e.key=kE n∧e.val=vE v∧M n=some v
 mem:∀n v,M n=some v→∃e,e∈es∧e.key=kE n∧e.val=vE v
 Bg:es.Pairwise fun a b=>a.key≠b.key
def kB [DecidableEq α] (M:α→Option δ) (n:α) (v:δ):α→Option δ:=fun m=>if m=n then some v else M m
def jr (kE:α→Value) (vE:δ→Value) (b:Nat) (M:α→Option δ):dg:=⟨fun k=>k=b,fun w=>∃es clock,w.heap[b]? =some (.map es clock)∧Aq kE vE es.toList M∧sf es.toList clock,fun h ⟨es,c,h1,h2⟩=>⟨es,c,(h b rfl).trans h1,h2⟩⟩
variable {es:List MapEntry} {M:α→Option δ}
theorem M5 (hi:∀{a b:α},kE a=kE b→a=b) (h:Aq kE vE es M) {e:MapEntry} {n:α} (he:e∈es) (hk:e.key=kE n):∃v,e.val=vE v∧M n=some v:=by
 obtain⟨m,v,h1,h2,h3⟩:=h.IJ e he
 have:m=n:=hi (h1.symm.trans hk)
 subst this
 exact⟨v,h2,h3⟩
theorem Lg (h:Aq kE vE es M) {n:α} (hn:∀e,e∈es→e.key≠kE n):M n=none:=by
 cases q:M n with
 |none=>rfl
 |some v=>obtain⟨e,h1,h2,_⟩:=h.mem n v q;exact absurd h2 (hn e h1)
theorem Mw:Aq kE vE [] (fun _=>none):=⟨fun _ h=>(by cases h),fun _ _ h=>(by cases h),S0⟩
variable [DecidableEq α]
theorem Kk (h:Aq kE vE es M) {n:α} {v:δ} {c:Nat} (hn:∀e,e∈es→e.key≠kE n):Aq kE vE (es++[⟨kE n,vE v,c⟩]) (kB M n v):=by
 refine⟨fun e he=>?_,fun m u hm=>?_,?_⟩
 ·rcases bQ.1 he with q|q
  ·obtain⟨m,u,h1,h2,h3⟩:=h.IJ e q
   refine⟨m,u,h1,h2,?_⟩
   unfold kB
   rw[if_neg (fun z=>hn e q (by rw[h1,z]))];exact h3
  ·have:=bW.1 q;subst this
   exact⟨n,v,rfl,rfl,if_pos rfl⟩
 ·unfold kB at hm
  split at hm
  ·rename_i q;cases hm;subst q;exact⟨_,List.mem_append_right _ (bW.2 rfl),rfl,rfl⟩
  ·obtain⟨e,h1,h2,h3⟩:=h.mem m u hm;exact⟨e,dt _ h1,h2,h3⟩
 ·rw[jD]
  refine⟨h.Bg,by simp,fun a ha b hb=>?_⟩
  have:=bW.1 hb;subst this
  exact hn a ha
theorem MC (hinj:∀{a b:α},kE a=kE b→a=b) (h:Aq kE vE es M) {j:Nat} {e:MapEntry} {n:α} {v:δ} (hj:es[j]? =some e) (hk:e.key=kE n):Aq kE vE (es.set j ⟨kE n,vE v,e.born⟩) (kB M n v):=by
 have hjl:=(an.1 hj).1
 have hje:=(an.1 hj).2
 have hkey:∀i (h1:i<(es.set j ⟨kE n,vE v,e.born⟩).length) (h2:i<es.length),(es.set j ⟨kE n,vE v,e.born⟩)[i].key=es[i].key:=fun i h1 h2=>by
  rw[List.getElem_set]
  split
  ·rename_i q;subst q;rw[hje,hk]
  ·rfl
 have hne:∀i,i<es.length→(hi:i<es.length)→i≠j→es[i].key≠kE n:=fun i _ hi hij z=>by
  have pw:=cj.1 h.Bg
  rcases Nat.lt_or_gt_of_ne hij with q|q
  ·exact pw i j hi hjl q (by rw[z,hje,hk])
  ·exact pw j i hjl hi q (by rw[z,hje,hk])
 refine⟨fun x hx=>?_,fun m u hm=>?_,?_⟩
 ·obtain⟨i,hi,rfl⟩:=fD hx
  have hi2:i<es.length:=by simpa using hi
  by_cases q:j=i
  ·subst q
   rw[List.getElem_set_self]
   exact⟨n,v,rfl,rfl,if_pos rfl⟩
  ·rw[List.getElem_set_ne q]
   obtain⟨m,u,h1,h2,h3⟩:=h.IJ _ (gS hi2)
   refine⟨m,u,h1,h2,?_⟩
   unfold kB
   rw[if_neg (fun z=>hne i hi2 hi2 (fun y=>q y.symm) (by rw[h1,z]))];exact h3
 ·unfold kB at hm
  split at hm
  ·rename_i q;cases hm;subst q
   exact⟨_,al (i:=j) (by rw[j0 hjl]),rfl,rfl⟩
  ·rename_i q
   obtain⟨x,h1,h2,h3⟩:=h.mem m u hm
   obtain⟨i,hi,rfl⟩:=fD h1
   have hij:j≠i:=fun z=>by subst z;rw[hje,hk]at h2;exact q (hinj h2).symm
   exact⟨_,al (i:=i) (by rw[fm hij,aw hi]),h2,h3⟩
 ·rw[cj]
  intro a b ha hb hab
  rw[hkey a ha (by simpa using ha),hkey b hb (by simpa using hb)]
  exact cj.1 h.Bg a b _ _ hab
theorem Kc {α:Type} {kE:α→Value} {M:α→Option δ} (hinj:∀{a b:α},kE a=kE b→a=b) (h:Aq kE vE es M) {ks:List α} (hn:ks.Nodup) (hk:∀a,a∈ks↔(M a).isSome=true):es.length=ks.length:=by
 have h1:(es.map (·.key)).Nodup:=by rw[mc,gk];exact h.Bg
 have h2:(ks.map kE).Nodup:=by
  rw[mc,gk]
  exact(mc.1 hn).imp fun {a b} q z=>q (hinj z)
 have h3:∀x,x∈es.map (·.key)↔x∈ks.map kE:=fun x=>by
  constructor
  ·intro hx
   obtain⟨e,he,rfl⟩:=bN.1 hx
   obtain⟨n,v,g1,_,g3⟩:=h.IJ e he
   exact bN.2 ⟨n,(hk n).2 (by rw[g3];rfl),g1.symm⟩
  ·intro hx
   obtain⟨n,hn,rfl⟩:=bN.1 hx
   obtain⟨v,hv⟩:=Option.isSome_iff_exists.1 ((hk n).1 hn)
   obtain⟨e,g1,g2,_⟩:=h.mem n v hv
   exact bN.2 ⟨e,g1,g2⟩
 have a1:=mK h1 (fun x hx=>(h3 x).1 hx)
 have a2:=mK h2 (fun x hx=>(h3 x).2 hx)
 simp only[ak]at a1 a2
 omega
end
section
variable {P:Program} {ro:Option Nat} {β:Bs} {N:Nat} {ds:List Deferred} {env:Env} {L:List dg} {Q:Exit→Act→World→Prop}
variable {d:Option Nat} {ty:TypeId} {pos:String} {aft:Array Edge} {g:Option (Nat×Bool)}
variable {α δ:Type} {kE:α→Value} {vE:δ→Value}
def sq (P:Program) (T:Nat) (kE:α→Value) (vE:δ→Value) (d0:δ):Prop:=∃K E,P.underlying T=some (.map K E)∧Oc P K kE∧dr P E (vE d0)
theorem uT {T b:Nat} {M:α→Option δ} {d0:δ} {n:α} {w:World} (c:Bool) (hT:sq P T kE vE d0) (hb:(jr kE vE b M).inv w):(Instr.lookup T (.map (some b)) (kE n) c).run P w= .ok (if c then .tuple #[vE ((M n).getD d0),.bool (M n).isSome] else vE ((M n).getD d0)) w:=by
 obtain⟨K,E,hu,hK,hz⟩:=hT
 obtain⟨es,clock,hb,hs,_⟩:=hb
 have hobj:(getObj b).run P w= .ok (.map es clock) w:=by simp [getObj,Sem.run,hb]
 simp only[Instr.lookup,bY,run_underlying hu,bP,hobj,dL,hK.FI]
 rcases hK.find n es.toList w (fun e he=>by obtain⟨m,_,h1,_⟩:=hs.IJ e he;exact⟨m,h1⟩) with⟨j,e,h1,h3,h4⟩|⟨h1,h2⟩
 ·rw[h1]
  obtain⟨v,g1,g2⟩:=M5 hK.inj hs (al h3) h4
  cases c<;>simp [g1,g2]
 ·rw[h1,Lg hs h2]
  cases c<;>simp [ot hz]
theorem LO.lkG {x y:Operand} {T b:Nat} {M:α→Option δ} {d0:δ} {n:α} (hT:sq P T kE vE d0) (hx:OV env x (.map (some b))) (hy:OV env y (kE n)) (hi:∀w,St β L w→(jr kE vE b M).inv w):LO P β env L ⟨d,.lookup T x y true,ty,pos,aft,g⟩ (.tuple #[vE ((M n).getD d0),.bool (M n).isSome]):=
 .fy fun a w h hw=>⟨w,by
  have:=uT (n:=n) true hT (hi w hw)
  simp only[if_true]at this
  simp [execOp,h x (by simp [aL]) _ hx,h y (by simp [aL]) _ hy,this],hw⟩
theorem LO.Mu {x y:Operand} {T b:Nat} {M:α→Option δ} {d0:δ} {n:α} (hT:sq P T kE vE d0) (hx:OV env x (.map (some b))) (hy:OV env y (kE n)) (hi:∀w,St β L w→(jr kE vE b M).inv w):LO P β env L ⟨d,.lookup T x y false,ty,pos,aft,g⟩ (vE ((M n).getD d0)):=
 .fy fun a w h hw=>⟨w,by
  have:=uT (n:=n) false hT (hi w hw)
  simp only[cA,if_false]at this
  simp [execOp,h x (by simp [aL]) _ hx,h y (by simp [aL]) _ hy,this],hw⟩
section
variable {K:Value→List dg→Prop} {dd:Option Nat}
theorem HO.yG {T:Nat} (kE:α→Value) (vE:δ→Value) (k:∀b,K (.map (some b)) (jr kE vE b (fun _=>none)::L)):HO P β env L ⟨dd,.makeMap T none,ty,pos,aft,none⟩ K:=by
 intro a w h hw
 refine .inl ⟨_,w.alloc (.map #[] 0),_,_,?_,.inl rfl,k w.heap.size,?_⟩
 ·simp only[execOp]
  rfl
 ·have h1:=hw.alloc (.map #[] 0)
  have:=h1.conv 0 (r':=jr kE vE w.heap.size (fun _=>none)) rfl (fun k hk=>hk) ⟨#[],0,h1.inv 0 _ rfl,Mw,by simp,by simp⟩
  simpa using this
variable [DecidableEq α]
theorem HO.MD (i:Nat) (LF:dg→List dg) {x y z:Operand} {T b:Nat} {M:α→Option δ} {d0:δ} (n:α) (v:δ) (hT:sq P T kE vE d0) (hx:OV env x (.map (some b))) (hy:OV env y (kE n)) (hz:OV env z (vE v)) (hi:L[i]? =some (jr kE vE b M)) (hL:∀R:dg,L.set i R=LF R)
  (k:K undef (LF (jr kE vE b (kB M n v)))):HO P β env L ⟨dd,.mapUpdate T x y z,ty,pos,aft,none⟩ K:=by
 intro a w h hw
 obtain⟨KT,E,hu,hK,_⟩:=hT
 obtain⟨es,clock,hb,hs,hst⟩:=hw.inv i _ hi
 have hlt:i<L.length:=by
  rcases bf i L.length with q|q
  ·exact q
  ·simp [aQ q]at hi
 have hobj:(getObj b).run P w= .ok (.map es clock) w:=by simp [getObj,Sem.run,hb]
 have hset:∀o,(setObj b o).run P w= .ok () (w.putObj b o):=fun o=>by simp [setObj,Sem.run,hb,World.putObj]
 have ex:a.eval x= .map (some b):=by obtain⟨u,hu,e⟩:=hx;subst e;exact h x (by simp [aL]) _ hu
 have ey:a.eval y=kE n:=by obtain⟨u,hu,e⟩:=hy;subst e;exact h y (by simp [aL]) _ hu
 have ez:a.eval z=vE v:=by obtain⟨u,hu,e⟩:=hz;subst e;exact h z (by simp [aL]) _ hu
 have h1:St β (L.set i (gq b (.map es clock))) w:=hw.conv i hi (fun k hk=>hk) hb
 have Ty:∀es' clock',Aq kE vE es'.toList (kB M n v)→sf es'.toList clock'→St β (L.set i (jr kE vE b (kB M n v))) (w.putObj b (.map es' clock')):=by
  intro es' clock' hse hst'
  have hg:(L.set i (gq b (.map es clock)))[i]? =some (gq b (.map es clock)):=by simp [hlt]
  have h2:=h1.obj (o':=.map es' clock') i hg
  rw[List.set_set]at h2
  have hg2:(L.set i (gq b (.map es' clock')))[i]? =some (gq b (.map es' clock')):=by simp [hlt]
  have h3:=h2.conv i (r':=jr kE vE b (kB M n v)) hg2 (fun k hk=>hk) ⟨es',clock',h2.inv i _ hg2,hse,hst'⟩
  rwa [List.set_set]at h3
 rcases hK.find n es.toList w (fun e he=>by obtain⟨m,_,h1,_⟩:=hs.IJ e he;exact⟨m,h1⟩) with⟨j,e,h1,h3,h4⟩|⟨h1,h2⟩
 ·have hj:es[j]? =some e:=by simpa using h3
  refine .inl ⟨.skip,w.putObj b (.map (es.modify j fun e=>{ e with key:=kE n,val:=vE v }) clock),undef,_,?_,.inr ⟨rfl,rfl⟩,k,by rw[←hL];exact Ty _ _ (by rw[y9 h3];exact MC hK.inj hs h3 h4) (by rw[y9 h3];exact Fo hst h3)⟩
  simp only[execOp,ex,ey,ez,bY,dL]
  refine IY ?_
  simp only[qA,bY,run_underlying hu,bP,hobj,hK.FI]
  rw[h1]
  simp [hj,h4,Instr.keyThatStays,hK.bits]
  exact hset _
 ·refine .inl ⟨.skip,w.putObj b (.map (es.push { key:=kE n,val:=vE v,born:=clock }) (clock+1)),undef,_,?_,.inr ⟨rfl,rfl⟩,k,by rw[←hL];exact Ty _ _ (by rw[mr];exact Kk hs h2) (by rw[mr];exact En hst)⟩
  simp only[execOp,ex,ey,ez,bY,dL]
  refine IY ?_
  simp only[qA,bY,run_underlying hu,bP,hobj,hK.FI]
  rw[h1]
  exact hset _
end
end
section
variable {P:Program}
theorem R2 {K:TypeId} (hK:P.underlying K=some (.int .i64)):Oc P K je where
 inj:=pJ
 FI:=fun e n a w=>o5 hK e (n+1) _ w
 find:=fun n es w h=>by
  simp only[oF,bY,run_underlying hK,bP]
  rcases xn (k:=.i64) (n:=n) (es:=es) 0 h with⟨j,e,h1,h2,h3,h4⟩|⟨h1,h2⟩
  ·rw[h1];exact .inl ⟨j,e,rfl,by simpa using h3,h4⟩
  ·rw[h1];exact .inr ⟨rfl,h2⟩
 bits:=fun a=>by simp [l5,je]
structure w6 {γ:Type} [DecidableEq γ] (P:Program) (T:TypeId) (c:γ→Value):Prop where
 inj:∀{a b:γ},c a=c b→a=b
 FI:∀(e:Bool) (n:Nat) (a:γ) (w:World),(ph e (n+1) T (c a)).run P w= .ok () w
 eql:∀(d:Nat) (a b:γ) (w:World),(jg (d+1) T (c a) (c b)).run P w= .ok (decide (a=b)) w
 one:jJ P T
 bits:∀(n:Nat) (a:γ),l5 n (c a) (c a)=true
theorem tq {T:TypeId} (hT:P.underlying T=some (.int .i64)) (h1:jJ P T):w6 P T je where
 inj:=pJ
 FI:=fun e n a w=>o5 hT e n _ w
 eql:=fun d a b w=>by rw[je,je,run_equalIn_int w d T .i64 .i64 a b hT];rfl
 one:=h1
 bits:=fun n a=>by cases n<;>simp [l5,je]
theorem yU {T:TypeId} (hT:P.underlying T=some .bool) (h1:jJ P T):w6 P T iB where
 inj:=fun h=>by simpa using h
 FI:=fun e n a w=>by simp [ph,run_underlying hT]
 eql:=fun d a b w=>by
  simp only[jg,bY,run_underlying hT,bP,dL]
  cases a<;>cases b<;>rfl
 one:=h1
 bits:=fun n a=>by cases n<;>simp [l5]
def NW (P:Program) (K T0 T1:TypeId):Prop:=∃F0 F1:Field,P.underlying K=some (.struct #[F0,F1])∧F0.name≠ "_" ∧F1.name≠ "_" ∧F0.offset=0∧F1.offset=1∧F0.type=T0∧F1.type=T1∧P.stoodInHeld K=false
variable {γ0 γ1:Type} [DecidableEq γ0] [DecidableEq γ1] {c0:γ0→Value} {c1:γ1→Value} {K T0 T1:TypeId}
abbrev qI (c0:γ0→Value) (c1:γ1→Value) (x:γ0×γ1):Value:=.agg #[c0 x.1,c1 x.2]
theorem qO {T:TypeId} (h:jJ P T) {cs:Array Value} {o:Nat} {v:Value} (hv:cs[o]? =some v) (w:World):(part T cs o).run P w= .ok v w:=by
 simp [part,qC h,hv]
theorem DA (h0:w6 P T0 c0) (h1:w6 P T1 c1) (hK:NW P K T0 T1) (x y:γ0×γ1) (d:Nat) (w:World):(jg (d+2) K (qI c0 c1 x) (qI c0 c1 y)).run P w= .ok (decide (x=y)) w:=by
 obtain⟨F0,F1,hu,n0,n1,o0,o1,t0,t1,hs⟩:=hK
 have hfs:P.fieldsOf K=#[F0,F1]:=by simp [Program.fieldsOf,hu]
 rw[qI,qI,run_equalIn_struct w (d+1) K _ _ (by rw[hfs];exact hu) hs,hfs]
 simp only[Op.eqFields,n0,n1,ne_eq,not_false_eq_true,if_true,bY,o0,o1,t0,t1]
 rw[qO h0.one (v:=c0 x.1) rfl,bP,qO h0.one (v:=c0 y.1) rfl,bP,h0.eql,bP]
 obtain⟨x0,x1⟩:=x
 obtain⟨y0,y1⟩:=y
 by_cases e0:x0=y0
 ·subst e0
  simp only[decide_true,Bool.not_true,cA,if_false,bY]
  rw[qO h1.one (v:=c1 x1) rfl,bP,qO h1.one (v:=c1 y1) rfl,bP,h1.eql,bP]
  by_cases e1:x1=y1
  ·subst e1;simp
  ·simp [e1]
 ·simp [e0]
theorem zl {fs:Array Field} {k:Value} {es:List MapEntry} {i:Nat}:lW (.struct fs) k es i=if es=[]then some none else none:=by
 cases es with
 |nil=>rfl
 |cons e es=>simp [lW,Instr.sameNow]
theorem se {α:Type} [DecidableEq α] {kE:α→Value} (hinj:∀{a b:α},kE a=kE b→a=b) (heq:∀(a b:α) (w:World),(q6 K (kE a) (kE b)).run P w= .ok (decide (a=b)) w) (n:α) (w:World):∀(es:List MapEntry) (i:Nat),(∀e,e∈es→∃m,e.key=kE m)→
  (∃j e,(sZ K (kE n) es i).run P w= .ok (some (j,e.val)) w∧i≤j∧es[j-i]? =some e∧e.key=kE n)∨((sZ K (kE n) es i).run P w= .ok none w∧∀e,e∈es→e.key≠kE n)
 |[],i,_=>.inr ⟨rfl,by simp⟩
 |e::es,i,h=>by
  obtain⟨m,hm⟩:=h e (by simp)
  simp only[sZ,bY,hm,heq,bP]
  by_cases q:n=m
  ·subst q
   left
   exact⟨i,e,by simp,cg _,by simp,hm⟩
  ·simp only[q,decide_false,cA,if_false]
   rcases se hinj heq n w es (i+1) (fun e' he=>h e' (by simp [he])) with⟨j,e',h1,h2,h3,h4⟩|⟨h1,h2⟩
   ·left
    refine⟨j,e',h1,by omega,?_,h4⟩
    rw[show j-i=(j-(i+1))+1 by omega]
    simpa using h3
   ·right
    refine⟨h1,fun e' he'=>?_⟩
    rcases dU.1 he' with rfl|he'
    ·rw[hm];exact fun z=>q (hinj z).symm
    ·exact h2 e' he'
theorem Dw (h0:w6 P T0 c0) (h1:w6 P T1 c1) (hK:NW P K T0 T1):Oc P K (qI c0 c1) where
 inj:=fun {a b} h=>by
  have e:=zV.2 (S3 h)
  simp at e
  exact Prod.ext (h0.inj e.1) (h1.inj e.2)
 FI:=fun e n x w=>by
  obtain⟨F0,F1,hu,n0,n1,o0,o1,t0,t1,hs⟩:=hK
  unfold Instr.checkKey
  simp only[bY,run_underlying hu,bP]
  rw[←Array.forIn_toList]
  simp only[List.forIn_cons,List.forIn_nil,n0,n1,ne_eq,not_false_eq_true,if_true,bY,o0,o1,t0,t1]
  rw[qO h0.one (v:=c0 x.1) rfl,bP,h0.FI]
  simp only[bP,dL,bY]
  rw[qO h1.one (v:=c1 x.2) rfl,bP,h1.FI]
  rfl
 find:=fun n es w h=>by
  have hinj:∀{a b:γ0×γ1},qI c0 c1 a=qI c0 c1 b→a=b:=fun {a b} h=>by
   have e:=zV.2 (S3 h)
   simp at e
   exact Prod.ext (h0.inj e.1) (h1.inj e.2)
  have heq:∀(a b:γ0×γ1) (w:World),(q6 K (qI c0 c1 a) (qI c0 c1 b)).run P w= .ok (decide (a=b)) w:=fun a b w=>DA h0 h1 hK a b 9998 w
  obtain⟨F0,F1,hu,_⟩:=hK
  simp only[oF,bY,run_underlying hu,bP,zl]
  by_cases q:es=[]
  ·subst q;exact .inr ⟨rfl,by simp⟩
  ·rw[if_neg q]
   rcases se hinj heq n w es 0 h with⟨j,e,h1,h2,h3,h4⟩|⟨h1,h2⟩
   ·exact .inl ⟨j,e,h1,by simpa using h3,h4⟩
   ·exact .inr ⟨h1,h2⟩
 bits:=fun x=>by simp [l5,h0.bits,h1.bits]
variable {ro:Option Nat} {β:Bs} {env:Env} {L:List dg} {d:Option Nat} {ty:TypeId} {pos:String} {aft:Array Edge} {g:Option (Nat×Bool)}
theorem LO.neP {x y:Operand} {yT:Nat} {a b:γ0×γ1} (h0:w6 P T0 c0) (h1:w6 P T1 c1) (hK:NW P K T0 T1) (hG:P.eqGuardType P.depth K=false) (hx:OV env x (qI c0 c1 a)) (hy:OV env y (qI c0 c1 b)):LO P β env L ⟨d,.binOp .neq K x y yT,ty,pos,aft,g⟩ (.bool (!decide (a=b))):=
 .fy fun ac w h hw=>⟨w,by
  have h2:=DA h0 h1 hK a b 9998 w
  simp only[execOp,h x (by simp [aL]) _ hx,h y (by simp [aL]) _ hy,bY,run_eqGuard_agg w .neq K x y _ _ hG,bP,run_neq_struct,h2,dL],hw⟩
end
end Go.SL
namespace Go.Proofs.YtgemekpofpoopaaGreat
open Go.SL
set_option linter.unusedVariables false
section
variable {α:Type} [DecidableEq α]
structure Im (M:α→Option α) (ld:α→α):Prop where
 fix:∀x,M (ld x)=none
 stay:∀x,M x=none→ld x=x
 go:∀x y,M x=some y→ld y=ld x
 jC:∃r:α→Nat,∀x y,M x=some y→r y<r x
inductive vQ (J:α→α→Prop):α→α→Prop
 |refl (x):vQ J x x
 |base {x y}:J x y→vQ J x y
 |symm {x y}:vQ J x y→vQ J y x
 |trans {x y z}:vQ J x y→vQ J y z→vQ J x z
theorem vQ.mono {α:Type} {J K:α→α→Prop} (h:∀x y,J x y→K x y) {x y:α} (k:vQ J x y):vQ K x y:=by
 induction k with
 |refl x=>exact .refl x
 |base j=>exact .base (h _ _ j)
 |symm _ ih=>exact ih.symm
 |trans _ _ i1 i2=>exact i1.trans i2
theorem Im.nil {α:Type}:Im (fun _:α=>none) id:=⟨fun _=>rfl,fun _ _=>rfl,fun _ _ h=>(by cases h),⟨fun _=>0,fun _ _ h=>(by cases h)⟩⟩
def wU (M:α→Option α) (ld:α→α) (x y:α):α→Option α:=if ld x=ld y then M else kB M (ld y) (ld x)
def qN (ld:α→α) (x y:α):α→α:=fun z=>if ld z=ld y then ld x else ld z
theorem Im.idem {α:Type} {M:α→Option α} {ld:α→α} (h:Im M ld) (x:α):ld (ld x)=ld x:=h.stay _ (h.fix x)
theorem Im.join {M:α→Option α} {ld:α→α} (h:Im M ld) (x y:α):Im (wU M ld x y) (qN ld x y):=by
 unfold wU
 split
 ·rename_i e
  have:qN ld x y=ld:=by funext z;unfold qN;split<;>simp_all
  rw[this];exact h
 ·rename_i e
  obtain⟨r,hr⟩:=h.jC
  have lx:=h.idem x
  have ly:=h.idem y
  refine⟨fun z=>?_,fun z hz=>?_,fun z u hz=>?_,⟨fun z=>if ld z=ld y then r z+r (ld x)+1 else r z,fun z u hz=>?_⟩⟩
  ·show kB M (ld y) (ld x) (qN ld x y z)=none
   unfold qN
   by_cases q:ld z=ld y
   ·rw[if_pos q];unfold kB;rw[if_neg e];exact h.fix x
   ·rw[if_neg q];unfold kB;rw[if_neg q];exact h.fix z
  ·unfold kB at hz
   split at hz
   ·cases hz
   ·rename_i q
    have hs:=h.stay z hz
    unfold qN
    rw[hs,if_neg q]
  ·unfold kB at hz
   split at hz
   ·rename_i q
    cases hz
    subst q
    unfold qN
    rw[lx,ly,if_neg e,if_pos rfl]
   ·unfold qN
    rw[h.go z u hz]
  ·unfold kB at hz
   dsimp only
   split at hz
   ·rename_i q
    cases hz
    subst q
    rw[lx,ly,if_neg e,if_pos rfl];omega
   ·have:=hr z u hz
    rw[h.go z u hz]
    split<;>omega
theorem NJ {J:α→α→Prop} {ld:α→α} (h:∀a b,ld a=ld b↔vQ J a b) (x y:α) (a b:α):qN ld x y a=qN ld x y b↔vQ (fun a b=>J a b∨(a=x∧b=y)) a b:=by
 have up:∀{a b},ld a=ld b→vQ (fun a b=>J a b∨(a=x∧b=y)) a b:=fun e=>((h _ _).1 e).mono fun _ _ j=>.inl j
 have xy:vQ (fun a b=>J a b∨(a=x∧b=y)) x y:=.base (.inr ⟨rfl,rfl⟩)
 constructor
 ·unfold qN
  intro e
  split at e
  ·rename_i ha
   split at e
   ·rename_i hb;exact up (ha.trans hb.symm)
   ·exact(up ha).trans (xy.symm.trans (up e))
  ·rename_i ha
   split at e
   ·rename_i hb;exact(up e).trans (xy.trans (up hb).symm)
   ·exact up e
 ·intro k
  induction k with
  |refl x=>rfl
  |base j=>
   rcases j with j|⟨rfl,rfl⟩
   ·unfold qN;rw[(h _ _).2 (.base j)]
   ·unfold qN;rw[if_pos rfl];split<;>rfl
  |symm _ ih=>exact ih.symm
  |trans _ _ i1 i2=>exact i1.trans i2
end
theorem Bu {α:Type} {l:List α} {i j:Nat} {f:α→α} (h:i≠j):(l.modify i f)[j]? =l[j]? :=by simp [jE,h]
structure gF where
 kd:Int
 f:List Nat
 t:List Nat
def iR (a b:Nat):Int:=if a=0 then 2 else if b=0 then 3 else if a=1 then(if b=1 then 4 else 5) else if b=1 then 6 else 7
section
variable {α:Type} [DecidableEq α] {κ:Nat→α} {n t:Nat}
def iT (κ:Nat→α) (k:Nat):Bool:=decide (∀j,j<k→κ j≠κ k)
def gE (κ:Nat→α) (t:Nat):List Nat:=(bF t).filter (iT κ)
def rU (κ:Nat→α) (n t k:Nat):gF:=⟨0,(bF (min t n)).filter (fun i=>decide (κ i=κ k)),(bF (t-n)).filter (fun j=>decide (κ (n+j)=κ k))⟩
def BP (κ:Nat→α) (n t:Nat):List gF:=(gE κ t).map (rU κ n t)
def tX (n t:Nat) (e:gF):gF:=if t<n then { e with f:=e.f++[t] } else { e with t:=e.t++[t-n] }
theorem jS {k:Nat}:k∈gE κ t↔k<t∧∀j,j<k→κ j≠κ k:=by unfold gE iT;rw[bR,a8,decide_eq_true_eq]
theorem u4:(gE κ t).Nodup:=uy _ lF
theorem Bl {i j:Nat} (hi:i∈gE κ t) (hj:j∈gE κ t) (e:κ i=κ j):i=j:=by
 have a:=(jS.1 hi).2
 have b:=(jS.1 hj).2
 rcases ic i j with q|q|q
 ·exact absurd e (b i q)
 ·exact q
 ·exact absurd e.symm (a j q)
theorem qf:gE κ (t+1)=gE κ t++if iT κ t then[t] else[]:=by
 unfold gE;rw[eZ,dI]
 congr 1
 by_cases h:iT κ t=true
 ·simp [h]
 ·simp [h]
theorem zc (κ:Nat→α):∀k,∃j,j≤k∧κ j=κ k∧iT κ j=true:=fun k=>by
 induction k using Nat.strongRecOn with
 |_ k ih=>
  by_cases h:iT κ k=true
  ·exact⟨k,cg _,rfl,h⟩
  ·unfold iT at h
   rw[decide_eq_true_eq]at h
   obtain⟨j,hj⟩:=na.1 h
   have hj2:j<k∧κ j=κ k:=by
    by_cases q:j<k
    ·exact⟨q,eK.1 (fun z=>hj (fun _=>z))⟩
    ·exact absurd (fun z=>absurd z q) hj
   obtain⟨i,h1,h2,h3⟩:=ih j hj2.1
   exact⟨i,by omega,h2.trans hj2.2,h3⟩
theorem u7 {k:Nat}:rU κ n (t+1) k=if κ t=κ k then tX n t (rU κ n t k) else rU κ n t k:=by
 unfold rU tX
 by_cases h:t<n
 ·rw[show min (t+1) n=min t n+1 by omega,eZ,dI,show min t n=t by omega,show t+1-n=t-n by omega]
  by_cases e:κ t=κ k
  ·rw[if_pos e,if_pos h];simp [e]
  ·rw[if_neg e];simp [e]
 ·rw[show min (t+1) n=min t n by omega,show t+1-n=(t-n)+1 by omega,eZ,dI]
  have:n+(t-n)=t:=by omega
  by_cases e:κ t=κ k
  ·rw[if_pos e,if_neg h];simp [this,e]
  ·rw[if_neg e];simp [this,e]
theorem Ri {p k0:Nat} (hp:(gE κ t)[p]? =some k0) (he:κ k0=κ t):gE κ (t+1)=gE κ t∧BP κ n (t+1)=(BP κ n t).modify p (tX n t):=by
 have hk0:=al hp
 have h1:gE κ (t+1)=gE κ t:=by
  have:¬iT κ t=true:=fun h=>by
   unfold iT at h;rw[decide_eq_true_eq]at h
   exact h k0 (jS.1 hk0).1 he
  rw[qf,if_neg this,ew]
 refine⟨h1,?_⟩
 unfold BP
 rw[h1]
 refine cM fun i=>?_
 rw[aI]
 by_cases q:i=p
 ·subst q
  rw[nh,aI,hp]
  simp only[ft]
  rw[u7,if_pos he.symm];rfl
 ·rw[Bu (fun z=>q z.symm),aI]
  cases hi:(gE κ t)[i]? with
  |none=>rfl
  |some k=>
   simp only[ft]
   rw[u7,if_neg]
   intro e
   have:k=k0:=Bl (al hi) hk0 (e.symm.trans he.symm)
   subst this
   exact q ((List.getElem?_inj (an.1 hi).1 u4).1 (hi.trans hp.symm))
theorem SK (h:∀j,j<t→κ j≠κ t):gE κ (t+1)=gE κ t++[t]∧BP κ n (t+1)=BP κ n t++[tX n t ⟨0,[],[]⟩]:=by
 have h1:gE κ (t+1)=gE κ t++[t]:=by
  have:iT κ t=true:=decide_eq_true h
  rw[qf,if_pos this]
 refine⟨h1,?_⟩
 unfold BP
 rw[h1,bG]
 congr 1
 ·refine eO fun k hk=>?_
  rw[u7,if_neg fun e=>h k (jS.1 hk).1 e.symm]
 ·rw[List.map_singleton,u7,if_pos rfl]
  congr 2
  unfold rU
  congr 1
  ·exact fZ.2 fun i hi=>by have:=a8.1 hi;simpa using h i (by omega)
  ·exact fZ.2 fun i hi=>by have:=a8.1 hi;simpa using h (n+i) (by omega)
structure KI (κ:Nat→α) (n t:Nat) (A:α→Option Nat) (l:List gF):Prop where
 l:l=BP κ n t
 ix:∀q p,A q=some p→∃k,(gE κ t)[p]? =some k∧κ k=q
 has:∀j,j<t→(A (κ j)).isSome=true
theorem KI.zero:KI κ n 0 (fun _=>none) []:=⟨rfl,fun _ _ h=>(by cases h),fun j h=>absurd h (cQ _)⟩
theorem KI.lt {A:α→Option Nat} {l:List gF} (h:KI κ n t A l) {q:α} {p:Nat} (hp:A q=some p):p<l.length:=by
 obtain⟨k,h1,_⟩:=h.ix q p hp
 rw[h.l];unfold BP;rw[ak]
 exact(an.1 h1).1
def tM (A:α→Option Nat) (q:α) (len:Nat):α→Option Nat:=if(A q).isSome=true then A else kB A q len
def mS (A:α→Option Nat) (q:α) (len:Nat):Nat:=(A q).getD len
theorem KI.step {A:α→Option Nat} {l:List gF} (h:KI κ n t A l):KI κ n (t+1) (tM A (κ t) l.length) ((if(A (κ t)).isSome=true then l else l++[⟨0,[],[]⟩]).modify (mS A (κ t) l.length) (tX n t)):=by
 unfold tM mS
 cases hA:A (κ t) with
 |some p=>
  obtain⟨k0,h1,h2⟩:=h.ix _ _ hA
  obtain⟨g1,g2⟩:=Ri (n:=n) h1 h2
  simp only[Option.isSome_some,if_true,Option.getD_some]
  refine⟨by rw[g2, ←h.l],fun q p hq=>by rw[g1];exact h.ix q p hq,fun j hj=>?_⟩
  rcases cZ.1 hj with q|rfl
  ·exact h.has j q
  ·rw[hA];rfl
 |none=>
  have hn:∀j,j<t→κ j≠κ t:=fun j hj e=>by
   have:=h.has j hj
   rw[e,hA]at this
   cases this
  obtain⟨g1,g2⟩:=SK (n:=n) hn
  have hl:l.length=(gE κ t).length:=by rw[h.l];unfold BP;rw[ak]
  simp only[Option.isSome_none,cA,if_false,Option.getD_none]
  refine⟨?_,fun q p hq=>?_,fun j hj=>?_⟩
  ·rw[g2, ←h.l]
   refine cM fun i=>?_
   by_cases q:i=l.length
   ·subst q
    rw[nh,bJ (cg _),bJ (cg _),gd];rfl
   ·rw[Bu (fun z=>q z.symm)]
    rcases bf i l.length with z|z
    ·rw[aV z,aV z]
    ·rw[aQ (by simp;omega),aQ (by simp;omega)]
  ·rw[g1]
   unfold kB at hq
   split at hq
   ·rename_i e
    cases hq;subst e
    exact⟨t,by rw[hl,bJ (cg _),gd];rfl,rfl⟩
   ·obtain⟨k,h1,h2⟩:=h.ix q p hq
    exact⟨k,by rw[aV (an.1 h1).1];exact h1,h2⟩
  ·unfold kB
   split
   ·rfl
   ·rename_i e
    rcases cZ.1 hj with q|rfl
    ·exact h.has j q
    ·exact absurd rfl e
def uc (κ:Nat→α) (n m:Nat):List gF:=(BP κ n (n+m)).map fun e=>{ e with kd:=iR e.f.length e.t.length }
theorem zv {β:Type} [DecidableEq β] {κ':Nat→β} {m:Nat} (h:∀i j,i<n+m→j<n+m→(κ i=κ j↔κ' i=κ' j)):uc κ n m=uc κ' n m:=by
 have hf:gE κ (n+m)=gE κ' (n+m):=by
  unfold gE
  refine gC fun k hk=>?_
  have hk:=a8.1 hk
  unfold iT
  rw[decide_eq_decide]
  exact⟨fun g j hj e=>g j hj ((h j k (by omega) hk).2 e),fun g j hj e=>g j hj ((h j k (by omega) hk).1 e)⟩
 unfold uc BP
 rw[hf]
 congr 1
 refine eO fun k hk=>?_
 have hk:=(jS.1 hk).1
 unfold rU
 congr 1
 ·refine gC fun i hi=>?_
  have hi:=a8.1 hi
  rw[decide_eq_decide];exact h i k (by omega) hk
 ·refine gC fun i hi=>?_
  have hi:=a8.1 hi
  rw[decide_eq_decide];exact h (n+i) k (by omega) hk
end
section
variable {W H r:Nat} {oa ob:List Int} {p v u:Nat} {a b:Bool×Int}
structure Pr (W H r:Nat) (oa ob:List Int) (p v u:Nat) (a b:Bool×Int):Prop where
 hp:p<W*H
 hv:v≤p / W+r∧p / W≤v+r∧v<H
 hu:u≤p%W+r∧p%W≤u+r∧u<W
 ha:a=(false,oa.getD p (-1))∧0≤oa.getD p (-1)
 hb:b=(true,ob.getD (v*W+u) (-1))∧0≤ob.getD (v*W+u) (-1)
abbrev LY (p v u p2 v2 u2:Nat):Prop:=p<p2∨p=p2∧(v<v2∨v=v2∧u<u2)
structure Jw (W H r:Nat) (oa ob:List Int) (p2 v2 u2:Nat) (a b:Bool×Int):Prop where
 ex:∃p v u,LY p v u p2 v2 u2∧Pr W H r oa ob p v u a b
structure Yc (W H r:Nat) (oa ob:List Int) (a b:Bool×Int):Prop where
 ex:∃p v u,Pr W H r oa ob p v u a b
structure mg (J:Bool×Int→Bool×Int→Prop) (M:Bool×Int→Option (Bool×Int)):Prop where
 ex:∃ld,Im M ld∧∀a b,ld a=ld b↔vQ J a b
theorem vQ.iff {α:Type} [DecidableEq α] {J K:α→α→Prop} (h:∀a b,J a b↔K a b) {a b:α}:vQ J a b↔vQ K a b:=⟨fun k=>k.mono fun x y=>(h x y).1,fun k=>k.mono fun x y=>(h x y).2⟩
theorem mg.congr {J K:Bool×Int→Bool×Int→Prop} {M:Bool×Int→Option (Bool×Int)} (g:mg J M) (h:∀a b,J a b↔K a b):mg K M:=by
 obtain⟨ld,h1,h2⟩:=g.ex
 exact⟨ld,h1,fun a b=>(h2 a b).trans (vQ.iff h)⟩
theorem mg.zero:mg (Jw W H r oa ob 0 0 0) (fun _=>none):=⟨id,Im.nil,fun a b=>⟨fun e=>by cases e;exact .refl _,fun k=>by
 induction k with
 |refl _=>rfl
 |base j=>obtain⟨p,v,u,h,_⟩:=j.ex;omega
 |symm _ ih=>exact ih.symm
 |trans _ _ i1 i2=>exact i1.trans i2⟩⟩
theorem Jw.same {p1 v1 u1 p2 v2 u2:Nat} (h:∀p v u a b,Pr W H r oa ob p v u a b→(LY p v u p1 v1 u1↔LY p v u p2 v2 u2)) (a b:Bool×Int):Jw W H r oa ob p1 v1 u1 a b↔Jw W H r oa ob p2 v2 u2 a b:=
 ⟨fun⟨p,v,u,h1,h2⟩=>⟨p,v,u,(h _ _ _ _ _ h2).1 h1,h2⟩,fun⟨p,v,u,h1,h2⟩=>⟨p,v,u,(h _ _ _ _ _ h2).2 h1,h2⟩⟩
variable {M:Bool×Int→Option (Bool×Int)}
theorem mg.skip (g:mg (Jw W H r oa ob p 0 0) M) (h:oa.getD p (-1)<0):mg (Jw W H r oa ob (p+1) 0 0) M:=g.congr<|Jw.same fun p' v' u' a b hp=>by
 have:=hp.ha.2
 have:p'≠p:=fun e=>by subst e;omega
 unfold LY;omega
theorem mg.row (g:mg (Jw W H r oa ob p 0 0) M):mg (Jw W H r oa ob p (p / W-r) 0) M:=g.congr<|Jw.same fun p' v' u' a b hp=>by
 have h1:=hp.hv.2.1
 have:p'=p→p / W-r≤v':=fun e=>by subst e;omega
 unfold LY;omega
theorem mg.col (g:mg (Jw W H r oa ob p v 0) M):mg (Jw W H r oa ob p v (p%W-r)) M:=g.congr<|Jw.same fun p' v' u' a b hp=>by
 have h1:=hp.hu.2.1
 have:p'=p→p%W-r≤u':=fun e=>by subst e;omega
 unfold LY;omega
theorem mg.Wc (g:mg (Jw W H r oa ob p v u) M) (h:W≤u∨p%W+r<u):mg (Jw W H r oa ob p (v+1) 0) M:=g.congr<|Jw.same fun p' v' u' a b hp=>by
 have h1:=hp.hu
 have:p'=p→u'<u:=fun e=>by subst e;omega
 unfold LY;omega
theorem mg.V8 (g:mg (Jw W H r oa ob p v 0) M) (h:H≤v∨p / W+r<v):mg (Jw W H r oa ob (p+1) 0 0) M:=g.congr<|Jw.same fun p' v' u' a b hp=>by
 have h1:=hp.hv
 have:p'=p→v'<v:=fun e=>by subst e;omega
 unfold LY;omega
theorem mg.all (g:mg (Jw W H r oa ob (W*H) 0 0) M):mg (Yc W H r oa ob) M:=g.congr fun a b=>⟨fun⟨p,v,u,_,h⟩=>⟨p,v,u,h⟩,fun⟨p,v,u,h⟩=>⟨p,v,u,.inl h.hp,h⟩⟩
theorem mg.none_ (g:mg (Jw W H r oa ob p v u) M) (h:ob.getD (v*W+u) (-1)<0):mg (Jw W H r oa ob p v (u+1)) M:=g.congr<|Jw.same fun p' v' u' a b hp=>by
 have h1:=hp.hb.2
 have:¬(p'=p∧v'=v∧u'=u):=fun e=>by obtain⟨rfl,rfl,rfl⟩:=e;omega
 unfold LY;omega
theorem mg.join {ld:Bool×Int→Bool×Int} (h1:Im M ld) (h2:∀a b,ld a=ld b↔vQ (Jw W H r oa ob p v u) a b) (hp:p<W*H) (hv:v≤p / W+r∧p / W≤v+r∧v<H) (hu:u≤p%W+r∧p%W≤u+r∧u<W) (ha:0≤oa.getD p (-1)) (hb:0≤ob.getD (v*W+u) (-1)):
  mg (Jw W H r oa ob p v (u+1)) (wU M ld (false,oa.getD p (-1)) (true,ob.getD (v*W+u) (-1))):=by
 refine⟨_,h1.join _ _,fun a b=>(NJ h2 _ _ a b).trans (vQ.iff fun a b=>?_)⟩
 constructor
 ·rintro (⟨p',v',u',k1,k2⟩|⟨rfl,rfl⟩)
  ·exact⟨p',v',u',by unfold LY at*;omega,k2⟩
  ·exact⟨p,v,u,by unfold LY;omega,hp,hv,hu,⟨rfl,ha⟩,⟨rfl,hb⟩⟩
 ·rintro ⟨p',v',u',k1,k2⟩
  by_cases e:p'=p∧v'=v∧u'=u
  ·obtain⟨rfl,rfl,rfl⟩:=e
   exact .inr ⟨k2.ha.1,k2.hb.1⟩
  ·exact .inl ⟨p',v',u',by unfold LY at*;omega,k2⟩
def um (n t:Nat):Bool×Int:=if t<n then(false,(t:Int)) else(true,((t-n:Nat):Int))
theorem Ow {n t:Nat} (h:t<n):um n t=(false,(t:Int)):=if_pos h
theorem O6 {n t:Nat}:um n (n+t)=(true,(t:Int)):=by unfold um;rw[if_neg (by omega),show n+t-n=t by omega]
structure Oo (W H r:Nat) (oa ob:List Int) (n m:Nat) (l:List gF):Prop where
 ex:∃ld:Bool×Int→Bool×Int,(∀a b,ld a=ld b↔vQ (Yc W H r oa ob) a b)∧l=uc (fun t=>ld (um n t)) n m
end
end Go.Proofs.YtgemekpofpoopaaGreat
namespace Go.SL
set_option linter.unusedVariables false
open Go.RowKit
section
variable {P:Program} {β:Bs} {env:Env} {L:List dg} {d:Option Nat} {ty:TypeId} {pos:String} {aft:Array Edge} {g:Option (Nat×Bool)} {T T2:TypeId} {x y:Operand} {u v:Value} {b:Bool} {E:Nat}
structure Pa (P:Program) (T:TypeId) (u v:Value) (b:Bool):Prop where
 h:∀w,(jg Op.maxDepth T u v).run P w= .ok b w
theorem Yb {p:Addr} (hT:∃E,P.underlying T=some (.pointer E)):Pa P T (.pointer (some p)) (.pointer none) false:=⟨fun w=>by
 obtain⟨E,hE⟩:=hT
 show(jg (9999+1) T (.pointer (some p)) (.pointer none)).run P w=_
 unfold Op.equalIn
 rw[bY,run_underlying hE]
 rfl⟩
theorem abD {p:Option Nat} (hT:∃K E,P.underlying T=some (.map K E)):Pa P T (.map p) (.map none) p.isNone:=⟨fun w=>by
 obtain⟨K,E,hE⟩:=hT
 show(jg (9999+1) T (.map p) (.map none)).run P w=_
 unfold Op.equalIn
 rw[bY,run_underlying hE]
 cases p<;>rfl⟩
theorem abg {p:Option Addr} {n c:Nat} (hT:ee P T E):Pa P T (.slice p n c) (.slice none 0 0) p.isNone:=⟨fun w=>by
 show(jg (9999+1) T (.slice p n c) (.slice none 0 0)).run P w=_
 unfold Op.equalIn
 rw[bY,run_underlying hT]
 cases p<;>rfl⟩
theorem LO.Oh {op:BinOp} (hb:∀w,(binOp op T u v).run P w= .ok (.bool b) w) (hg:∀w,(eqGuard op T x y u v).run P w= .ok () w) (hx:OV env x u) (hy:OV env y v):LO P β env L ⟨d,.binOp op T x y T2,ty,pos,aft,g⟩ (.bool b):=
 .fy fun a w h hw=>⟨w,by
  simp only[execOp,h x (by simp [aL]) _ hx,h y (by simp [aL]) _ hy,bY,dL,bP,hb,hg],hw⟩
theorem LO.ab1 {p:Addr} (hT:∃E,P.underlying T=some (.pointer E)) (hx:OV env x (.pointer (some p))) (hy:OV env y (.pointer none)):LO P β env L ⟨d,.binOp .neq T x y T2,ty,pos,aft,g⟩ (.bool true):=LO.Oh (fun w=>by simp only[binOp,q6,bY,(Yb hT).h,bP,dL];rfl) (fun _=>rfl) hx hy
theorem LO.neM {p:Option Nat} (hT:∃K E,P.underlying T=some (.map K E)) (hx:OV env x (.map p)) (hy:OV env y (.map none)):LO P β env L ⟨d,.binOp .neq T x y T2,ty,pos,aft,g⟩ (.bool p.isSome):=LO.Oh (fun w=>by simp only[binOp,q6,bY,(abD hT).h,bP,dL];cases p<;>rfl) (fun _=>rfl) hx hy
theorem LO.Zb {p:Option Addr} {n c:Nat} (hT:ee P T E) (hx:OV env x (.slice p n c)) (hy:OV env y (.slice none 0 0)):LO P β env L ⟨d,.binOp .eql T x y T2,ty,pos,aft,g⟩ (.bool p.isNone):=LO.Oh (fun w=>by simp only[binOp,q6,bY,(abg hT).h,bP,dL]) (fun _=>rfl) hx hy
theorem LO.abd {α δ:Type} {kE:α→Value} {vE:δ→Value} {M:α→Option δ} {aT:Array TypeId} {n b:Nat} (hT:∃K E,P.underlying T=some (.map K E)) (hx:OV env x (.map (some b))) (ha:aT[0]? =some T) (hi:∀w,St β L w→(jr kE vE b M).inv w) (hinj:∀{a b:α},kE a=kE b→a=b) {ks:List α} (hn:ks.Nodup) (hk:∀a,a∈ks↔(M a).isSome=true) (hl:ks.length=n):LO P β env L ⟨d,.call ⟨.builtin .len,#[x],aT⟩,ty,pos,aft,g⟩ (.int .i64 n):=
 .fy fun a w h hw=>⟨w,by
  obtain⟨K,E,hE⟩:=hT
  obtain⟨es,clock,hb,hs,_⟩:=hi w hw
  have hobj:(getObj b).run P w= .ok (.map es clock) w:=by simp [getObj,Sem.run,hb]
  have hsz:es.size=n:=by rw[←hl, ←Kc hinj hs hn hk,Array.length_toList]
  simp [execOp,resolve,invoke,builtin,h x (by simp [aL,Call.operands]) _ hx,Builtin.len_,ha,run_underlying hE,goInt,hobj,hsz],hw⟩
end
theorem St.pO {β:Bs} {L Rs:List dg} {r:dg} {w:World} (h:St β (r::mo Rs::L) w):St β (mo (Rs++[r])::L) w:=St.Cf (A:=Rs) (B:=[]) (by rw[ew];exact h)
end Go.SL
namespace Go.Cell
set_option linter.unusedVariables false
section
variable {W H:Nat} {S:Nat→Bool} {ls:List Int} {k p q:Nat}
def Pn (W p q:Nat):Bool:=decide ((((p%W:Nat):Int)-((q%W:Nat):Int))*(((p%W:Nat):Int)-((q%W:Nat):Int))+(((p / W:Nat):Int)-((q / W:Nat):Int))*(((p / W:Nat):Int)-((q / W:Nat):Int))=1)
theorem Wu {x y:Int}:x*x+y*y=1↔(x=0∧(y=1∨y= -1))∨(y=0∧(x=1∨x= -1)):=by
 constructor
 ·intro h
  have hx:0≤x*x:=by
   rcases Int.le_total 0 x with q|q
   ·exact Int.mul_nonneg q q
   ·exact mD q q
  have hy:0≤y*y:=by
   rcases Int.le_total 0 y with q|q
   ·exact Int.mul_nonneg q q
   ·exact mD q q
  have bd:∀z:Int,0≤z*z→z*z≤1→z=0∨z=1∨z= -1:=fun z h0 h1=>by
   rcases Int.lt_trichotomy z 0 with q|q|q
   ·by_cases e:z= -1
    ·exact .inr (.inr e)
    ·have:2*2≤(-z)*(-z):=Int.mul_le_mul (by omega) (by omega) (by omega) (by omega)
     rw[Int.neg_mul_neg]at this;omega
   ·exact .inl q
   ·by_cases e:z=1
    ·exact .inr (.inl e)
    ·have:2*2≤z*z:=Int.mul_le_mul (by omega) (by omega) (by omega) (by omega)
     omega
  rcases bd x hx (by omega) with rfl|rfl|rfl<;>rcases bd y hy (by omega) with rfl|rfl|rfl<;>simp_all
 ·rintro (⟨rfl,rfl|rfl⟩|⟨rfl,rfl|rfl⟩)<;>decide
theorem IS (hp:p<W*H) (hq:q<W*H):Pn W p q=true↔q∈nb W H p:=by
 unfold Pn
 rw[decide_eq_true_eq,Wu]
 constructor
 ·intro h;exact Dn hp hq (by omega)
 ·intro h;have:=(OL hp h).2;omega
end
section
variable {W H:Nat} {S:Nat→Bool} {p q r:Nat} {out out0:List Bool} {gr:Bool}
def kI (l:List Bool):Nat:=(l.filter fun b=> !b).length
theorem qD:∀{l:List Bool} {q:Nat},q<l.length→l.getD q false=false→kI (l.set q true)+1=kI l
 |[],q,h,_=>by simp at h
 |b::l,0,_,h=>by
  have h:b=false:=by simpa using h
  subst h;simp [kI]
 |b::l,q+1,hq,h=>by
  have ih:=qD (l:=l) (q:=q) (by simpa using hq) (by simpa using h)
  unfold kI at ih ⊢
  rw[ql,dj,dj]
  split
  ·rw[dX,dX];omega
  ·exact ih
theorem jQ {l:List Bool} {q t:Nat} (h:q<l.length):(l.set q true).getD t false=(decide (q=t)||l.getD t false):=by
 rw[aO,aO,eQ]
 by_cases e:q=t
 ·subst e;simp [h]
 ·simp [e]
structure DP (W H:Nat) (S:Nat→Bool) (p:Nat) (out:List Bool):Prop where
 len:out.length=W*H
 self:out.getD p false=true
 ok:∀q,q<W*H→out.getD q false=true→Cn W H S p q
theorem DP.zero (hp:p<W*H) (hs:S p=true):DP W H S p ((bH (W*H) false).set p true):=by
 refine⟨by simp,by rw[jQ (by simpa using hp)];simp,fun q hq h=>?_⟩
 rw[jQ (by simpa using hp)]at h
 have hz:(bH (W*H) false).getD q false=false:=by
  rw[aO,fb];split<;>rfl
 rw[hz,rE]at h
 have e:=of_decide_eq_true h
 subst e;exact .refl hs
structure DR (W H:Nat) (S:Nat→Bool) (p:Nat) (out0:List Bool) (q r:Nat) (out:List Bool) (gr:Bool):Prop where
 dp:DP W H S p out
 lt:gr=true→kI out<kI out0
 le:kI out≤kI out0
 cl:gr=false→∀a,a<q→S a=true→out.getD a false=false→∀b,b∈nb W H a→out.getD b false=false
 cr:out.getD q false=false→∀b,b∈nb W H q→b<r→out.getD b false=false
theorem DR.zero (h:DP W H S p out):DR W H S p out 0 0 out false:=⟨h,fun q=>(by cases q),cg _,fun _ a ha=>absurd ha (cQ _),fun _ b _ hb=>absurd hb (cQ _)⟩
theorem DR.skip (h:DR W H S p out0 q 0 out gr) (hx:S q=false∨out.getD q false=true):DR W H S p out0 (q+1) 0 out gr:=by
 refine⟨h.dp,h.lt,h.le,fun hg a ha hs ho=>?_,fun _ b _ hb=>absurd hb (cQ _)⟩
 rcases cZ.1 ha with z|rfl
 ·exact h.cl hg a z hs ho
 ·rcases hx with z|z
  ·rw[hs]at z;cases z
  ·rw[ho]at z;cases z
theorem M0 (hq:q<W*H) (hb:r∈nb W H q):q-W≤r∧r≤q+W∧r<W*H:=by
 have h1:=oz hq hb
 have hW:0<W:=by
  rcases fC W with e|e
  ·subst e;simp at hq
  ·exact e
 have h2:=dm W q hW
 rcases Fc.1 hb with⟨h,e⟩|⟨h,e⟩|⟨h,e⟩|⟨h,e⟩<;>subst e<;>omega
theorem DR.enter (hq:q<W*H) (h:DR W H S p out0 q 0 out gr):DR W H S p out0 q (q-W) out gr:=⟨h.dp,h.lt,h.le,h.cl,fun ho b hb hl=>by have:=M0 hq hb;omega⟩
theorem DR.no (h:DR W H S p out0 q r out gr) (hx:¬(out.getD r false=true∧out.getD q false=false∧r∈nb W H q)):DR W H S p out0 q (r+1) out gr:=by
 refine⟨h.dp,h.lt,h.le,h.cl,fun ho b hb hl=>?_⟩
 rcases cZ.1 hl with z|rfl
 ·exact h.cr ho b hb z
 ·cases e:out.getD b false with
  |false=>rfl
  |true=>exact absurd ⟨e,ho,hb⟩ hx
theorem DR.yes (h:DR W H S p out0 q r out gr) (hq:q<W*H) (hr:r<W*H) (hs:S q=true) (h1:out.getD r false=true) (h2:out.getD q false=false) (hn:r∈nb W H q):DR W H S p out0 q (r+1) (out.set q true) true:=by
 have hl:q<out.length:=by rw[h.dp.len];exact hq
 have hc:=qD hl h2
 have hle:=h.le
 refine⟨⟨by rw[eB];exact h.dp.len,by rw[jQ hl,h.dp.self];simp,fun a ha ho=>?_⟩,fun _=>by omega,by omega,fun g=>(by cases g),fun ho=>?_⟩
 ·rw[jQ hl]at ho
  by_cases e:q=a
  ·subst e
   exact .step (h.dp.ok r hr h1) (u6 hq hn) hs
  ·rw[decide_eq_false e,Bool.false_or]at ho
   exact h.dp.ok a ha ho
 ·rw[jQ hl]at ho;simp at ho
theorem DR.next (h:DR W H S p out0 q r out gr) (hq:q<W*H) (hr:q+W<r∨W*H≤r):DR W H S p out0 (q+1) 0 out gr:=by
 refine⟨h.dp,h.lt,h.le,fun hg a ha hs ho=>?_,fun _ b _ hb=>absurd hb (cQ _)⟩
 rcases cZ.1 ha with z|rfl
 ·exact h.cl hg a z hs ho
 ·exact fun b hb=>h.cr ho b hb (by have:=M0 hq hb;omega)
theorem DP.fin (h:DP W H S p out) (hp:p<W*H) (hs:S p=true) (hc:∀a,a<W*H→S a=true→out.getD a false=false→∀b,b∈nb W H a→out.getD b false=false) (hq:q<W*H):out.getD q false=decide (q∈gU W H S p):=by
 refine p8.2 ⟨fun ho=>decide_eq_true ((kg hp hs).2 (h.ok q hq ho)),fun hm=>?_⟩
 have hcn:=(kg hp hs).1 (of_decide_eq_true hm)
 have key:q<W*H∧out.getD q false=true:=by
  refine Cn.closed (X:=fun x=>x<W*H∧out.getD x false=true) hcn ⟨hp,h.self⟩ ?_
  intro a b ha hb hsb
  have hbl:=oz ha.1 hb
  refine⟨hbl,?_⟩
  cases e:out.getD b false with
  |true=>rfl
  |false=>
   have:=hc b hbl hsb e a (u6 ha.1 hb)
   rw[ha.2]at this;cases this
 exact key.2
def l1 (n:Nat) (S:Nat→Bool):List Bool:=(bF n).map S
theorem gn {n:Nat}:(l1 n S).length=n:=by unfold l1;simp
theorem De {n:Nat} (h:q<n):(l1 n S)[q]? =some (S q):=by unfold l1;rw[aI,fE h];rfl
theorem kO {n:Nat} (h:q<n):(l1 n S).getD q false=S q:=by rw[aO,De h];rfl
theorem ox {n:Nat} {l:List Bool} (hl:l.length=n) (h:∀q,q<n→l.getD q false=S q):l=l1 n S:=by
 refine cM fun q=>?_
 by_cases e:q<n
 ·rw[De e, ←h q e,aO,aw (by omega)];rfl
 ·rw[aQ (by omega),aQ (by rw[gn];omega)]
def sj (W H:Nat) (S:Nat→Bool) (p:Nat):List Bool:=l1 (W*H) fun q=>decide (q∈gU W H S p)
theorem DR.fin (h:DR W H S p out0 (W*H) r out false) (hp:p<W*H) (hs:S p=true):out=sj W H S p:=
 ox h.dp.len fun q hq=>h.dp.fin hp hs (fun a ha=>h.cl rfl a ha) hq
def nH (b:List Bool) (k:Nat):List Nat:=(bF k).filter fun q=>b.getD q false
def qd (b:List Bool):List Nat:=nH b b.length
theorem Pp {b:List Bool} {k:Nat} (h:b.getD k false=true):nH b (k+1)=nH b k++[k]:=by unfold nH;rw[eZ,dI,dj,if_pos h];rfl
theorem Oz {b:List Bool} {k:Nat} (h:b.getD k false=false):nH b (k+1)=nH b k:=by unfold nH;rw[eZ,dI,dj,if_neg (by rw[h];decide)];simp
theorem Fp {b:List Bool} {k:Nat}:(nH b k).length≤k:=by unfold nH;refine dE (cE _ _) ?_;simp
theorem oh {f:Nat→Bool} {n:Nat}:((bF n).filter f).Pairwise (· < ·):=uy _ (nz)
theorem Gh (hp:p<W*H):qd (sj W H S p)=gU W H S p:=by
 refine rv oh (ja hp) fun x=>?_
 unfold qd nH
 rw[bR,a8]
 constructor
 ·rintro ⟨h1,h2⟩
  have h1:x<W*H:=by rw[sj,gn]at h1;exact h1
  rw[sj,kO h1]at h2
  exact of_decide_eq_true h2
 ·intro h
  have h1:=pH hp h
  refine⟨by rw[sj,gn];exact h1,?_⟩
  rw[sj,kO h1];exact decide_eq_true h
def lU (W H:Nat) (S:Nat→Bool) (p:Nat) (l:List Nat) (i:Nat):List Bool:=l1 (W*H) fun q=>(dz W H S p).any (fun k=>decide (q∈k))||decide (q∈l.take i)
theorem K8:bH (W*H) false=lU W H S 0 [] 0:=by
 refine ox (by simp) fun q hq=>?_
 rw[aO,fb,if_pos hq]
 simp [dz]
theorem KV {l:List Nat} {i x:Nat} (h:l[i]? =some x) (hx:x<W*H):(lU W H S p l i).set x true=lU W H S p l (i+1):=by
 refine ox (by rw[eB,lU,gn]) fun q hq=>?_
 rw[jQ (by rw[lU,gn];exact hx),lU,kO hq]
 have hi:=(an.1 h)
 obtain⟨hil,rfl⟩:=hi
 show(_||((dz W H S p).any (fun k=>decide (q∈k))||decide (q∈l.take i)))=((dz W H S p).any (fun k=>decide (q∈k))||decide (q∈l.take (i+1)))
 rw[bX hil]
 have hm:decide (q∈l.take i++[l[i]])=(decide (q∈l.take i)||decide (l[i]=q)):=by
  rw[←Bool.decide_or];exact decide_eq_decide.2 (by rw[bQ,bW];exact or_congr Iff.rfl eq_comm)
 rw[hm]
 cases decide (l[i]=q)<;>cases (dz W H S p).any (fun k=>decide (q∈k))<;>simp
theorem FJ {l:List Nat}:lU W H S p [] 0=lU W H S p l 0:=by unfold lU;simp
theorem NK (h:dz W H S (p+1)=dz W H S p):lU W H S (p+1) [] 0=lU W H S p [] 0:=by unfold lU;rw[h]
theorem NP (hs:S p=true) (hn:∀l,l∈dz W H S p→p∉l) {l:List Nat} (e:l=gU W H S p):lU W H S p l l.length=lU W H S (p+1) [] 0:=by
 subst e
 unfold lU
 rw[kq hs hn,eG]
 refine eO fun q _=>?_
 simp
theorem Is (hp:p<W*H):(lU W H S p [] 0).getD p false=(dz W H S p).any fun k=>decide (p∈k):=by rw[lU,kO hp];simp
theorem Le (h:S p=false∨((dz W H S p).any fun k=>decide (p∈k))=true):dz W H S (p+1)=dz W H S p:=by
 refine ko fun z=>?_
 rcases h with h|h
 ·rw[z.1]at h;cases h
 ·obtain⟨l,h1,h2⟩:=dY.1 h
  exact z.2 l h1 (of_decide_eq_true h2)
theorem K9 (h:((dz W H S p).any fun k=>decide (p∈k))=false):∀l,l∈dz W H S p→p∉l:=fun l hl hm=>by
 have:=qZ.1 h l hl
 exact this (decide_eq_true hm)
end
end Go.Cell
namespace Go.Proofs.YtgemekpofpoopaaGreat
open Go.SL Go.Cell
set_option linter.unusedVariables false
section
variable {n m i j k t x first:Nat} {T:Nat→Nat→Bool} {on on0:List Bool} {gr:Bool} {J:Bool×Int→Bool×Int→Prop} {ld:Bool×Int→Bool×Int}
structure TJ (n m:Nat) (T:Nat→Nat→Bool) (J:Bool×Int→Bool×Int→Prop) (ld:Bool×Int→Bool×Int):Prop where
 eq:∀a b,ld a=ld b↔vQ J a b
 to:∀a b,J a b→∃i j:Nat,i<n∧j<m∧a=(false,(i:Int))∧b=(true,(j:Int))∧T i j=true
 of:∀i j:Nat,i<n→j<m→T i j=true→J (false,(i:Int)) (true,(j:Int))
abbrev xg (ld:Bool×Int→Bool×Int) (n t:Nat):Bool×Int:=ld (um n t)
theorem TJ.Y3 (h:TJ n m T J ld) (hi:i<n) (hj:j<m) (ht:T i j=true):xg ld n i=xg ld n (n+j):=by
 unfold xg;rw[Ow hi,O6];exact(h.eq _ _).2 (.base (h.of i j hi hj ht))
structure DE (κ:Nat→Bool×Int) (n m first:Nat) (on:List Bool):Prop where
 len:on.length=n+m
 self:on.getD first false=true
 ok:∀t,t<n+m→on.getD t false=true→κ t=κ first
theorem DE.zero {κ:Nat→Bool×Int} (hf:first<n+m):DE κ n m first ((bH (n+m) false).set first true):=by
 have hl:first<(bH (n+m) false).length:=by simpa using hf
 refine⟨by simp,by rw[jQ hl];simp,fun t ht h=>?_⟩
 rw[jQ hl]at h
 have hz:(bH (n+m) false).getD t false=false:=by
  rw[aO,fb];split<;>rfl
 rw[hz,rE]at h
 rw[of_decide_eq_true h]
structure ER (κ:Nat→Bool×Int) (n m:Nat) (T:Nat→Nat→Bool) (first:Nat) (on0:List Bool) (i j:Nat) (on:List Bool) (gr:Bool):Prop where
 de:DE κ n m first on
 lt:gr=true→kI on<kI on0
 le:kI on≤kI on0
 cl:gr=false→∀a,a<i→∀b,b<m→T a b=true→on.getD a false=on.getD (n+b) false
 cr:gr=false→∀b,b<j→T i b=true→on.getD i false=on.getD (n+b) false
variable {κ:Nat→Bool×Int}
theorem ER.zero (h:DE κ n m first on):ER κ n m T first on 0 0 on false:=⟨h,fun z=>(by cases z),cg _,fun _ a ha=>absurd ha (cQ _),fun _ b hb=>absurd hb (cQ _)⟩
theorem ER.no (h:ER κ n m T first on0 i j on gr) (hx:¬(T i j=true∧on.getD i false≠on.getD (n+j) false)):ER κ n m T first on0 i (j+1) on gr:=by
 refine⟨h.de,h.lt,h.le,h.cl,fun hg b hb ht=>?_⟩
 rcases cZ.1 hb with z|rfl
 ·exact h.cr hg b z ht
 ·exact dx fun z=>hx ⟨ht,z⟩
theorem zd:∀{l:List Bool} {q:Nat},kI (l.set q true)≤kI l:=fun {l q}=>by
 by_cases hq:q<l.length
 ·cases e:l.getD q false with
  |false=>have:=qD hq e;omega
  |true=>
   have:l.set q true=l:=by
    refine cM fun t=>?_
    rw[eQ]
    by_cases z:q=t
    ·subst z
     rw[if_pos rfl,if_pos hq]
     rw[aO,aw hq]at e
     rw[aw hq];exact congrArg some e.symm
    ·rw[if_neg z]
   rw[this];exact cg _
 ·rw[List.set_eq_of_length_le (by omega)];exact cg _
theorem ER.yes (h:ER κ n m T first on0 i j on gr) (hi:i<n) (hj:j<m) (hk:κ i=κ (n+j)) (hne:on.getD i false≠on.getD (n+j) false):ER κ n m T first on0 i (j+1) ((on.set i true).set (n+j) true) true:=by
 have hl1:i<on.length:=by rw[h.de.len];omega
 have hl2:n+j<(on.set i true).length:=by rw[eB,h.de.len];omega
 have hle:=h.le
 have hlt:kI ((on.set i true).set (n+j) true)<kI on:=by
  cases e:on.getD i false with
  |false=>
   have h1:=qD hl1 e
   have h2:=zd (l:=on.set i true) (q:=n+j)
   omega
  |true=>
   have e2:on.getD (n+j) false=false:=by
    cases z:on.getD (n+j) false with
    |false=>rfl
    |true=>exact absurd (e.trans z.symm) hne
   have e3:(on.set i true).getD (n+j) false=false:=by rw[jQ hl1,e2,decide_eq_false (by omega)];rfl
   have h1:=qD hl2 e3
   have h2:=zd (l:=on) (q:=i)
   omega
 have hone:κ i=κ first:=by
  cases e:on.getD i false with
  |true=>exact h.de.ok i (by omega) e
  |false=>
   have e2:on.getD (n+j) false=true:=by
    cases z:on.getD (n+j) false with
    |true=>rfl
    |false=>exact absurd (e.trans z.symm) hne
   rw[hk];exact h.de.ok (n+j) (by omega) e2
 refine⟨⟨by simp [h.de.len],by rw[jQ hl2,jQ hl1,h.de.self];simp,fun t ht ho=>?_⟩,fun _=>by omega,by omega,fun z=>(by cases z),fun z=>(by cases z)⟩
 rw[jQ hl2,jQ hl1]at ho
 by_cases e1:n+j=t
 ·subst e1;rw[←hk];exact hone
 ·by_cases e2:i=t
  ·subst e2;exact hone
  ·rw[decide_eq_false e1,decide_eq_false e2]at ho
   exact h.de.ok t ht (by simpa using ho)
theorem ER.next (h:ER κ n m T first on0 i m on gr):ER κ n m T first on0 (i+1) 0 on gr:=by
 refine⟨h.de,h.lt,h.le,fun hg a ha b hb ht=>?_,fun _ b hb=>absurd hb (cQ _)⟩
 rcases cZ.1 ha with z|rfl
 ·exact h.cl hg a z b hb ht
 ·exact h.cr hg b hb ht
def NM (n:Nat) (on:List Bool) (a:Bool×Int):Bool:=if a.1=true then on.getD (n+a.2.toNat) false else if a.2.toNat<n then on.getD a.2.toNat false else false
theorem ER.fin (h:ER (xg ld n) n m T first on0 n j on false) (hT:TJ n m T J ld) (hf:first<n+m):on=l1 (n+m) fun t=>decide (xg ld n t=xg ld n first):=by
 refine ox h.de.len fun t ht=>?_
 have key:∀a b,vQ J a b→NM n on a=NM n on b:=fun a b hab=>by
  induction hab with
  |refl _=>rfl
  |base hJ=>
   obtain⟨i,j,hi,hj,rfl,rfl,htt⟩:=hT.to _ _ hJ
   have:=h.cl rfl i hi j hj htt
   unfold NM
   simp only[cA,if_false,if_true,Int.toNat_natCast,if_pos hi]
   exact this
  |symm _ ih=>exact ih.symm
  |trans _ _ h1 h2=>exact h1.trans h2
 have hv:∀t,t<n+m→NM n on (um n t)=on.getD t false:=fun t ht=>by
  unfold um NM
  split
  ·rename_i q;simp [q]
  ·rename_i q
   have e:n+(t-n)=t:=by omega
   simp [e]
 refine p8.2 ⟨fun ho=>decide_eq_true (h.de.ok t ht ho),fun hk=>?_⟩
 have:=key _ _ ((hT.eq _ _).1 (of_decide_eq_true hk))
 rw[hv t ht,hv first hf]at this
 rw[this];exact h.de.self
def lf (on:List Bool) (n k:Nat):gF:=⟨0,(bF (min k n)).filter (fun i=>on.getD i false),(bF (k-n)).filter (fun j=>on.getD (n+j) false)⟩
theorem zK {on:List Bool}:lf on n 0=⟨0,[],[]⟩:=by unfold lf;simp
theorem IC {on:List Bool} (h:on.getD k false=false):lf on n (k+1)=lf on n k:=by
 unfold lf
 by_cases q:k<n
 ·rw[show min (k+1) n=k+1 by omega,show min k n=k by omega,show k+1-n=k-n by omega,eZ,dI,dj,if_neg (by rw[h];decide)];simp
 ·rw[show min (k+1) n=min k n by omega,show k+1-n=(k-n)+1 by omega,eZ,dI,dj,if_neg (by rw[show n+(k-n)=k by omega,h];decide)];simp
theorem I6 {on:List Bool} (h:on.getD k false=true):lf on n (k+1)=if k<n then { lf on n k with f:=(lf on n k).f++[k] } else { lf on n k with t:=(lf on n k).t++[k-n] }:=by
 unfold lf
 by_cases q:k<n
 ·rw[if_pos q,show min (k+1) n=k+1 by omega,show min k n=k by omega,show k+1-n=k-n by omega,eZ,dI,dj,if_pos h];simp
 ·rw[if_neg q,show min (k+1) n=min k n by omega,show k+1-n=(k-n)+1 by omega,eZ (n:=k-n),dI,dj,if_pos (by rw[show n+(k-n)=k by omega];exact h)];simp
theorem K4 {on:List Bool}:(lf on n k).f.length≤n∧(lf on n k).t.length≤k-n:=by
 unfold lf
 refine⟨dE (cE _ _) (by simp;omega),dE (cE _ _) (by simp)⟩
theorem Kz:lf (l1 (n+m) fun t=>decide (κ t=κ first)) n (n+m)=rU κ n (n+m) first:=by
 unfold lf rU
 rw[show min (n+m) n=n by omega,show n+m-n=m by omega]
 have e1:(bF n).filter (fun i=>(l1 (n+m) fun t=>decide (κ t=κ first)).getD i false)=(bF n).filter (fun i=>decide (κ i=κ first)):=gC fun i hi=>by rw[kO (by have:=a8.1 hi;omega)]
 have e2:(bF m).filter (fun j=>(l1 (n+m) fun t=>decide (κ t=κ first)).getD (n+j) false)=(bF m).filter (fun j=>decide (κ (n+j)=κ first)):=gC fun j hj=>by rw[kO (by have:=a8.1 hj;omega)]
 rw[e1,e2]
def kdM (e:gF):gF:={ e with kd:=iR e.f.length e.t.length }
def pN (κ:Nat→Bool×Int) (n m k:Nat):List gF:=(gE κ k).map fun f=>kdM (rU κ n (n+m) f)
theorem J8:pN κ n m (n+m)=uc κ n m:=by unfold pN uc BP;rw[List.map_map];rfl
theorem FW:pN κ n m 0=[]:=by unfold pN gE;rfl
def kM (κ:Nat→Bool×Int) (n m k:Nat) (l:List Nat) (i:Nat):List Bool:=l1 (n+m) fun t=>(gE κ k).any (fun f=>decide (κ f=κ t))||decide (t∈l.take i)
theorem Kr:bH (n+m) false=kM κ n m 0 [] 0:=by
 refine ox (by simp) fun q hq=>?_
 rw[aO,fb,if_pos hq]
 simp [gE]
theorem KQ {N:Nat} {f:Nat→Bool} {l:List Nat} {i x:Nat} (h:l[i]? =some x) (hx:x<N):(l1 N fun q=>f q||decide (q∈l.take i)).set x true=l1 N fun q=>f q||decide (q∈l.take (i+1)):=by
 refine ox (by rw[eB,gn]) fun q hq=>?_
 rw[jQ (by rw[gn];exact hx),kO hq]
 obtain⟨hil,rfl⟩:=an.1 h
 have hm:decide (q∈l.take (i+1))=(decide (q∈l.take i)||decide (l[i]=q)):=by
  rw[bX hil, ←Bool.decide_or];exact decide_eq_decide.2 (by rw[bQ,bW];exact or_congr Iff.rfl eq_comm)
 rw[hm]
 cases decide (l[i]=q)<;>cases f q<;>simp
theorem AX {l:List Nat} (h:l[i]? =some x) (hx:x<n+m):(kM κ n m k l i).set x true=kM κ n m k l (i+1):=KQ h hx
theorem FA {l:List Nat}:kM κ n m k [] 0=kM κ n m k l 0:=by unfold kM;simp
theorem Jd (hk:k<n+m):(kM κ n m k [] 0).getD k false= !iT κ k:=by
 rw[kM,kO hk]
 simp only[List.take_nil,List.not_mem_nil,decide_false,rE]
 refine p8.2 ⟨fun h=>?_,fun h=>?_⟩
 ·obtain⟨f,h1,h2⟩:=dY.1 h
  have h1:=jS.1 h1
  unfold iT
  rw[decide_eq_false (fun z=>z f h1.1 (of_decide_eq_true h2))];rfl
 ·unfold iT at h
  have h:¬∀j,j<k→κ j≠κ k:=by simpa using h
  obtain⟨j,hj⟩:=na.1 h
  obtain⟨hj1,hj2⟩:=Classical.not_imp.1 hj
  have hj2:=eK.1 hj2
  obtain⟨f,f1,f2,f3⟩:=zc κ j
  refine dY.2 ⟨f,jS.2 ⟨by omega,?_⟩,decide_eq_true (f2.trans hj2)⟩
  unfold iT at f3;exact of_decide_eq_true f3
theorem NH (h:iT κ k=false):kM κ n m (k+1) [] 0=kM κ n m k [] 0∧pN κ n m (k+1)=pN κ n m k:=by
 have e:gE κ (k+1)=gE κ k:=by rw[qf,h];simp
 unfold kM pN;rw[e];exact⟨rfl,rfl⟩
theorem MG (h:iT κ k=true) {l:List Nat} (hl:∀t,t<n+m→(t∈l↔κ t=κ k)):kM κ n m k l l.length=kM κ n m (k+1) [] 0∧pN κ n m (k+1)=pN κ n m k++[kdM (rU κ n (n+m) k)]:=by
 have e:gE κ (k+1)=gE κ k++[k]:=by rw[qf,h];simp
 unfold kM pN
 rw[e,bG,eG]
 refine⟨eO fun t ht=>?_,rfl⟩
 have ht:=a8.1 ht
 rw[List.any_append]
 have:decide (t∈l)=decide (κ k=κ t):=decide_eq_decide.2 ((hl t ht).trans eq_comm)
 simp [this]
def Jq (n:Nat) (e:gF):List Nat:=e.f++e.t.map (n+ ·)
theorem J4 (ht:t<n+m):t∈Jq n (rU κ n (n+m) k)↔κ t=κ k:=by
 unfold Jq rU
 rw[bQ,bN,show min (n+m) n=n by omega,show n+m-n=m by omega]
 simp only[bR,a8,decide_eq_true_eq]
 constructor
 ·rintro (⟨_,h⟩|⟨j,⟨_,h⟩,rfl⟩)
  ·exact h
  ·exact h
 ·intro h
  by_cases q:t<n
  ·exact .inl ⟨q,h⟩
  ·exact .inr ⟨t-n,⟨by omega,by rw[show n+(t-n)=t by omega];exact h⟩,by omega⟩
theorem K7:(pN κ n m k).length≤k:=by unfold pN;rw[ak];unfold gE;refine dE (cE _ _) ?_;simp
end
def TW:gF:=⟨0,[],[]⟩
def zE (es:List gF) (j:Nat):gF:=(es.find? fun e=>decide (j∈e.t)).getD TW
def oJ (es:List gF) (i:Nat):gF:=(es.find? fun e=>decide (i∈e.f)).getD TW
structure iq (n m:Nat) (es:List gF):Prop where
 kd:∀e,e∈es→e.kd=iR e.f.length e.t.length∧0<e.f.length+e.t.length
 fs:∀e,e∈es→e.f.Pairwise (· < ·)∧∀i,i∈e.f→i<n
 ts:∀e,e∈es→e.t.Pairwise (· < ·)∧∀j,j∈e.t→j<m
 apart:es.Pairwise fun a b=>(∀i,i∈a.f→i∉b.f)∧∀j,j∈a.t→j∉b.t
 ace:∀i,i<n→∃e,e∈es∧i∈e.f
 Zm:∀j,j<m→∃e,e∈es∧j∈e.t
section
variable {n m i j k:Nat} {es es':List gF} {e:gF}
theorem yH {a b:Nat} (h:iR a b=4):a=1∧b=1:=by
 unfold iR at h
 repeat' split at h
 all_goals first |omega|(exact absurd h (by decide))
theorem DQ (a b:Nat):2≤iR a b∧iR a b≤7:=by
 unfold iR
 by_cases h1:a=0<;>by_cases h2:b=0<;>by_cases h3:a=1<;>by_cases h4:b=1<;>simp [h1,h2,h3,h4]
theorem uR {l:List Nat} (h:l.length=1):l=[l.headD 0]:=by
 cases l with
 |nil=>simp at h
 |cons a l=>cases l with
  |nil=>rfl
  |cons b l=>simp at h
theorem iq.kept (h:iq n m es) (he:e∈es) (hk:e.kd=4):e.f=[e.f.headD 0]∧e.t=[e.t.headD 0]:=by
 rw[(h.kd e he).1]at hk
 exact⟨uR (yH hk).1,uR (yH hk).2⟩
theorem iq.Zp (h:iq n m es) {a b:gF} (ha:a∈es) (hb:b∈es) (h1:i∈a.f) (h2:i∈b.f):a=b:=by
 obtain⟨x,hx,rfl⟩:=gg.1 ha
 obtain⟨y,hy,rfl⟩:=gg.1 hb
 have hp:=cj.1 h.apart
 rcases ic x y with z|z|z
 ·exact absurd h2 ((hp x y hx hy z).1 i h1)
 ·subst z;rfl
 ·exact absurd h1 ((hp y x hy hx z).1 i h2)
theorem iq.Po (h:iq n m es) {a b:gF} (ha:a∈es) (hb:b∈es) (h1:j∈a.t) (h2:j∈b.t):a=b:=by
 obtain⟨x,hx,rfl⟩:=gg.1 ha
 obtain⟨y,hy,rfl⟩:=gg.1 hb
 have hp:=cj.1 h.apart
 rcases ic x y with z|z|z
 ·exact absurd h2 ((hp x y hx hy z).2 j h1)
 ·subst z;rfl
 ·exact absurd h1 ((hp y x hy hx z).2 j h2)
theorem tx {P:gF→Bool} (he:e∈es) (hp:P e=true) (hu:∀a,a∈es→P a=true→a=e):es.find? P=some e:=by
 cases h:es.find? P with
 |none=>exact absurd hp (by simpa using gJ.1 h e he)
 |some a=>rw[hu a (List.mem_of_find?_eq_some h) (List.find?_some h)]
theorem iq.E6 (h:iq n m es) (he:e∈es) (hi:i∈e.f):oJ es i=e:=by
 unfold oJ;rw[tx he (decide_eq_true hi) fun a ha hp=>h.Zp ha he (of_decide_eq_true hp) hi];rfl
theorem iq.Fg (h:iq n m es) (he:e∈es) (hj:j∈e.t):zE es j=e:=by
 unfold zE;rw[tx he (decide_eq_true hj) fun a ha hp=>h.Po ha he (of_decide_eq_true hp) hj];rfl
theorem iq.BY (h:iq n m es) (hi:i<n):oJ es i∈es∧i∈(oJ es i).f:=by
 obtain⟨e,he,hie⟩:=h.ace i hi
 rw[h.E6 he hie];exact⟨he,hie⟩
theorem iq.Sv (h:iq n m es) (hj:j<m):zE es j∈es∧j∈(zE es j).t:=by
 obtain⟨e,he,hje⟩:=h.Zm j hj
 rw[h.Fg he hje];exact⟨he,hje⟩
theorem Dy (h:∀e,e∈es→i∉e.f):oJ es i=TW:=by
 unfold oJ;rw[gJ.2 fun e he=>by simpa using h e he];rfl
theorem uV:oJ (es++[e]) i=if(∃a,a∈es∧i∈a.f) then oJ es i else if i∈e.f then e else TW:=by
 unfold oJ
 rw[nR]
 split
 ·rename_i h
  obtain⟨a,ha,hi⟩:=h
  cases hq:es.find? (fun e=>decide (i∈e.f)) with
  |none=>exact absurd (decide_eq_true hi) (by simpa using gJ.1 hq a ha)
  |some b=>rfl
 ·rename_i h
  rw[gJ.2 fun a ha=>by simpa using fun hi=>h ⟨a,ha,hi⟩]
  split
  ·rename_i q;simp [q]
  ·rename_i q;simp [q]
end
structure fo where
 bg:Int
 fr:Nat
 ar:List Nat
 en:Int
 pa:List Nat
 ch:List Nat
def fo.last (t:fo):Nat:=t.ar.getD (t.ar.length-1) 0
def fo.up (t:fo):Nat:=t.fr+t.ar.length
def NS (e:gF) (t:fo):fo:=if e.kd=4 then { t with ar:=t.ar++[e.t.headD 0] } else { t with en:=e.kd }
def jU (N:Nat) (es:List gF) (t:fo):fo:=if t.up=N then NS (oJ es t.last) t else t
def cut (e:gF) (j:Nat):gF:={ e with f:=e.f.take j }
section
variable {N n i j k k0 a:Nat} {es es':List gF} {e:gF} {t:fo} {tk tk0:List fo} {of of0:Nat×Nat→Option Nat}
theorem TU (h:t.en=0):NS TW t=t:=by
 unfold NS;rw[if_neg (by decide)];cases t;simp [TW]at h ⊢;exact h.symm
structure KK (N:Nat) (tk:List fo) (of:Nat×Nat→Option Nat):Prop where
 ES:∀n i k,of (n,i)=some k↔∃t,tk[k]? =some t∧t.fr≤n∧t.ar[n-t.fr]? =some i
 pos:∀t,t∈tk→0<t.ar.length∧t.up≤N
 en:∀t,t∈tk→t.up=N→t.en=0
theorem qe (h:0<t.ar.length):t.ar[t.ar.length-1]? =some t.last:=by
 unfold fo.last;rw[aO,aw (by omega)];rfl
theorem KK.lt (h:KK N tk of) {n i:Nat} (hs:of (n,i)=some k):n<N∧k<tk.length:=by
 obtain⟨t,h1,h2,h3⟩:=(h.ES n i k).1 hs
 have h4:=(h.pos t (al h1)).2
 unfold fo.up at h4
 have h5:=(an.1 h3).1
 exact⟨by omega,(an.1 h1).1⟩
theorem KK.at (h:KK (N+1) tk of) (hk:of (N,a)=some k0):∃t,tk[k0]? =some t∧t.up=N+1∧t.last=a:=by
 obtain⟨t,h1,h2,h3⟩:=(h.ES N a k0).1 hk
 have h4:=h.pos t (al h1)
 unfold fo.up at h4
 have h5:=(an.1 h3).1
 have e:N-t.fr=t.ar.length-1:=by omega
 refine⟨t,h1,by unfold fo.up;omega,?_⟩
 rw[e,qe h4.1]at h3
 exact eI h3
theorem KK.only (h:KK (N+1) tk of) (hk:of (N,a)=some k0) (hi:tk[i]? =some t) (hu:t.up=N+1) (hl:t.last=a):i=k0:=by
 have hp:=h.pos t (al hi)
 have:of (N,a)=some i:=(h.ES N a i).2 ⟨t,hi,by unfold fo.up at hu;omega,by
  have e:N-t.fr=t.ar.length-1:=by unfold fo.up at hu;omega
  rw[e,qe hp.1,hl]⟩
 rw[hk]at this
 exact(eI this).symm
theorem DN (h:∀t,t∈tk→t.up=N→t.en=0):tk.map (jU N (es++[cut e 0]))=tk.map (jU N es):=by
 refine eO fun t ht=>?_
 unfold jU
 split
 ·rw[uV]
  split
  ·rfl
  ·rename_i q
   rw[if_neg (by simp [cut]),Dy fun a ha hi=>q ⟨a,ha,hi⟩]
 ·rfl
theorem IA:cut e e.f.length=e:=by unfold cut;rw[eG]
theorem SE (h:∀t,t∈tk→t.up=N→t.en=0):tk.map (jU N [])=tk:=by
 conv=>rhs;rw[←List.map_id tk]
 refine eO fun t ht=>?_
 unfold jU
 split
 ·rename_i q;rw[Dy (by simp)];exact TU (h t ht q)
 ·rfl
theorem Dt (h:KK (N+1) tk of) (hk:of (N,a)=some k0) (ha:e.f[j]? =some a) (hn:e.f.Nodup) (hes:∀x,x∈es→a∉x.f):
  (tk.map (jU (N+1) (es++[cut e j]))).modify k0 (NS e)=tk.map (jU (N+1) (es++[cut e (j+1)])):=by
 refine cM fun i=>?_
 rw[jE,aI,aI]
 cases ht:tk[i]? with
 |none=>by_cases q:k0=i<;>simp [q]
 |some t=>
  obtain⟨hj,rfl⟩:=an.1 ha
  have htake:∀x,x∈(cut e (j+1)).f↔x∈(cut e j).f∨x=e.f[j]:=fun x=>by
   unfold cut
   show x∈e.f.take (j+1)↔x∈e.f.take j∨_
   rw[bX hj,bQ,bW]
  have hnot:e.f[j]∉(cut e j).f:=fun hm=>by
   obtain⟨x,hx,hx2⟩:=gg.1 hm
   have hx3:x<j:=by
    have:x<(e.f.take j).length:=hx
    rw[List.length_take]at this;omega
   have hx4:e.f[x]'(by omega)=e.f[j]:=by
    rw[←hx2]
    have hx':x<(e.f.take j).length:=hx
    have:(e.f.take j)[x]'hx'=e.f[x]'(by omega):=List.getElem_take
    exact this.symm
   exact cj.1 hn x j (by omega) hj hx3 hx4
  simp only[ft]
  by_cases q:k0=i
  ·subst q
   obtain⟨t',h1,h2,h3⟩:=h.at hk
   rw[ht]at h1;cases h1
   have he0:=h.en t (al ht) h2
   have hes':¬∃x,x∈es∧e.f[j]∈x.f:=fun⟨x,hx,hx2⟩=>hes x hx hx2
   have b1:oJ (es++[cut e j]) t.last=TW:=by rw[h3,uV,if_neg hes',if_neg hnot]
   have b2:oJ (es++[cut e (j+1)]) t.last=cut e (j+1):=by rw[h3,uV,if_neg hes',if_pos ((htake _).2 (.inr rfl))]
   have e1:jU (N+1) (es++[cut e j]) t=t:=by unfold jU;rw[if_pos h2,b1,TU he0]
   have e2:jU (N+1) (es++[cut e (j+1)]) t=NS e t:=by unfold jU;rw[if_pos h2,b2];rfl
   simp only[if_true,e1,e2];rfl
  ·simp only[q,if_false]
   have key:jU (N+1) (es++[cut e j]) t=jU (N+1) (es++[cut e (j+1)]) t:=by
    unfold jU
    split
    ·rename_i hu
     have hla:t.last≠e.f[j]:=fun z=>q (h.only hk ht hu z).symm
     rw[uV,uV]
     split
     ·rfl
     ·by_cases z:t.last∈(cut e j).f
      ·rw[if_pos z,if_pos ((htake _).2 (.inl z))];rfl
      ·rw[if_neg z,if_neg fun y=>((htake _).1 y).elim z hla]
    ·rfl
   rw[key];rfl
def r6 (N:Nat) (es:List gF) (of0:Nat×Nat→Option Nat) (x:Nat×Nat):Option Nat:=
 if x.1=N+1 then((es.find? fun e=>decide (e.kd=4)&&decide (x.2∈e.t)).bind fun e=>of0 (N,e.f.headD 0)) else of0 x
theorem SN (h:KK (N+1) tk of):r6 N [] of=of:=by
 funext x
 unfold r6
 split
 ·rename_i q
  cases hz:of x with
  |none=>rfl
  |some k=>have:=(h.lt (n:=x.1) (i:=x.2) hz).1;omega
 ·rfl
theorem Iu {i:Nat}:r6 N es of0 (N,i)=of0 (N,i):=if_neg (Nat.ne_of_lt (nM N))
theorem Oa (h:e.kd≠4):r6 N (es++[e]) of0=r6 N es of0:=by
 funext x
 unfold r6
 split
 ·rw[nR];simp [h]
 ·rfl
theorem OI {b:Nat} (hk:e.kd=4) (hb:e.t=[b]) (h0:of0 (N,e.f.headD 0)=some k0) (hes:∀x,x∈es→b∉x.t):kB (r6 N es of0) (N+1,b) k0=r6 N (es++[e]) of0:=by
 funext x
 obtain⟨x1,x2⟩:=x
 unfold kB r6
 by_cases q:x1=N+1
 ·subst q
  simp only[if_true]
  rw[nR]
  by_cases z:x2=b
  ·subst z
   rw[if_pos rfl,gJ.2 fun a ha=>by simp [hes a ha]]
   simp [hk,hb,h0]
   simp [←h0]
  ·rw[if_neg (by simp [z])]
   cases hq:es.find? (fun e=>decide (e.kd=4)&&decide (x2∈e.t)) with
   |some a=>rfl
   |none=>simp [hb,z]
 ·rw[if_neg (by simp [q]),if_neg q,if_neg q]
end
end Go.Proofs.YtgemekpofpoopaaGreat
