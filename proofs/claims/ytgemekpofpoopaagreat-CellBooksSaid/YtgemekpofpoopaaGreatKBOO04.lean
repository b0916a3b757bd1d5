/-
  DERIVED: THE SHELF's CONTRACTS AT THIS DUMP, IN PLAIN WORDS (tools/lay-plain.mjs out of 'TryzShelf.lean', which tools/lay-shelf.mjs wrote): THE SAME DECLARATIONS UNDER THE SAME NAMES: 'import', 'namespace', 'open', 'def', 'theorem' AND NOTHING ELSE: no command of the shelf's: FOR A HAND-IN. Each laying: the table of numbers ('.._ren') and one theorem, a field a fact of the dump's own or the kernel's comparison; each contract: ONE APPLICATION.
  (and more)
-/
import Derived.Test.YtgemekpofpoopaaGreatKBOO03
import Derived.Shelf.Small.Bits
import Derived.Shelf.Small.Wraps
import Derived.Shelf.Strconv.Itoa0
import Derived.Shelf.Sort.Plain
import Derived.Shelf.Bits.Mul64
import Derived.Ground.Names2Prog
import Derived.Shelf.Slices.Clone
import Derived.Shelf.Slices.SearchI
import Derived.Shelf.Slices.In.SortNone
import Derived.Ground.SlgnProg
import Derived.Shelf.SlicesE.Clone
import Derived.Test.YtgemekpofpoopaaGreatProg
open Go.Shelf renaming Ren→yC
open Go.Proofs.Tryz renaming prog→af,underlying3→dJ,underlying55→nW,underlying177→lP,zeroValue177→wz,underlying195→vv,zeroValue195→wA,underlying198→vw,zeroValue198→wB,underlying56→wE,underlying60→kV
open Go.Value renaming int→cX,slice→il
open Go.Sort renaming ahead→tC
open List renaming size_toArray→gA,getElem?_append_left→aV,getElem?_map→aI,getElem?_eq_getElem→aw,ext_getElem?→cM,getElem?_append_right→bJ,length_map→ak,mem_map→bN,map_map→dV,map_congr_left→eO,replicate→bH,replicate_succ→lB,flatten_cons→gB,length_replicate→dF,getElem?_replicate→fb,replicate_zero→uA,append_nil→ew,getElem?_eq_some_iff→an,getElem_replicate→sb,mem_replicate→ng,toList_toArray→uB,range→bF,length_append→aJ,mem_of_getElem?→al,map_append→bG,take_length→eG,take_add_one→kU,getElem_mem→gS,set_append_right→s9,append_assoc→dk,mem_iff_getElem?→eA,getElem?_set→eQ,filter_cons→dj,filter_nil→jV,pairwise_iff_getElem→cj,mem_map_of_mem→bw,getElem?_range→fE,mem_append→bQ,length→dv,getD_eq_getElem?_getD→aO,length_take→eU,eq_nil_of_length_eq_zero→eV,length_singleton→bu,length_nil→lY,getElem?_eq_none→aQ,length_range→jO
open Nat renaming zero_add→fF,le_add_right→wC,lt_of_lt_of_le→dZ,sub_self→gd,le_refl→cg,zero_le→aY,add_sub_cancel→lz
open Go.World renaming cell?→kj
open Option renaming isSome_none→ir,map_some→ft
open Bool renaming false_eq_true→cA
open Array renaming getElem?_modify→oX
open Int renaming ofNat→q7,toNat→tD
open Option.some renaming inj→eI
open Go.SL.VC renaming q→au,seq→av,cond→ay,skip→aE,block→aD,eg→bS,iI→eC,exit→bU,ret→be,eX→aM,perm→gw,res→iv,draw→gj
open Go.SL.VO renaming a→ax,n→aq,m→ag,t→dK,l→ah,gf→aK,nil→aN,h→aB,f→bO,c→cL,h0→cu,p→da,gt→bh,lg→mW
open Go.SL.VE renaming aU→aj,gO→bB,df→aZ,bZ→aH,jT→cB,res→dh
open Go.SL.LO renaming len→bE,call→bK,ex→cU,gt→gu,mv→aS,jZ→cD,jA→cy,ld→aC,fT→aX,qc→e7,iy→bM,fa→aP,sub→gz
open Go.SL.HO renaming lo→aW,box→c8,bs→eW,eS→cd,alloc→cJ,st→cq,zF→iV,k8→eP
open Go.SL.LX renaming m→cT,l→aG,s→dC,nil→fj
open Go.Proofs.YtgemekpofpoopaaGreat.LO renaming eqv→eN
open Go.SL.HX renaming s→az,nil→fB
open Go.SL.cG renaming l→dw,z→vy
open Go.SL.LL renaming m→eT,l→bl,gt→gm,gf→cW
open Go.SL.RO renaming gM→fK,b0→nq
open Go.SL.St renaming fz→iH
open Classical renaming not_not→eK
open Go.SL.GD renaming nf→wI
open Go.Ending renaming returned→bT

set_option linter.unusedSimpArgs false
set_option maxRecDepth 20000
set_option maxHeartbeats 8000000
namespace Go.Proofs
open Go.Shelf
def Tryz.D8:yC:=⟨fun|189=>68|125=>91|257=>90|128=>111|129=>112|294=>102|295=>103|296=>104|297=>105|298=>106|299=>107|216=>108|300=>109|301=>110|328=>116|329=>117|330=>118|331=>119|332=>120|215=>121|343=>123|n=>n,fun|28=>55|3=>3|46=>177|0=>0|51=>195|53=>198|4=>4|183=>203|182=>202|131=>120|5=>5|9=>9|218=>212|222=>216|228=>219|229=>220|n=>n,fun|n=>n⟩
theorem Tryz.IT:Go.Proofs.Lays.n189 af Tryz.D8:={
 mixed:=by kernel_rfl
 f125:=Tryz.func91.trans (congrArg some (by kernel_rfl))
 f128:=Tryz.func111.trans (congrArg some (by kernel_rfl))
 f129:=Tryz.func112.trans (congrArg some (by kernel_rfl))
 f189:=Tryz.func68.trans (congrArg some (by kernel_rfl))
 f215:=Tryz.func121.trans (congrArg some (by kernel_rfl))
 f216:=Tryz.func108.trans (congrArg some (by kernel_rfl))
 f257:=Tryz.func90.trans (congrArg some (by kernel_rfl))
 f294:=Tryz.func102.trans (congrArg some (by kernel_rfl))
 f295:=Tryz.func103.trans (congrArg some (by kernel_rfl))
 f296:=Tryz.func104.trans (congrArg some (by kernel_rfl))
 f297:=Tryz.func105.trans (congrArg some (by kernel_rfl))
 f298:=Tryz.func106.trans (congrArg some (by kernel_rfl))
 f299:=Tryz.func107.trans (congrArg some (by kernel_rfl))
 f300:=Tryz.func109.trans (congrArg some (by kernel_rfl))
 f301:=Tryz.func110.trans (congrArg some (by kernel_rfl))
 f328:=Tryz.func116.trans (congrArg some (by kernel_rfl))
 f329:=Tryz.func117.trans (congrArg some (by kernel_rfl))
 f330:=Tryz.func118.trans (congrArg some (by kernel_rfl))
 f331:=Tryz.func119.trans (congrArg some (by kernel_rfl))
 f332:=Tryz.func120.trans (congrArg some (by kernel_rfl))
 f343:=Tryz.func123.trans (congrArg some (by kernel_rfl))
 t0:=Tryz.underlying0
 a0:=Tryz.isAgg0
 z0:=Tryz.sizeOf0
 v0:=Tryz.zeroValue0
 t3:=dJ
 a3:=Tryz.isAgg3
 z3:=Tryz.sizeOf3
 v3:=Tryz.zeroValue3
 t4:=Tryz.underlying4
 a4:=Tryz.isAgg4
 z4:=Tryz.sizeOf4
 v4:=Tryz.zeroValue4
 t5:=Tryz.underlying5
 a5:=Tryz.isAgg5
 z5:=Tryz.sizeOf5
 v5:=Tryz.zeroValue5
 t9:=Tryz.underlying9
 a9:=Tryz.isAgg9
 z9:=Tryz.sizeOf9
 v9:=Tryz.zeroValue9
 t28:=nW
 a28:=Tryz.isAgg55
 z28:=Tryz.sizeOf55
 v28:=Tryz.zeroValue55
 t46:=lP
 a46:=Tryz.isAgg177
 z46:=Tryz.sizeOf177
 v46:=wz
 t51:=vv
 a51:=Tryz.isAgg195
 z51:=Tryz.sizeOf195
 v51:=wA
 t53:=vw
 a53:=Tryz.isAgg198
 z53:=Tryz.sizeOf198
 v53:=wB
 t131:=Tryz.underlying120
 a131:=Tryz.isAgg120
 z131:=Tryz.sizeOf120
 v131:=Tryz.zeroValue120
 t182:=Tryz.underlying202
 a182:=Tryz.isAgg202
 z182:=Tryz.sizeOf202
 v182:=Tryz.zeroValue202
 t183:=Tryz.underlying203
 a183:=Tryz.isAgg203
 z183:=Tryz.sizeOf203
 v183:=Tryz.zeroValue203
 t218:=Tryz.underlying212
 a218:=Tryz.isAgg212
 z218:=Tryz.sizeOf212
 v218:=Tryz.zeroValue212
 t222:=Tryz.underlying216
 a222:=Tryz.isAgg216
 z222:=Tryz.sizeOf216
 v222:=Tryz.zeroValue216
 t228:=Tryz.underlying219
 a228:=Tryz.isAgg219
 z228:=Tryz.sizeOf219
 v228:=Tryz.zeroValue219
 t229:=Tryz.underlying220
 a229:=Tryz.isAgg220
 z229:=Tryz.sizeOf220
 v229:=Tryz.zeroValue220 }
open Go.Sort Go.RowKit in
theorem Tryz.slices_Sort_int (gq off cap:Nat) (zs:List Int) (w:World) (hH:Holds (cX .i64) w gq off zs.toArray) (hblk:gq<w.heap.size) (hsz:zs.length<4611686018427387904):
  Calls af 68 #[.slice (some ⟨gq,off,none⟩) zs.length cap] w fun e w'=>
   e= .returned (.tuple #[])∧∃n os,w'=grow (putRow (cX .i64) (tC w n) gq off (zs.mergeSort fun x y=>decide (x≤y)).toArray) os:=Any.slices_Sort_int Tryz.IT gq off cap zs w hH hblk hsz
def Tryz.DF:yC:=⟨fun|212=>86|263=>100|264=>101|n=>n,fun|46=>177|51=>195|146=>196|53=>198|148=>199|n=>n,fun|n=>n⟩
theorem Tryz.Rb:Go.Proofs.Lays.n212 af Tryz.DF:={
 mixed:=by kernel_rfl
 f212:=Tryz.func86.trans (congrArg some (by kernel_rfl))
 f263:=Tryz.func100.trans (congrArg some (by kernel_rfl))
 f264:=Tryz.func101.trans (congrArg some (by kernel_rfl))
 t46:=lP
 a46:=Tryz.isAgg177
 z46:=Tryz.sizeOf177
 v46:=wz
 t51:=vv
 a51:=Tryz.isAgg195
 z51:=Tryz.sizeOf195
 v51:=wA
 t53:=vw
 a53:=Tryz.isAgg198
 z53:=Tryz.sizeOf198
 v53:=wB
 t146:=Tryz.underlying196
 a146:=Tryz.isAgg196
 z146:=Tryz.sizeOf196
 v146:=Tryz.zeroValue196
 t148:=Tryz.underlying199
 a148:=Tryz.isAgg199
 z148:=Tryz.sizeOf199
 v148:=Tryz.zeroValue199 }
open Go.RowKit Go.Lib in
theorem Tryz.bits_Mul (x y:Nat) (hx:x<18446744073709551616) (hy:y<18446744073709551616) (w:World):
  Calls af 86 #[.int .u64 x,.int .u64 y] w fun e w'=>e= .returned (.tuple #[.int .u64 ((x*y / 18446744073709551616:Nat):Int),.int .u64 ((x*y%18446744073709551616:Nat):Int)])∧w'=w:=Any.bits_Mul Tryz.Rb x y hx hy w
open Go.RowKit Go.Sort in
theorem Tryz.slices_Sort_int_none (p:Option Addr) (cap:Nat) (w:World):
  Calls af 68 #[.slice p 0 cap] w fun e w'=>e= .returned (.tuple #[])∧w'=w:=Any.slices_Sort_int_none Tryz.IT p cap w
end Go.Proofs
namespace Go.SL
set_option linter.unusedVariables false
set_option linter.unusedSimpArgs false
open Go.RowKit Go.Sort
section
variable {P:Program} {β:Bs} {L:List dg}
theorem tA (l:List Int):(l.map fun n=>[cX .i64 n]).flatten=l.map (cX .i64):=by
 induction l with
 |nil=>rfl
 |cons x l ih=>simp [ih]
theorem Kn {w:World} {E cap:Nat} {a:Addr} {l:List Int} (h:(own E 1 (some a) cap (l.map fun n=>[.int .i64 n])).inv w):Holds (cX .i64) w a.block 0 l.toArray∧a=⟨a.block,0,none⟩:=by
 obtain⟨h1,h2,h3,h4⟩:=h
 obtain⟨g1,g2,C,spare,g3,g4,g5⟩:=h4 a rfl
 have ea:a=⟨a.block,0,none⟩:=by cases a;simp_all
 refine⟨fun j hj=>?_,ea⟩
 rw[gA]at hj
 refine⟨?_,frozen_of_row w a.block _ C E g3⟩
 rw[tA]at g4
 have:C.toList[0+j]? =some (.int .i64 l[j]):=by
  rw[g4,fF,aV (by simpa using hj),aI,aw hj];rfl
 simp only[kj,g3,ir,cA,if_false]
 rw[←Array.getElem?_toList,this]
 congr 2
 rw[getElem!_pos _ _ (by simpa using hj)]
 simp
theorem Rq {w w':World} {E cap b n:Nat} {l m:List Int} {os:Array Obj} (h:(own E 1 (some ⟨b,0,none⟩) cap (l.map fun n=>[.int .i64 n])).inv w) (hb:b<w.heap.size) (hm:m.length=l.length)
  (hw:w'=grow (putRow (cX .i64) (tC w n) b 0 m.toArray) os):St ⟨w,(own E 1 (some ⟨b,0,none⟩) cap (l.map fun n=>[.int .i64 n])).fp⟩ [own E 1 (some ⟨b,0,none⟩) cap (m.map fun n=>[.int .i64 n])] w':=by
 obtain⟨h1,h2,h3,h4⟩:=h
 obtain⟨g1,g2,C,spare,g3,g4,g5⟩:=h4 _ rfl
 rw[tA]at g4
 have hsz:(putRow (cX .i64) (tC w n) b 0 m.toArray).heap.size=w.heap.size:=by rw[size_putRow];rfl
 have hlen:l.length≤C.size:=by
  have:C.toList.length=C.size:=Array.length_toList
  rw[←this,g4];simp
 have hnew:w'.heap[b]? =some (.cells (putCells (cX .i64) 0 m.toArray C) E (0,0)):=by
  rw[hw,heap_grow_old _ _ (by rw[hsz];exact hb)]
  have:(tC w n).heap=w.heap:=rfl
  simp only[putRow,mapBlock,this,oX,g3,if_true,ft,onCells]
 have hC:(putCells (cX .i64) 0 m.toArray C).toList=m.map (cX .i64)++spare:=by
  refine cM fun k=>?_
  have e1:(putCells (cX .i64) 0 m.toArray C).toList[k]? =C.toList[k]?.map fun x=>if k<m.length then .int .i64 (m.toArray[k]!) else x:=by
   unfold putCells
   simp [Array.getElem?_mapIdx]
  rw[e1,g4]
  by_cases hk:k<m.length
  ·rw[aV (by simp;omega),aV (by simpa using hk),aI,aI,aw hk,aw (show k<l.length by omega)]
   simp [hk]
  ·rw[bJ (by simp;omega),bJ (by simpa using hk)]
   simp only[ak,hm]
   rw[hm]at hk
   cases spare[k-l.length]? with
   |none=>rfl
   |some v=>simp only[ft];rw[if_neg hk]
 have hfr:∀k,k<w.heap.size→k≠b→w'.heap[k]? =w.heap[k]? :=by
  intro k hk hne
  rw[hw,heap_grow_old _ _ (by rw[hsz];exact hk)]
  have:(tC w n).heap=w.heap:=rfl
  simp only[putRow,mapBlock,this,oX]
  rw[if_neg (Ne.symm hne)]
 refine⟨by rw[hw];rfl,by rw[hw];rfl,by rw[hw];rfl,by rw[hw,size_grow,hsz];exact wC _ _,?_,?_,?_,?_⟩
 ·intro k hk hO
  exact hfr k hk (fun e=>hO ⟨by simp,e⟩)
 ·intro i r hr
  cases i with
  |zero=>
   cases hr
   refine⟨by simp [hm]at h1 ⊢;exact h1,by intro r hr;obtain⟨x,_,rfl⟩:=bN.1 hr;rfl,fun q=>(by cases q),fun a q=>?_⟩
   cases q
   refine⟨rfl,rfl,_,spare,hnew,by rw[tA];exact hC,?_⟩
   rw[←g5];simp [putCells]
  |succ i=>simp at hr
 ·intro i r hr k hk
  cases i with
  |zero=>
   cases hr
   have e:k=b:=hk.2
   subst e
   refine⟨.inl ⟨by simp,rfl⟩,?_⟩
   rw[hw,size_grow,hsz];exact dZ hb (wC _ _)
  |succ i=>simp at hr
 ·intro i j r s hij hr hs
  cases i with
  |zero=>cases j with|zero=>exact absurd rfl hij|succ j=>simp at hs
  |succ i=>simp at hr
theorem St.Px {w:World} {E z cap:Nat} {p:Option Addr} {l m:List (List Value)} (hw:St β L w) (i:Nat) (hi:L[i]? =some (own E z p cap (l++m))):St β (L.set i (own E z p cap l)) w:=by
 refine hw.conv i hi (fun k hk=>hk) ?_
 obtain⟨h1,h2,h3,h4⟩:=hw.inv i _ hi
 refine⟨by simp at h1;omega,fun r hr=>h2 r (by simp [hr]),fun q=>⟨by have:=(h3 q).1;simp at this;exact this.1,(h3 q).2⟩,fun a ha=>?_⟩
 obtain⟨g1,g2,C,spare,g3,g4,g5⟩:=h4 a ha
 exact⟨g1,g2,C,m.flatten++spare,g3,by rw[g4];simp,g5⟩
end
end Go.SL
namespace Go.Proofs.YtgemekpofpoopaaGreat
open Go.SL Go.Proofs Go.sM Go.Sort
set_option linter.unusedVariables false
def Az (n:Int):List Value:=[.int .i64 n]
def uI (l:List Int):List Int:=l.mergeSort fun x y=>decide (x≤y)
theorem Ld (l:List Int):(uI l).length=l.length:=List.length_mergeSort ..
theorem VD {β:Bs} {L:List dg} {w:World} {p:Option Addr} {cap:Nat} {l:List Int} (i:Nat) (hw:St β L w) (hi:L[i]? =some (own 3 1 p cap (l.map Az))) (hl:l.length<4611686018427387904):
  Calls af 68 #[.slice p l.length cap] w fun e w'=>∃x:Unit,True∧e= .returned (.tuple #[])∧St ⟨w,(own 3 1 p cap (l.map Az)).fp⟩ [own 3 1 p cap ((uI l).map Az)] w':=by
 have hinv:=hw.inv i _ hi
 have hrng:=hw.qE i _ hi
 cases p with
 |none=>
  have h0:l=[]:=by simpa using(hinv.2.2.1 rfl).1
  subst h0
  refine(Tryz.slices_Sort_int_none none cap w).mono fun e w' ⟨h1,h2⟩=>⟨(),trivial,h1,?_⟩
  subst h2
  rw[show uI []=[]from by simp [uI]]
  exact St.one hinv (fun k hk=>(hrng k hk).2)
 |some a=>
  obtain⟨hH,ea⟩:=Kn hinv
  have hb:a.block<w.heap.size:=(hrng a.block ⟨by simp,rfl⟩).2
  rw[ea]at hinv ⊢
  refine(Tryz.slices_Sort_int a.block 0 cap l w hH hb hl).mono fun e w' ⟨h1,n,os,h2⟩=>⟨(),trivial,h1,?_⟩
  exact Rq (m:=uI l) hinv hb (Ld l) h2
end Go.Proofs.YtgemekpofpoopaaGreat
namespace Go.Proofs.YtgemekpofpoopaaGreat
open Go.SL Go.Proofs Go.sM Go.Cell
set_option linter.unusedVariables false
def sz (l:List Nat):List Nat:=(uI (l.map q7)).map tD
theorem y7 (l:List Int):(uI l).Perm l:=List.mergeSort_perm _ _
theorem Cu (l:List Int):(uI l).Pairwise (· ≤ ·):=by
 have:=List.pairwise_mergeSort (le:=fun x y:Int=>decide (x≤y)) (fun a b c h1 h2=>by simp at*;omega) (fun a b=>by simp;omega) l
 exact this.imp (fun h=>by simpa using h)
theorem ud (l:List Nat):(sz l).Perm l:=by
 have h:=(y7 (l.map q7)).map tD
 rw[dV]at h
 have e:(tD∘q7)=id:=by funext x;rfl
 rw[e,List.map_id]at h
 exact h
theorem Co (l:List Nat):(sz l).Pairwise (· ≤ ·):=by
 unfold sz
 refine List.pairwise_map.2 ((Cu _).imp fun h=>by omega)
theorem A1 (l:List Nat):(sz l).length=l.length:=(ud l).length_eq
theorem Dg (l:List Nat):(sz l).map nC=(uI (l.map q7)).map Az:=by
 unfold sz
 rw[dV]
 refine eO fun x hx=>?_
 obtain⟨y,_,rfl⟩:=bN.1 ((y7 _).mem_iff.1 hx)
 rfl
theorem AW (l:List Nat):l.map nC=(l.map q7).map Az:=by rw[dV];rfl
theorem I8 {β:Bs} {L:List dg} {w:World} {p:Option Addr} {cap:Nat} {l:List Nat} (i:Nat) (hw:St β L w) (hi:L[i]? =some (own 3 1 p cap (l.map nC))) (hl:l.length<4611686018427387904):
  Calls af 68 #[.slice p l.length cap] w fun e w'=>∃x:Unit,True∧e= .returned (.tuple #[])∧St ⟨w,(own 3 1 p cap (l.map nC)).fp⟩ [own 3 1 p cap ((sz l).map nC)] w':=by
 rw[AW]at hi
 have h:=VD (l:=l.map q7) i hw hi (by rw[ak];exact hl)
 rw[ak]at h
 rw[Dg,AW]
 exact h
theorem DW {l m:List Nat} (hm:m.Pairwise (· < ·)) (hl:l.Nodup) (h:∀x,x∈l↔x∈m):sz l=m:=by
 refine rv ?_ hm fun x=>by rw[(ud l).mem_iff];exact h x
 have h1:=Co l
 have h2:(sz l).Nodup:=(ud l).nodup_iff.2 hl
 refine(List.Pairwise.and h1 h2).imp fun⟨a,b⟩=>Nat.lt_of_le_of_ne a b
theorem fk:ee af 55 3:=nW
theorem C86:fh af 86:=⟨_,Tryz.func86,by decide,rfl⟩
theorem N3:(af.info? 3).map (·.size)=some 1:=by kernel_rfl
theorem I3:j6 af 3 1 8 (.int .i64 0):=⟨by kernel_rfl,by kernel_rfl,by unfold dr;kernel_rfl,rfl,by decide⟩
def r7 (v:Int) (n k:Nat):List Value:=bH k (.int .i64 v)++bH (n-k) (.int .i64 0)
theorem B6 {v:Int} {n k:Nat} (h:k≤n):(r7 v n k).length=n:=by unfold r7;simp;omega
theorem uS (v:Int) (n:Nat):(bH n (cX .i64 0).cells.toList).flatten=r7 v n 0:=by
 unfold r7
 show(bH n [cX .i64 0]).flatten=_
 induction n with
 |zero=>rfl
 |succ n ih=>rw[lB,gB,ih];simp [lB]
theorem DK {v:Int} {n k m:Nat} (h:k+m≤n):(r7 v n k).take k++bH m (.int .i64 v)++(r7 v n k).drop (k+m)=r7 v n (k+m):=by
 unfold r7
 rw[List.take_left' (by simp),List.drop_append,List.drop_eq_nil_of_le (by simp),List.nil_append,dF,List.drop_replicate,show n-k-(k+m-k)=n-(k+m) by omega,List.replicate_append_replicate]
theorem QS {v:Int} {n k j:Nat} {x:Value} (h:j<k):(r7 v n k)[j]? =some (.int .i64 v):=by
 unfold r7
 rw[aV (by simpa using h),fb,if_pos h]
theorem Cd {b o j:Nat}:(⟨b,o,none⟩:Addr).add j=⟨b,o+j,none⟩:=by unfold Addr.add;split<;>simp_all
theorem Oe {β:Bs} {L:List dg} {w:World} {b E i:Nat} {C:List Value} (hw:St β L w) (hi:L[i]? =some (gq b (.cells C.toArray E))) {j:Nat} {x:Value} (h:C[j]? =some x):w.cell? ⟨b,j,none⟩=some x:=by
 have:=hw.inv i _ hi
 have hh:w.heap[b]? =some (.cells C.toArray E (0,0)):=this
 simp only[kj,hh,ir,cA,if_false]
 simpa using h
theorem St.Ra {β:Bs} {L:List dg} {w:World} {b n:Nat} {v:Int} (i:Nat) (hw:St β L w) (hi:L[i]? =some (gq b (.cells (r7 v n n).toArray 3))):St β (L.set i (own 3 1 (some ⟨b,0,none⟩) n ((bH n v).map iC))) w:=by
 have key:∀m:Nat,(bH m (iC v)).flatten=bH m (cX .i64 v):=fun m=>by
  induction m with
  |zero=>rfl
  |succ m ih=>rw[lB,gB,ih];rfl
 have e:((bH n v).map iC).flatten=r7 v n n:=by
  unfold r7
  rw[gd,uA,ew,List.map_replicate]
  exact key n
 exact hw.conv i hi (fun k hk=>hk.2) ⟨by simp,fun r hr=>by obtain⟨x,_,rfl⟩:=bN.1 hr;rfl,fun q=>(by cases q),fun a ha=>by
  cases ha
  exact⟨rfl,rfl,(r7 v n n).toArray,[],hw.inv i _ hi,by rw[e];simp,by rw[gA,B6 (cg _),Nat.mul_one]⟩⟩
theorem Vw {v:Int} {n:Nat}:(bH (min 1 n) (cX .i64 v)).length=Nat.min 1 n:=dF ..
theorem wu {e:Int} (h1:0≤e) (h2:e≤18446744073709551615):IntKind.wrap .u64 e=e:=IntWalk.u64_in _ ⟨h1,h2⟩
theorem Wt {w0 w:World} {a0:Addr} {v:Int} {n:Nat} {L:List dg} (hv:Ints w0 (some a0) [v]) (hw:St (bs w0) L w) {j:Nat} {x:Value} (hx:(bH (min 1 n) (cX .i64 v))[j]? =some x):w.cell? (a0.add j)=some x:=by
 obtain⟨hj,e⟩:=an.1 hx
 rw[dF]at hj
 rw[sb]at e
 have hj0:j=0:=by omega
 subst hj0
 have h1:=hv.at (j:=0) (by simp) w hw 0 (.int .i64 v) rfl
 have ha:=hv.some (by simp)
 rw[←e]
 have e2:(⟨pb (some a0),po (some a0)+0*1,none⟩:Addr)=a0:=by
  rw[Nat.zero_mul,Nat.add_zero];exact(eI ha).symm
 rw[e2]at h1
 exact h1
theorem V1 {β:Bs} {L:List dg} {w:World} {b i n k m:Nat} {v:Int} (hw:St β L w) (hi:L[i]? =some (gq b (.cells (r7 v n k).toArray 3))) {j:Nat} {x:Value} (hx:(bH (min k m) (cX .i64 v))[j]? =some x):w.cell? ((⟨b,0,none⟩:Addr).add j)=some x:=by
 obtain⟨hj,e⟩:=an.1 hx
 rw[dF]at hj
 rw[sb]at e
 rw[←e,Cd,fF]
 exact Oe hw hi (QS (by omega) (x:=x))
theorem YL (n:Nat) (w:World) (hn:n≤4096):Calls af 86 #[.int .u64 ((1:Nat):Int),.int .u64 (n:Int)] w fun e w'=>e= .returned (.tuple #[.int .u64 0,.int .u64 (n:Int)])∧St (bs w) [] w':=by
 refine(Tryz.bits_Mul 1 n (by omega) (by omega) w).mono ?_
 rintro e w' ⟨rfl,rfl⟩
 refine⟨?_,St.refl _⟩
 rw[Nat.one_mul,Nat.div_eq_of_lt (by omega),Nat.mod_eq_of_lt (by omega)]
 rfl
theorem zJ (v:Int) (a0:Addr) (cv n:Nat) (w:World) (hv:Ints w (some a0) [v]) (hn:n≤4096):
 Calls af 53 #[.slice (some a0) 1 cv,.int .i64 (n:Int)] w fun e w'=>∃x:Option Addr×Nat,True∧e= .returned (.slice x.1 n x.2)∧St (bs w) [own 3 1 x.1 x.2 ((bH n v).map iC)] w':=by
 refine enter (vs:=[_,_]) (env:=[(0,_),(1,_)]) Tryz.func53 rfl rfl rfl rfl ?_
 refine au (ax rfl<|aq<|av<|au (ag rfl<|dK rfl<|aq ?_))
 refine ay rfl (fun h10=>?_) (fun h10=>?_)
 · (exfalso;omega)
 ·
  refine aE (aj<|au (ag rfl<|ah (bE fk (.r rfl) rfl) rfl<|ah (LO.cv ⟨_,dJ⟩ lP (.r rfl) (wu (by omega) (by omega))) rfl<|ag rfl<|ah (LO.cv ⟨_,dJ⟩ lP (.r rfl) (wu (by omega) (by omega))) rfl<|ah (bK (xs:=[_,_]) (vs:=[_,_]) C86 ⟨(.r rfl),(.r rfl),trivial⟩ (fun w hw=>YL n w hn)) rfl<|ag rfl<|ah (cU (.r rfl) rfl) rfl<|ah (cU (.r rfl) rfl) rfl<|ax rfl<|ax rfl<|aq<|av<|au (ag rfl<|ah (gu (.r rfl) (.r rfl)) rfl<|ag rfl<|aK rfl (fun hg=>aS (.r rfl))<|aK rfl (fun hg=>gu (.g hg rfl) (.r rfl))<|ah (cD (.r rfl) (.r rfl) rfl rfl) rfl<|aN ?_)))
  refine aj<|ay rfl (fun h26=>?_) (fun h26=>?_)
  · (exfalso;omega)
  ·
   refine aE (aj<|au (ag rfl<|ah (LO.cv ⟨_,lP⟩ dJ (.r rfl) (wi (by omega) (by omega))) rfl<|aB rfl<|HO.abl (n:=n) fk I3 (.r rfl) (.r rfl) rfl (by decide) (by omega) (by omega) fun b1=>aB rfl<|aW (LO.as (.r rfl))<|aN ?_))
   rw[uS v]
   refine aj<|au (ag rfl<|ag rfl<|aB rfl<|HO.cpy 0 (fun R=>[R]) (C':=(r7 v n (min 1 n)).toArray) (cs:=bH (min 1 n) (.int .i64 v)) fk N3 (.r rfl) (.r rfl) rfl Vw (fun w2 hw2 j x hx=>Wt hv hw2 hx) (by rw[dF,gA,B6 (aY _)];omega) (fun x hx=>by rw[(ng.1 hx).2];rfl) (by rw[uB,dF];have z:=DK (v:=v) (n:=n) (k:=0) (m:=min 1 n) (by omega);rw[fF]at z ⊢;rw[z]) (fun _=>rfl)<|aB rfl<|aW (LO.as (.r rfl))<|aN ?_)
   rw[dF]
   refine aj<|av<|aD<|bS (α:=Nat) 1 (fun gx=>[(8,.int .i64 (gx:Nat))]) [(7,_)] (fun gx=>[gq b1 (.cells (r7 v n gx).toArray 3)]) (fun gx=>gx≤n∧(0<n→0<gx)) (fun gx=>n-gx) (min 1 n) (by omega) (.cons rfl (.cons rfl .nil)) (fun _ h=>h) ?_
   rintro k hk
   refine av<|au (ag rfl<|ag rfl<|ah (bE fk (.r rfl) rfl) rfl<|dK rfl<|aq<|ay rfl (fun h37=>?_) (fun h37=>?_))
   ·
    refine aE (aj<|aD<|eC [[0],[],[],[]] [some 1,some 0,some 0,some 0,some 0,some 0,some 0,none,none,none] mixed (by kernel_rfl) rfl (cT rfl<|cT rfl<|cT rfl<|aG (fun _ hJ=>eN (LO.sl (l:=k) fk N3 (.r rfl) (.r rfl) rfl (by omega)) (by rw[KX (by omega)])) rfl<|cT rfl<|cT rfl<|aG (fun _ hJ=>LO.slH (k:=k) fk N3 (.r rfl) (.r rfl) rfl (by omega)) rfl<|dC<|dC<|dC<|fj) (az<|az<|az<|az<|az<|az<|az<|HX.h rfl<|HO.cpy 0 (fun R=>[R]) (C':=(r7 v n (k+min k (n-k))).toArray) (cs:=bH (min k (n-k)) (.int .i64 v)) fk N3 (.r rfl) (.r rfl) rfl (dF ..) (fun w2 hw2 j x hx=>V1 (i:=0) (n:=n) hw2 rfl hx) (by rw[dF,gA,B6 hk.1];omega) (fun x hx=>by rw[(ng.1 hx).2];rfl) (by rw[uB,dF,DK (by omega)]) (fun _=>rfl)<|⟨fun _ hw=>hw.gY [] rfl,HX.h rfl<|aW (LO.add (.r rfl) (.r rfl) (wi (by rw[dF];omega) (by rw[dF];omega)))<|⟨fun _ hw=>hw.gY [] rfl,HX.h rfl<|aW (LO.as (.r rfl))<|⟨fun _ hw=>hw.gY [] rfl,fB ?_⟩⟩⟩))
    refine bB<|aZ fun a w ha hw=>⟨k+min k (n-k),(by omega),(by omega),ha.sub (.cons (congrArg (fun z=>some (cX .i64 z)) (by rw[dF];omega)) (.cons rfl .nil)),hw⟩
   ·
    have hkn:k=n:=by omega
    subst hkn
    refine bU (aH (aH (cB (aj<|au (ag rfl<|ax rfl<|aq<|be (VE.s rfl rfl (fun w hw=>?_)))))))
    exact⟨(some ⟨b1,0,none⟩,_),trivial,rfl,St.Ra 0 hw rfl⟩
theorem C87:fh af 87:=⟨_,Tryz.func87,by decide,rfl⟩
theorem C55:fh af 55:=⟨_,Tryz.func55,by decide,rfl⟩
theorem Z3:dr af 3 (.int .i64 0):=by unfold dr;kernel_rfl
theorem C53:fh af 53:=⟨_,Tryz.func53,by decide,rfl⟩
theorem Qt:dr af 55 (.slice none 0 0):=by unfold dr;kernel_rfl
theorem qL:(af.info? 55).map (·.size)=some 1:=by kernel_rfl
theorem iL:jJ af 55:=⟨⟨_,nW,rfl⟩,by kernel_rfl⟩
theorem Zg:jJ af 130:=⟨⟨_,Tryz.underlying130,rfl⟩,by kernel_rfl⟩
theorem tQ:ee af 56 55:=wE
theorem C68:fh af 68:=⟨_,Tryz.func68,by decide,rfl⟩
theorem I55:j6 af 55 1 24 (.slice none 0 0):=⟨by kernel_rfl,by kernel_rfl,by unfold dr;kernel_rfl,rfl,by decide⟩
theorem dQ {w:World} {b:Nat} {C:Array Value} {E:TypeId} (h:(gq b (.cells C E)).inv w):fG w ⟨b,0,none⟩ C.toList:=by
 intro j v hj
 rw[Cd,fF]
 have hb:w.heap[b]? =some (.cells C E):=h
 simp only[kj,hb,ir,cA,if_false]
 simpa using hj
theorem yF {β:Bs} {L:List dg} {w:World} {b:Nat} {v:Int} (i:Nat) (hw:St β L w) (hi:L[i]? =some (gq b (.cells #[.int .i64 v] 3))):Ints w (some ⟨b,0,none⟩) [v]:=by
 have h:w.heap[b]? =some (.cells #[.int .i64 v] 3 (0,0)):=hw.inv i _ hi
 refine⟨fun j r hr=>?_,fun q=>(by cases q),fun _ a ha=>(by cases ha;rfl)⟩
 cases j with
 |succ j=>simp at hr
 |zero=>
  simp at hr;subst hr
  intro k x hk
  cases k with
  |succ k=>simp at hk
  |zero=>
   simp at hk;subst hk
   show kj w ((⟨b,0+0*1,none⟩:Addr).add 0)=_
   rw[Cd]
   simp only[kj,h,ir,cA,if_false]
   rfl
theorem St.yu {β:Bs} {L:List dg} {w:World} {E b:Nat} {v:List Value} {z:Nat} (i:Nat) (hz:v.length=z) (hi:L[i]? =some (gq b (.cells v.toArray E))) (hw:St β L w):St β (L.set i (own E z (some ⟨b,0,none⟩) 1 [v])) w:=
 hw.conv i hi (fun k hk=>hk.2) ⟨by simp,fun r hr=>by simp at hr;subst hr;exact hz,fun q=>(by cases q),fun a ha=>by
  cases ha
  exact⟨rfl,rfl,v.toArray,[],hw.inv i _ hi,by simp,by simp [hz]⟩⟩
structure PtY where
 rs:List (cG Nat)
 p:Option Addr
 c:Nat
 po:Option Addr
 co:Nat
def mH (W H:Nat) (S:Nat→Bool):List Int:=(bF (W*H)).map (iG (dM W H S))
theorem RA {W H:Nat} {S:Nat→Bool}:zr W H S (W*H) []=mH W H S:=by
 unfold zr mH dM
 refine eO fun q _=>?_
 unfold BV;rw[if_neg (by simp)]
theorem MV {rs:List (cG Nat)} {ls:List (List Nat)} (h:rs.map dw=ls):(rs.length:Int)=(ls.length:Int):=by rw[←h,ak]
theorem kh {W H:Nat} {S:Nat→Bool}:∀{p},(dz W H S p).length≤p
 |0=>by simp [dz]
 |p+1=>by
  have:=kh (W:=W) (H:=H) (S:=S) (p:=p)
  rw[dz];split
  ·rw[aJ];simp;omega
  ·omega
theorem yj (g:eo) (fq:FuncId) (sv:List Value) (S:Nat→Bool) (w:World) (hg:dH g) (hfq:fh af fq) (hq:∀{L:List dg} (w2:World) (p:Nat),p<gW g*gH g→St (bs w) L w2→Calls af fq (sv++[cX .i64 (p:Int)]++[]).toArray w2 fun e w'=>e= .returned (.bool (S p))∧St (bs w2) [] w'):
 Calls af 50 #[lL g,.func (.func fq) sv.toArray #[]] w fun e w'=>∃y:PtY,y.rs.map dw=dM (gW g) (gH g) S∧e= .returned (.tuple #[.slice y.p y.rs.length y.c,.slice y.po (gW g*gH g) y.co])∧St (bs w) [own 55 1 y.p y.c (y.rs.map lI),kZ 3 1 nC y.rs,own 3 1 y.po y.co ((mH (gW g) (gH g) S).map iC)] w':=by
 have har:=iM hg
 obtain⟨hW,hH,hW1,hW2,hH1,hH2⟩:=An hg
 have hbd:=Gc hg
 obtain⟨W_,hW_⟩:∃n,n=gW g*gH g:=⟨_,rfl⟩
 refine enter (vs:=[_,_]) (env:=[(0,_),(1,_)]) Tryz.func50 rfl rfl rfl rfl ?_
 refine av<|VC.dm0<|aM (aB rfl<|c8 (C:=#[_,_,_,_,_]) rfl rfl fun b2=>aB rfl<|c8 (C:=#[_]) rfl rfl fun b3=>ax rfl<|ax rfl<|aq<|au (ax rfl<|aq ?_))
 refine au (aB rfl<|eW (ps:=[(_,_)]) (vs:=[(_,_)]) (Z:=[_]) (C:=[_]) fk Z3 N3 ⟨(.r rfl),trivial⟩ rfl rfl rfl rfl ⟨_,[_],[_],rfl,rfl,rfl,rfl,rfl⟩ fun b4=>bO (r:=3) iQ rfl<|cL 2 O3 rfl rfl ⟨_,rfl⟩ rfl<|bO (r:=4) uH rfl<|cL 2 O3 rfl rfl ⟨_,rfl⟩ rfl<|ah (eN (LO.mul (.r rfl) (.r rfl) (wi (by omega) (by omega))) (congrArg (cX .i64) hbd.symm)) rfl<|aB rfl<|cd (xs:=[_,_]) (vs:=[_,_]) C53 ⟨(.r rfl),(.r rfl),trivial⟩ (fun w hw=>zJ (-1) _ 1 (gW g*gH g) w (yF 0 hw rfl) har) fun x _=>aB rfl<|cJ (C:=#[_]) Qt rfl fun b6=>cu<|cq 0 (vs:=[_]) (C':=[_]) (L':=[_,_,_,_,_,_]) qL rfl rfl rfl rfl rfl rfl rfl rfl<|aN ?_)
 rw[Mz (S:=S)]
 refine aj<|av<|au (cL 0 iL rfl rfl ⟨_,rfl⟩ rfl<|ah (bE fk (.r rfl) rfl) rfl<|ag rfl<|aq<|aD<|gw [1,5,0,2,3,4] rfl ?_)
 refine VC.Dh (α:=Nat×(List (cG Nat))×(Option Addr)×Nat×(List Nat)) 2 (fun gx=>[(6,.slice gx.2.2.1 gx.2.1.length gx.2.2.2.1),(22,.int .i64 (gx.1:Nat))]) [(2,_),(3,_),(7,_),(21,_)] (fun gx=>[own 3 1 x.1 x.2 ((zr (gW g) (gH g) S gx.1 []).map iC),own 55 1 gx.2.2.1 gx.2.2.2.1 (gx.2.1.map lI),kZ 3 1 nC gx.2.1,Db gx.2.2.2.2]) (fun gx=>gx.2.2.2.2) (fun gx=>gx.1≤gW g*gH g∧gx.2.1.map dw=dz (gW g) (gH g) S gx.1) (fun gx=>gW g*gH g-gx.1) (0,[],none,0,[]) rfl (by exact⟨aY _,rfl⟩) (.c4 rfl rfl rfl rfl (.cons rfl (.cons rfl .nil))) (fun _ h=>(((h.qi 3 1 nC).fX 55 1)).gY [2,0,1,3,4,5,6,7] rfl) ?_
 rintro ⟨p,rs,pr,cr,Ds⟩ ⟨hpn,hrs⟩
 show VC _ _ _ _ _ ([(6,.slice pr rs.length cr),(22,.int .i64 (p:Nat))]++_) ([own 3 1 x.1 x.2 ((zr (gW g) (gH g) S p []).map iC),own 55 1 pr cr (rs.map lI),kZ 3 1 nC rs,Db Ds]++_) _ _
 dsimp only at hpn hrs
 have hrl:=MV hrs
 have hpl:=kh (W:=gW g) (H:=gH g) (S:=S) (p:=p)
 refine au (dK rfl<|aq<|av<|ay rfl (fun h23=>?_) (fun h23=>?_))
 ·
  refine aE (aj<|av<|aD<|au (ag rfl<|ax rfl<|aq<|av ?_))
  refine au (cL 4 iL rfl rfl ⟨_,rfl⟩ rfl<|ag rfl<|ah (cy fk N3 (fun _ hw=>(bL hw 0 rfl).some (by rw[ak,oe])) (.r rfl) (.r rfl) rfl (by omega)) rfl<|ah (aC O3 (.r rfl) (fun w hw=>aA (off:=0) (cO hw 0 rfl (uY (by omega))) ⟨_,rfl⟩)) rfl<|ah (LO.ge (.r rfl) (.r rfl)) rfl<|ag rfl<|aK rfl (fun hg=>aC Zg (.r rfl) (aF 6 rfl ⟨_,rfl⟩))<|aK rfl (fun hg=>aS (.r rfl))<|aK rfl (fun hg=>LO.IW (first:=sv) (cap:=[]) (xs:=[_]) (vs:=[_]) (.g hg rfl) hfq ⟨.g hg rfl,trivial⟩ (fun w2 hw2=>hq w2 p (by omega) (hw2)))<|aK rfl (fun hg=>LO.not (.g hg rfl))<|ah (cD (.r rfl) (.r rfl) rfl rfl) rfl<|aq<|ay rfl (fun h35=>?_) (fun h35=>?_))
  ·
   have hold:=WE (W:=gW g) (H:=gH g) (S:=S) (p:=p) (by omega) (by simpa using h35)
   refine bU (aH (cB (aj<|aM (da rfl rfl (by omega) (by omega) rfl<|ag rfl<|aN ?_))))
   rw[←RN hold]
   refine aZ fun a w ha hw=>⟨(p+1,rs,pr,cr,Ds),⟨by dsimp only;omega,by dsimp only;rw[hold];exact hrs⟩,(by dsimp only;omega),ha.sub (.c4 rfl rfl rfl rfl (.cons rfl (.cons rfl .nil))),(by exact dq (L1:=[_,_,_,_,_,_,_,_]) [0,1,2,3,4,5,6,7] rfl rfl _ hw)⟩
  ·
   have h35b:¬0≤BV (gW g) (gH g) S p [] p∧S p=true:=by simpa using h35
   have hnew:=Vd h35b.1
   refine aE (aj<|au (ag rfl<|ah (bE tQ (.r rfl) rfl) rfl<|aB rfl<|cJ (C:=#[_]) Z3 rfl fun b10=>cu<|cq 0 (vs:=[_]) (C':=[_]) (L':=[_,_,_,_,_,_,_,_,_]) N3 rfl rfl rfl rfl rfl rfl rfl rfl<|aq<|au (ag rfl<|aB rfl<|eW (ps:=[(_,_)]) (vs:=[(_,_)]) (Z:=[_]) (C:=[_]) fk Z3 N3 ⟨(.r rfl),trivial⟩ rfl rfl rfl rfl ⟨_,[_],[_],rfl,rfl,rfl,rfl,rfl⟩ fun b12=>aB rfl<|cJ (C:=#[_]) Qt rfl fun b13=>cu<|cq 0 (vs:=[_]) (C':=[_]) (L':=[_,_,_,_,_,_,_,_,_,_,_]) qL rfl rfl rfl rfl rfl rfl rfl rfl<|aq ?_)))
   refine av<|iv (fun w hw=>St.yu (v:=nC p) (z:=1) 1 rfl rfl hw) ?_
   show VC _ _ _ _ _ _ [_,own 3 1 (some ⟨b12,0,none⟩) 1 ([p].map nC),_,_,_,_,_,_,_,_,_] _ _
   refine aM (cL 7 iL rfl rfl ⟨_,rfl⟩ rfl<|ag rfl<|cL 2 O3 rfl rfl ⟨_,rfl⟩ rfl<|ah (cy fk N3 (fun _ hw=>(bL hw 3 rfl).some (by rw[ak,oe])) (.r rfl) (.r rfl) rfl (by omega)) rfl<|cu<|iV 3 (fun R=>[_,_,_,R,_,_,_,_,_,_,_]) (((rs.length:Nat):Int)) (vs:=[_]) N3 (.r rfl) (.r rfl) rfl (by rw[oe];omega) rfl rfl rfl rfl rfl (fun _=>rfl)<|aN ?_)
   rw[hrl,Iq (by omega)]
   refine aj<|av<|au (ax rfl<|aq<|aD<|gw [0,1,3,6,2,4,5,7,8,9,10] rfl ?_)
   refine VC.Dh (α:=Nat×(List Nat)×(Option Addr)×Nat×(List Nat)) 4 (fun gx=>[(11,.int .i64 (gx.1:Nat))]) [(2,_),(3,_),(6,_),(7,_),(9,_),(10,_),(21,_),(22,_)] (fun gx=>[gq b13 (.cells #[.slice gx.2.2.1 gx.2.1.length gx.2.2.2.1] 55),own 3 1 gx.2.2.1 gx.2.2.2.1 (gx.2.1.map nC),own 3 1 x.1 x.2 ((zr (gW g) (gH g) S p gx.2.1).map iC),Db gx.2.2.2.2]) (fun gx=>gx.2.2.2.2) (fun gx=>WL (gW g) (gH g) S p gx.2.1 gx.1) (fun gx=>gW g*gH g-gx.1) (0,[p],(some ⟨b12,0,none⟩),1,Ds) rfl (by exact WL.one (by omega) h35b.2) (.c4 rfl rfl rfl rfl (.c4 rfl rfl rfl rfl (.cons rfl .nil))) (fun _ h=>h) ?_
   rintro ⟨i,l,lp,lc,Ds2⟩ hwl
   show VC _ _ _ _ _ ([(11,.int .i64 (i:Nat))]++_) ([gq b13 (.cells #[.slice lp l.length lc] 55),own 3 1 lp lc (l.map nC),own 3 1 x.1 x.2 ((zr (gW g) (gH g) S p l).map iC),Db Ds2]++_) _ _
   dsimp only at hwl
   have hwll:=hwl.len
   refine av<|au (ag rfl<|cL 0 iL rfl rfl ⟨_,rfl⟩ rfl<|ah (bE fk (.r rfl) rfl) rfl<|dK rfl<|aq<|ay rfl (fun h47=>?_) (fun h47=>?_))
   ·
    obtain⟨q,hqi⟩:∃q,l[i]? =some q:=⟨_,aw (by omega)⟩
    have hqm:=hwl.mem q (al hqi)
    refine aE (aj<|av<|aD<|av<|eC [[0,1,2,3,4,5,6,7,8,9,10],[0,1,2,3,4,5,6,7,8,9,10]] [some 0,some 0,some 0,some 0,some 0,none] mixed (by kernel_rfl) rfl (aG (fun _ hJ=>aX (vs:=[_,_,_,_,_]) qw (.r rfl) (fun _ hw=>cN (hJ _ hw) 10 rfl ⟨_,rfl⟩) rfl) rfl<|aG (fun _ hJ=>aC iL (.r rfl) (fun _ hw=>cN (hJ _ hw) 0 rfl ⟨_,rfl⟩)) rfl<|cT rfl<|aG (fun _ hJ=>cy fk N3 (fun _ hw=>(bL (hJ _ hw) 1 rfl).some (by rw[ak])) (.r rfl) (.r rfl) rfl (by omega)) rfl<|aG (fun _ hJ=>aC O3 (.r rfl) (fun w hw=>aA (off:=0) (cO (hJ _ hw) 1 rfl hqi) ⟨_,rfl⟩)) rfl<|dC<|fj) (az<|az<|az<|az<|az<|HX.h rfl<|cd (xs:=[_,_]) (vs:=[_,_]) C55 ⟨(.r rfl),(.r rfl),trivial⟩ (fun w hw=>zm g q w) fun ya _=>⟨kJ (L1:=[_,_,_,_,_,_,_,_,_,_,_]) [2,3,4,5,6,7,8,9,10,11,12] rfl rfl rfl,fB ?_⟩))
    refine aj<|aD<|VC.ue (α:=(List Nat)×(Option Addr)×Nat) [_,_,_,_,_,_,_,_,_] (fun gx=>[gq b13 (.cells #[.slice gx.2.1 gx.1.length gx.2.2] 55),own 3 1 gx.2.1 gx.2.2 (gx.1.map nC),own 3 1 x.1 x.2 ((zr (gW g) (gH g) S p gx.1).map iC)]) (fun n_ gx=>WN (gW g) (gH g) S p l q n_ gx.1) (fun _ _ _=>False) (l,lp,lc) (fun vs=>[(3,.pointer (some ⟨b3,0,none⟩)),(7,.pointer (some ⟨b6,0,none⟩)),(9,.pointer (some ⟨b10,0,none⟩)),(10,.pointer (some ⟨b13,0,none⟩)),(12,vs.getD 0 (.int .i64 0))]) rfl C87 (ur g q ya.1 ya.2 hg hqm.1) (dq [2,3,4,0,1,6,7,8,9,10,11,12,5] rfl rfl) (WN.zero hwl) (fun vs hv=>by obtain⟨n,_,rfl⟩:=bN.1 hv;rfl) (by decide) (fun n x w _ h=>⟨dQ (h 3 _ rfl),dQ (h 4 _ rfl)⟩) ?_ ?_ ?_ (fun _ _ _ _ _ h=>h.elim)
    ·
     rintro n_ ⟨l2,lp2,lc2⟩ vs__ l_ T w1 hI hxs hst
     obtain⟨r,hr,rfl⟩:∃r,(nb (gW g) (gH g) q)[n_]? =some r∧nC r=vs__:=by rw[aI]at hxs;cases hz:(nb (gW g) (gH g) q)[n_]? with|none=>(rw[hz]at hxs;cases hxs)|some r=>(rw[hz]at hxs;exact⟨r,rfl,eI hxs⟩)
     have hwn:WN (gW g) (gH g) S p l q n_ l2:=hI
     have hrl:=oz hqm.1 (al hr)
     show VC _ _ _ _ _ _ ([gq b13 (.cells #[.slice lp2 l2.length lc2] 55),own 3 1 lp2 lc2 (l2.map nC),own 3 1 x.1 x.2 ((zr (gW g) (gH g) S p l2).map iC),_,_,_,_,_,_,_,_,_]++T) _ _
     refine aM (ax rfl<|aN ?_)
     exact fun a w ha hw=>⟨rfl,ha.sub (.c4 rfl rfl rfl rfl (.cons rfl .nil)),hw⟩
    ·
     rintro n_ ⟨l2,lp2,lc2⟩ vs__ l_ T w1 hI hxs hst
     obtain⟨r,hr,rfl⟩:∃r,(nb (gW g) (gH g) q)[n_]? =some r∧nC r=vs__:=by rw[aI]at hxs;cases hz:(nb (gW g) (gH g) q)[n_]? with|none=>(rw[hz]at hxs;cases hxs)|some r=>(rw[hz]at hxs;exact⟨r,rfl,eI hxs⟩)
     have hwn:WN (gW g) (gH g) S p l q n_ l2:=hI
     have hrl:=oz hqm.1 (al hr)
     show VC _ _ _ _ _ _ ([gq b13 (.cells #[.slice lp2 l2.length lc2] 55),own 3 1 lp2 lc2 (l2.map nC),own 3 1 x.1 x.2 ((zr (gW g) (gH g) S p l2).map iC),_,_,_,_,_,_,_,_,_]++T) _ _
     refine aD<|au (cL 8 iL rfl rfl ⟨_,rfl⟩ rfl<|ag rfl<|ah (cy fk N3 (fun _ hw=>(bL hw 2 rfl).some (by rw[ak,oe])) (.r rfl) (.r rfl) rfl (by omega)) rfl<|ah (aC O3 (.r rfl) (fun w hw=>aA (off:=0) (cO hw 2 rfl (uY (by omega))) ⟨_,rfl⟩)) rfl<|dK rfl<|ag rfl<|bh rfl (fun hg=>aC Zg (.r rfl) (aF 10 rfl ⟨_,rfl⟩))<|bh rfl (fun hg=>aS (.r rfl))<|bh rfl (fun hg=>LO.IW (first:=sv) (cap:=[]) (xs:=[_]) (vs:=[_]) (.g hg rfl) hfq ⟨.g hg rfl,trivial⟩ (fun w2 hw2=>hq w2 r (hrl) (hst.back hw2)))<|ah (e7 (.r rfl) rfl rfl (.r rfl)) rfl<|aq<|ay rfl (fun h66=>?_) (fun h66=>?_))
     ·
      have h66b:BV (gW g) (gH g) S p l2 r<0∧S r=true:=by simpa using h66
      refine au (cL 8 iL rfl rfl ⟨_,rfl⟩ rfl<|ag rfl<|cL 5 O3 rfl rfl ⟨_,rfl⟩ rfl<|ah (cy fk N3 (fun _ hw=>(bL hw 2 rfl).some (by rw[ak,oe])) (.r rfl) (.r rfl) rfl (by omega)) rfl<|cu<|iV 2 (fun R=>[_,_,R,_,_,_,_,_,_,_,_,_]++T) (((dz (gW g) (gH g) S p).length:Int)) (vs:=[_]) N3 (.r rfl) (.r rfl) rfl (by rw[oe];omega) rfl rfl rfl rfl rfl (fun _=>rfl)<|aN ?_)
      rw[Iq hrl]
      refine aj<|aM (cL 0 iL rfl rfl ⟨_,rfl⟩ rfl<|ag rfl<|aB rfl<|eW (ps:=[(_,_)]) (vs:=[(_,_)]) (Z:=[_]) (C:=[_]) fk Z3 N3 ⟨(.r rfl),trivial⟩ rfl rfl rfl rfl ⟨_,[_],[_],rfl,rfl,rfl,rfl,rfl⟩ fun b46=>aB rfl<|eP (r) 2 0 (fun R=>[_,_,R,_,_,_,_,_,_,_,_,_,_]++T) fk fk I3 (.r rfl) (.r rfl) rfl rfl rfl rfl rfl rfl rfl (fun _=>rfl) rfl (by have:=hwn.len;omega) fun p3 c3=>cu<|cq 1 (vs:=[_]) (C':=[_]) qL rfl rfl rfl rfl rfl rfl rfl rfl<|aN<|bB ?_)
      exact fun a w ha hw=>⟨(l2++[r],p3,c3),hwn.take hwl hqi hr ((Na hwn hwl (by omega) hqi hr hnew h66b.2).1 h66b.1) h66b.2,rR (L:=[_,_,_,_,_,_,_,_,_,_,_,_,_]) (L1:=[_,_,_,_,_,_,_,_,_,_,_,_]) (L2:=[]) (X:=T) [1,2,3,4,5,6,7,8,9,10,11,12] rfl rfl rfl w hw⟩
     ·
      have h66b:¬(BV (gW g) (gH g) S p l2 r<0∧S r=true):=by simpa using h66
      refine aE (bB ?_)
      exact fun a w ha hw=>⟨(l2,lp2,lc2),hwn.skip hr (fun hs=>Classical.byContradiction fun hx=>h66b ⟨(Na hwn hwl (by omega) hqi hr hnew hs).2 hx,hs⟩),rR (L:=[_,_,_,_,_,_,_,_,_,_,_,_]) (L1:=[_,_,_,_,_,_,_,_,_,_,_,_]) (L2:=[]) (X:=T) [0,1,2,3,4,5,6,7,8,9,10,11] rfl rfl rfl w hw⟩
    ·
     rintro D_ ⟨l2,lp2,lc2⟩ hI
     have hwl2:=WN.done (show WN (gW g) (gH g) S p l q _ l2 from hI) hwl hqi (by rw[ak];exact cg _)
     show VE _ _ _ _ [gq b13 (.cells #[.slice lp2 l2.length lc2] 55),own 3 1 lp2 lc2 (l2.map nC),own 3 1 x.1 x.2 ((zr (gW g) (gH g) S p l2).map iC),_,_,_,_,_,_,_,_,_,_] _ _
     refine bB (bB (aj<|aM (ag rfl<|da rfl rfl (by omega) (by omega) rfl<|ax rfl<|aN<|aZ fun a w ha hw=>⟨(i+1,l2,lp2,lc2,D_::Ds2),hwl2,(by dsimp only;omega),ha.sub (.c4 rfl rfl rfl rfl (.c4 rfl rfl rfl rfl (.cons rfl .nil))),hw.gY [0,1,2,12,5,6,7,8,9,10,11] rfl⟩)))
   ·
    have hil:i=l.length:=by have:=hwl.le;omega
    subst hil
    have hfull:=hwl.full (by omega) h35b.2
    have hsort:sz l=gU (gW g) (gH g) S p:=DW (ja (by omega)) hwl.Bg hfull
    have hlen:l.length=(gU (gW g) (gH g) S p).length:=by rw[←hsort,A1]
    refine bU (aH (aH (cB (aj<|au (cL 0 iL rfl rfl ⟨_,rfl⟩ rfl<|aB rfl<|HO.TE (first:=[]) (cap:=[]) (xs:=[_]) (vs:=[_]) 1 (fun R=>[_,R,_,_,_,_,_,_,_,_,_]) rfl (.r rfl) C68 ⟨(.r rfl),trivial⟩ (fun _=>rfl) (fun w hw=>I8 1 hw rfl (by omega)) fun _u _=>aN ?_)))))
    rw[hsort,hlen]
    refine aj<|aM (ag rfl<|cL 0 iL rfl rfl ⟨_,rfl⟩ rfl<|aB rfl<|eW (ps:=[(_,_)]) (vs:=[(_,_)]) (Z:=[_]) (C:=[_]) tQ Qt qL ⟨(.r rfl),trivial⟩ rfl rfl rfl rfl ⟨_,[_],[_],rfl,rfl,rfl,rfl,rfl⟩ fun b62=>aB rfl<|eP ((⟨lp,lc,gU (gW g) (gH g) S p⟩:cG Nat)) 6 0 (fun R=>[_,_,_,_,_,_,R,_,_,_,_,_]) tQ tQ I55 (.r rfl) (.r rfl) rfl rfl rfl rfl rfl rfl rfl (fun _=>rfl) rfl (by omega) fun p3 c3=>aB rfl<|aW (LO.as (.r rfl))<|aN<|bB (aj<|aM (da rfl rfl (by omega) (by omega) rfl<|ag rfl<|aN ?_)))
    rw[OR (by omega) h35b.2 hnew hfull]
    refine aZ fun a w ha hw=>⟨(p+1,rs++[⟨lp,lc,gU (gW g) (gH g) S p⟩],p3,c3,Ds2),⟨by dsimp only;omega,by dsimp only;rw[bG,hrs,kq h35b.2 hnew];rfl⟩,(by dsimp only;omega),ha.sub (.cons (congrArg (fun n=>some (il p3 n c3)) (by rw[aJ];try rfl)) (.c4 rfl rfl rfl rfl (.cons rfl .nil))),(by exact dq (L1:=[_,_,_,_,_,_,_,_]) [1,2,0,3,4,5,6,7] rfl rfl _ (St.wg (E:=3) (z:=1) (f:=nC) (x:=⟨lp,lc,gU (gW g) (gH g) S p⟩) (dq (L1:=[_,_,_,_,_,_,_,_,_]) [2,7,3,6,4,8,9,10,11] rfl rfl _ hw)))⟩
 ·
  refine bU (aH (aH (cB (aj<|av<|gj mixed (eT rfl<|bl (aC iL (.r rfl) (aF 4 rfl ⟨_,rfl⟩)) rfl<|bl (LO.as (.r rfl)) rfl<|bl (LO.as (.r rfl)) rfl<|LL.nil) (by kernel_rfl)<|aj<|be (VE.TN (vs:=[_,_]) (A:=[_,_,_,_,_,_,_]) rfl (dq [3,0,1,2,4,5,6,7] rfl rfl) ⟨rfl,rfl,trivial⟩ (fun w hw=>?_))))))
  have hpn:p=gW g*gH g:=by omega
  subst hpn
  rw[RA]at hw
  exact⟨⟨rs,pr,cr,x.1,x.2⟩,hrs,rfl,dq [1,2,0] rfl rfl _ hw⟩
structure Qy where
 xl:Int
 xh:Int
 yl:Int
 yh:Int
 sl:Int
 sh:Int
 deriving DecidableEq
def MX (W:Nat) (l:List Nat):Qy:=⟨(l.headD 0%W:Nat),(l.headD 0%W:Nat),(l.headD 0 / W:Nat),(l.headD 0 / W:Nat),0,0⟩
def nu (W:Nat) (vs:List Span) (lv:Int) (s:Qy) (p:Nat):Qy:=
 ⟨min s.xl (p%W:Nat),max s.xh (p%W:Nat),min s.yl (p / W:Nat),max s.yh (p / W:Nat),if pF vs lv p=true then s.sl+(vs.getD p ⟨0,0⟩).lo else s.sl,s.sh+(vs.getD p ⟨0,0⟩).hi⟩
def zy (W:Nat) (vs:List Span) (lv:Int) (l:List Nat):Qy:=l.foldl (nu W vs lv) (MX W l)
def nw (W:Nat) (vs:List Span) (lv:Int) (l:List Nat) (k:Nat):Qy:=(l.take k).foldl (nu W vs lv) (MX W l)
theorem zL {W:Nat} {vs:List Span} {lv:Int} {l:List Nat}:nw W vs lv l 0=MX W l:=rfl
theorem A8 {W:Nat} {vs:List Span} {lv:Int} {l:List Nat}:nw W vs lv l l.length=zy W vs lv l:=by unfold nw zy;rw[eG]
theorem pI {W:Nat} {vs:List Span} {lv:Int} {l:List Nat} {k p:Nat} (h:l[k]? =some p):nw W vs lv l (k+1)=nu W vs lv (nw W vs lv l k) p:=by
 unfold nw
 rw[kU,h]
 show List.foldl _ _ (l.take k++[p])=_
 rw[List.foldl_append]
 rfl
theorem zI {W:Nat} {vs:List Span} {lv:Int} {l:List Nat} (hok:∀j,j<vs.length→iN 1073741824 (vs.getD j ⟨0,0⟩)) (hl:∀p,p∈l→p<vs.length):∀k,k≤l.length→(0≤(nw W vs lv l k).sl∧(nw W vs lv l k).sl≤1073741824*k)∧(0≤(nw W vs lv l k).sh∧(nw W vs lv l k).sh≤1073741824*k)
 |0,_=>by rw[zL];exact⟨⟨Int.le_refl _,by simp [MX]⟩,⟨Int.le_refl _,by simp [MX]⟩⟩
 |k+1,hk=>by
  have ih:=zI hok hl (W:=W) (lv:=lv) k (by omega)
  have hp:l[k]? =some l[k]:=aw (by omega)
  rw[pI hp]
  have hs:=hok l[k] (hl _ (gS _))
  unfold iN at hs
  unfold nu
  dsimp only
  constructor
  ·split<;>omega
  ·omega
structure qh where
 px:List Nat
 ks:List (List Nat)
 s:Qy
def qg (W H:Nat) (vs:List Span) (lv:Int) (l:List Nat):qh:=⟨l,(dM W H (pF vs lv)).filter (fun k=>decide (k.headD 0∈l)),zy W vs lv l⟩
def kL (W H:Nat) (vs:List Span) (lv:Int):List qh:=(dM W H (et vs lv)).map (qg W H vs lv)
structure di where
 px:cG Nat
 kp:Option Addr
 kc:Nat
 kr:List (cG Nat)
 s:Qy
def di.cells (a:di):List Value:=[.slice a.px.p a.px.l.length a.px.c,.slice a.kp a.kr.length a.kc,.int .i64 a.s.xl,.int .i64 a.s.xh,.int .i64 a.s.yl,.int .i64 a.s.yh,.int .i64 a.s.sl,.int .i64 a.s.sh]
def di.m (a:di):qh:=⟨a.px.l,a.kr.map dw,a.s⟩
def di.kR (a:di):dg:=own 55 1 a.kp a.kc (a.kr.map lI)
def Zx:di:=⟨⟨none,0,[]⟩,none,0,[],⟨0,0,0,0,0,0⟩⟩
def lJ (W:Nat) (vs:List Span) (lv:Int) (r:cG Nat):di:=⟨r,none,0,[],zy W vs lv r.l⟩
def tV (W:Nat) (vs:List Span) (lv:Int) (rs:List (cG Nat)) (i:Nat):List di:=(rs.take i).map (lJ W vs lv)++bH (rs.length-i) Zx
theorem Fv {W:Nat} {vs:List Span} {lv:Int} {rs:List (cG Nat)}:bH rs.length Zx=tV W vs lv rs 0:=by unfold tV;simp
theorem wj {W:Nat} {vs:List Span} {lv:Int} {rs:List (cG Nat)} {i:Nat} (h:i≤rs.length):(tV W vs lv rs i).length=rs.length:=by unfold tV;simp;omega
theorem KB {W:Nat} {vs:List Span} {lv:Int} {rs:List (cG Nat)} {i:Nat} {r:cG Nat} (h:rs[i]? =some r):(tV W vs lv rs i).set i (lJ W vs lv r)=tV W vs lv rs (i+1):=by
 have hi:=(an.1 h).1
 unfold tV
 have hl:((rs.take i).map (lJ W vs lv)).length=i:=by simp;omega
 rw[s9 _ _ (by omega),hl,gd,show rs.length-i=(rs.length-(i+1))+1 by omega,lB,List.set_cons_zero,kU,h,bG,dk]
 rfl
theorem K6 {W:Nat} {vs:List Span} {lv:Int} {rs:List (cG Nat)}:tV W vs lv rs rs.length=rs.map (lJ W vs lv):=by unfold tV;simp
structure yJ (W:Nat) (vs:List Span) (lv:Int) (rs ks:List (cG Nat)) (j:Nat) (l:List di):Prop where
 px:l.map di.px=rs
 s:∀a,a∈l→a.s=zy W vs lv a.px.l
 kr:∀a,a∈l→a.kr=(ks.take j).filter fun k=>decide (k.l.headD 0∈a.px.l)
theorem yJ.zero {W:Nat} {vs:List Span} {lv:Int} {rs ks:List (cG Nat)}:yJ W vs lv rs ks 0 (rs.map (lJ W vs lv)):=by
 refine⟨by rw[dV];exact List.map_id _,fun a ha=>?_,fun a ha=>?_⟩
 ·obtain⟨r,_,rfl⟩:=bN.1 ha;rfl
 ·obtain⟨r,_,rfl⟩:=bN.1 ha;rfl
theorem yJ.len {W:Nat} {vs:List Span} {lv:Int} {rs ks:List (cG Nat)} {j:Nat} {l:List di} (h:yJ W vs lv rs ks j l):l.length=rs.length:=by rw[←h.px,ak]
theorem yJ.add {W:Nat} {vs:List Span} {lv:Int} {rs ks:List (cG Nat)} {j ix:Nat} {l:List di} {k:cG Nat} {a:di} {p:Option Addr} {c:Nat} (h:yJ W vs lv rs ks j l) (hk:ks[j]? =some k) (ha:l[ix]? =some a) (hin:k.l.headD 0∈a.px.l)
  (hap:(rs.map dw).Pairwise fun a b=>∀x,x∈a→x∉b):yJ W vs lv rs ks (j+1) (l.set ix { a with kp:=p,kc:=c,kr:=a.kr++[k] }):=by
 have hl:=(an.1 ha).1
 have htk:ks.take (j+1)=ks.take j++[k]:=by rw[kU,hk];rfl
 have hset:∀b,b∈l.set ix { a with kp:=p,kc:=c,kr:=a.kr++[k] }→b={ a with kp:=p,kc:=c,kr:=a.kr++[k] }∨∃i,i≠ix∧l[i]? =some b:=fun b hb=>by
  obtain⟨i,hi⟩:=eA.1 hb
  rw[eQ]at hi
  by_cases e:ix=i
  ·rw[if_pos e,if_pos (by omega)]at hi;exact .inl (eI hi).symm
  ·rw[if_neg e]at hi;exact .inr ⟨i,fun z=>e z.symm,hi⟩
 have pxs:∀{i:Nat} {b:di},l[i]? =some b→(rs.map dw)[i]? =some b.px.l:=fun {i b} hb=>by rw[←h.px,dV,aI,hb];rfl
 refine⟨?_,fun b hb=>?_,fun b hb=>?_⟩
 ·rw[List.map_set]
  have e:di.px { a with kp:=p,kc:=c,kr:=a.kr++[k] }=a.px:=rfl
  rw[e, ←h.px]
  apply cM
  intro n
  rw[eQ]
  split
  ·rename_i q;subst q
   rw[if_pos (by rw[ak];exact hl),aI,ha];rfl
  ·rfl
 ·rcases hset b hb with rfl|⟨i,_,hi⟩
  ·exact h.s a (al ha)
  ·exact h.s b (al hi)
 ·rw[htk,List.filter_append]
  rcases hset b hb with rfl|⟨i,hne,hi⟩
  ·show a.kr++[k]=_
   rw[dj,if_pos (by simpa using hin),jV,h.kr a (al ha)]
  ·have hno:k.l.headD 0∉b.px.l:=by
    have h1:=pxs ha
    have h2:=pxs hi
    obtain⟨g1,e1⟩:=an.1 h1
    obtain⟨g2,e2⟩:=an.1 h2
    have h3:=cj.1 hap
    intro hx
    rcases Nat.lt_or_gt_of_ne hne with z|z
    ·exact h3 i ix g2 g1 z _ (by rw[e2];exact hx) (by rw[e1];exact hin)
    ·exact h3 ix i g1 g2 z _ (by rw[e1];exact hin) (by rw[e2];exact hx)
   rw[dj,if_neg (by simpa using hno),jV,ew]
   exact h.kr b (al hi)
theorem yJ.done {W H:Nat} {vs:List Span} {lv:Int} {rs ks:List (cG Nat)} {l:List di} (h:yJ W vs lv rs ks ks.length l) (hr:rs.map dw=dM W H (et vs lv)) (hk:ks.map dw=dM W H (pF vs lv)):l.map di.m=kL W H vs lv:=by
 unfold kL
 rw[←hr, ←h.px,dV,dV]
 refine eO fun a ha=>?_
 show di.m a=qg W H vs lv a.px.l
 unfold di.m qg
 have h1:=h.kr a ha
 rw[eG]at h1
 have h2:a.kr.map dw=(dM W H (pF vs lv)).filter (fun k=>decide (k.headD 0∈a.px.l)):=by
  rw[h1, ←hk,List.filter_map];rfl
 rw[h2,h.s a ha]
theorem Sd {W H:Nat} {vs:List Span} {lv:Int} {rs ks:List (cG Nat)} {j:Nat} {k:cG Nat} (hok:∀j,j<W*H→iN 1073741824 (vs.getD j ⟨0,0⟩)) (hr:rs.map dw=dM W H (et vs lv)) (hk:ks.map dw=dM W H (pF vs lv)) (h:ks[j]? =some k):
  0<k.l.length∧k.l.getD 0 0<W*H∧k.l.getD 0 0=k.l.headD 0∧∃ix:Nat,(mH W H (et vs lv))[k.l.getD 0 0]? =some (ix:Int)∧ix<rs.length∧∀r,rs[ix]? =some r→k.l.headD 0∈r.l:=by
 have h1:k.l∈dM W H (pF vs lv):=by rw[←hk];exact bw (al h)
 obtain⟨p,hp,hs,e⟩:=k9 (p:=W*H) h1
 have hne:k.l≠[]:=by rw[e];exact uL hp
 have hh:k.l.getD 0 0=k.l.headD 0:=by cases k.l with|nil=>rfl|cons a l=>rfl
 have hm:=wb hne
 obtain⟨h2,h3,_,_⟩:=oA (cg _) h1 hm
 have hmay:et vs lv (k.l.headD 0)=true:=by
  have:=hok _ h3
  unfold iN at this
  unfold pF at h2
  unfold et
  simp only[decide_eq_true_eq]at*
  omega
 obtain⟨l,h4,h5⟩:=Bx (cg _) h3 hmay
 obtain⟨ix,hix⟩:=eA.1 h4
 have hix2:(dM W H (et vs lv))[ix]? =some l:=hix
 have hlt:ix<rs.length:=by
  have:=(an.1 hix2).1
  rw[←hr,ak]at this;exact this
 refine⟨by cases hq:k.l with|nil=>exact absurd hq hne|cons a l=>simp,by rw[hh];exact h3,hh,ix,?_,hlt,fun r hrr=>?_⟩
 ·rw[hh]
  unfold mH
  rw[aI,fE h3]
  have:=Fi (sO (cg _)) hix h5
  exact congrArg some this
 ·have:(rs.map dw)[ix]? =some r.l:=by rw[aI,hrr];rfl
  rw[hr,hix2]at this
  cases this
  exact h5
theorem V5 {l:List di} {ix c:Nat} {p:Option Addr} {a:di} {k:cG Nat} (ha:l[ix]? =some a):(l.map di.cells).set ix ((di.cells a).take 1++[.slice p (a.kr++[k]).length c]++(di.cells a).drop (1+[il p (a.kr++[k]).length c].length))=(l.set ix { a with kp:=p,kc:=c,kr:=a.kr++[k] }).map di.cells:=by
 rw[List.map_set]
 rfl
theorem Yr:fh af 52:=⟨_,Tryz.func52,by decide,rfl⟩
theorem C51:fh af 51:=⟨_,Tryz.func51,by decide,rfl⟩
theorem Z23:dr af 23 (.agg #[.int .i64 0,.int .i64 0,.int .i64 0,.int .i64 0,.int .i64 0]):=by unfold dr;kernel_rfl
theorem N23:(af.info? 23).map (·.size)=some 5:=by kernel_rfl
theorem C50:fh af 50:=⟨_,Tryz.func50,by decide,rfl⟩
theorem Ec:ee af 51 60:=Tryz.underlying51
theorem I60:j6 af 60 8 96 (.agg #[.slice none 0 0,.slice none 0 0,.int .i64 0,.int .i64 0,.int .i64 0,.int .i64 0,.int .i64 0,.int .i64 0]):=⟨by kernel_rfl,by kernel_rfl,by unfold dr;kernel_rfl,rfl,by decide⟩
theorem B60:fU af 60 [(0,1),(1,1),(2,2),(4,2),(6,2)] [.slice none 0 0,.slice none 0 0,.int .i64 0,.int .i64 0,.int .i64 0,.int .i64 0,.int .i64 0,.int .i64 0]:=fU.mk fun _=>by kernel_rfl
theorem Z60:dr af 60 (.agg #[.slice none 0 0,.slice none 0 0,.int .i64 0,.int .i64 0,.int .i64 0,.int .i64 0,.int .i64 0,.int .i64 0]):=by unfold dr;kernel_rfl
theorem O7:(af.info? 60).map (·.size)=some 8:=by kernel_rfl
theorem OM:cP af 60 2 2:=⟨_,_,kV,rfl,rfl,1,by kernel_rfl⟩
theorem C85:fh af 85:=⟨_,Tryz.func85,by decide,rfl⟩
theorem TT:cP af 60 3 4:=⟨_,_,kV,rfl,rfl,1,by kernel_rfl⟩
theorem Em:cP af 60 4 6:=⟨_,_,kV,rfl,rfl,1,by kernel_rfl⟩
theorem A60:lh af 60 8:=⟨⟨_,kV,rfl⟩,by kernel_rfl⟩
theorem Ik:cP af 60 1 1:=⟨_,_,kV,rfl,rfl,0,by kernel_rfl⟩
theorem XK:jJ af 56:=⟨⟨_,wE,rfl⟩,by kernel_rfl⟩
theorem N56:(af.info? 56).map (·.size)=some 1:=by kernel_rfl
structure oV where
 l:List di
 p:Option Addr
 c:Nat
 rs:List (cG Nat)
 pr:Option Addr
 cr:Nat
 ks:List (cG Nat)
 pk:Option Addr
 ck:Nat
 po:Option Addr
 co:Nat
 o2:List Int
 p2:Option Addr
 c2:Nat
def oV.R (y:oV) (of:List Int):List dg:=[own 60 8 y.p y.c (y.l.map di.cells),bV (y.l.map di.kR),own 55 1 y.pk y.ck (y.ks.map lI),kZ 3 1 nC y.ks,own 3 1 y.p2 y.c2 (y.o2.map iC),own 55 1 y.pr y.cr (y.rs.map lI),kZ 3 1 nC y.rs,own 3 1 y.po y.co (of.map iC)]
structure AR (W H:Nat) (vs:List Span) (lv:Int) (y:oV):Prop where
 m:y.l.map di.m=kL W H vs lv
 px:y.l.map di.px=y.rs
 kr:∀a,a∈y.l→∀k,k∈a.kr→k∈y.ks
theorem RR.row {α:Type} {z:Nat} {f:α→List Value} {w:World} {p:Option Addr} {rs:List (cG α)} {i:Nat} {r:cG α} (h:RR z f w p rs) (hr:rs[i]? =some r):RO z f w r.p r.l:=(h.2 r (al hr)).2
theorem RR.cell {α:Type} {z:Nat} {f:α→List Value} {w:World} {p:Option Addr} {rs:List (cG α)} {i:Nat} {r:cG α} (h:RR z f w p rs) (hr:rs[i]? =some r):fG w ⟨pb p,po p+i*1,none⟩ (lI r):=h.1.cells i _ (by rw[aI,hr];rfl)
theorem RO.jX {α:Type} {z:Nat} {f:α→List Value} {w:World} {p:Option Addr} {l:List α} {i:Nat} {r:α} (h:RO z f w p l) (hr:l[i]? =some r):fG w ⟨pb p,po p+i*z,none⟩ (f r):=h.cells i _ (by rw[aI,hr];rfl)
theorem mR {W H:Nat} {S:Nat→Bool}:(mH W H S).length=W*H:=by unfold mH;simp
theorem oZ {α β:Type} {f:α→β} {l:List α} {i:Nat} {a:α} (h:l[i]? =some a):(l.map f)[i]? =some (f a):=by rw[aI,h];rfl
theorem Nx {β:Bs} {L:List dg} {w:World} {W:Nat} {vs:List Span} {lv:Int} {rs:List (cG Nat)} (h:St β L w):St β (bV ((rs.map (lJ W vs lv)).map di.kR)::L) w:=by
 have key:∀r,r∈(rs.map (lJ W vs lv)).map di.kR→(∀k,¬r.fp k)∧r.inv w:=fun r hr=>by
  obtain⟨a,ha,rfl⟩:=bN.1 hr
  obtain⟨x,_,rfl⟩:=bN.1 ha
  exact⟨fun k hk=>hk.1 rfl,⟨by simp [lJ],fun r hr=>by simp [lJ]at hr,fun _=>⟨by simp [lJ],rfl⟩,fun a ha=>by cases ha⟩⟩
 refine St.bV (Dq h.os h.tape h.output h.size h.fr (fun r hr=>?_) (fun r hr k hk=>?_) ?_)
 ·rcases bQ.1 hr with q|q
  ·exact(key r q).2
  ·exact h.mem q
 ·rcases bQ.1 hr with q|q
  ·exact absurd hk ((key r q).1 k)
  ·exact h.FH q k hk
 ·refine List.pairwise_append.2 ⟨?_,h.pw,fun r hr s hs k hk=>absurd hk ((key r hr).1 k)⟩
  have:∀r,r∈(rs.map (lJ W vs lv)).map di.kR→∀k,¬r.fp k:=fun r hr=>(key r hr).1
  exact cj.2 fun i j hi hj _ k hk=>absurd hk (this _ (gS hi) k)
theorem nE {g:eo} (h:dH g) {p:Nat} (hp:p<gW g*gH g):(0:Int)≤((p / gW g:Nat):Int)∧((p / gW g:Nat):Int)≤64:=by
  have h1:=uu hp
  have h2:=(An h).2.2.2.2.2
  exact⟨Int.natCast_nonneg _,by
      have:p / gW g≤64:=by omega
      exact_mod_cast this⟩
theorem zA {W H:Nat} {S:Nat→Bool} {rs:List (cG Nat)} {i:Nat} {r:cG Nat} (h:rs.map dw=dM W H S) (hr:rs[i]? =some r):∃p0,r.l[0]? =some p0∧p0<W*H∧(0<r.l.length∧r.l.length≤W*H∧r.l.headD 0=p0)∧∀p,p∈r.l→p<W*H:=by
 have h1:r.l∈dM W H S:=by rw[←h];exact bw (al hr)
 obtain⟨p,hp,hs,e⟩:=k9 (p:=W*H) h1
 have hne:r.l≠[]:=by rw[e];exact uL hp
 have hall:∀q,q∈r.l→q<W*H:=fun q hq=>by rw[e]at hq;exact pH hp hq
 have hlen:r.l.length≤W*H:=by
  have hn:r.l.Nodup:=by rw[e];exact(ja hp).imp fun h=>Nat.ne_of_lt h
  have:=length_le_of_subset (m:=bF (W*H)) hn (fun x hx=>List.mem_range.2 (hall x hx))
  simpa using this
 cases hq:r.l with
 |nil=>exact absurd hq hne
 |cons a l=>
  rw[hq]at hall hlen
  exact⟨a,rfl,hall a (by simp),⟨by simp,hlen,rfl⟩,hall⟩
theorem B5 (g:eo) (vs:List Span) (pv:Option Addr) (cv:Nat) (lv:Int) (w:World) (hg:dH g) (hlen:(vs.length:Int)=g.wide*g.high) (hok:∀j,j<vs.length→iN 1073741824 (vs.getD j ⟨0,0⟩)) (hv:fL w pv vs):
 Calls af 48 #[rm g pv vs.length cv lv] w fun e w'=>∃y:oV,AR (gW g) (gH g) vs lv y∧e= .returned (.tuple #[.slice y.p y.l.length y.c,.slice y.po (gW g*gH g) y.co])∧St (bs w) (y.R (mH (gW g) (gH g) (et vs lv))) w':=by
 have har:=iM hg
 obtain⟨hW,hH,hW1,hW2,hH1,hH2⟩:=An hg
 have hvl:vs.length=gW g*gH g:=AS hg hlen
 refine enter (vs:=[_]) (env:=[(0,_)]) Tryz.func48 rfl rfl rfl rfl ?_
 refine au (aB rfl<|c8 (C:=#[_,_,_,_,_,_,_]) rfl rfl fun b1=>ax rfl<|ax rfl<|aq<|au (bO (r:=0) y8 rfl<|bO (r:=0) lO rfl<|ah (aX (vs:=[_,_,_,_,_]) qw (.r rfl) (aF 0 rfl ⟨_,rfl⟩) rfl) rfl<|aB rfl<|cJ (C:=#[_,_,_,_,_]) Z23 rfl fun b2=>cu<|cq 0 (vs:=[_,_,_,_,_]) (C':=[_,_,_,_,_]) (L':=[_,_]) N23 rfl rfl rfl rfl rfl rfl rfl rfl<|aq<|av ?_))
 refine aM (ah (aX (vs:=[_,_,_,_,_]) qw (.r rfl) (aF 0 rfl ⟨_,rfl⟩) rfl) rfl<|ah (aX (vs:=[_,_,_,_,_,_,_]) wv (.r rfl) (aF 1 rfl ⟨_,rfl⟩) rfl) rfl<|ah (LO.mf2 (first:=[_]) (cap:=[]) ⟨(.r rfl),trivial⟩ trivial) rfl<|aB rfl<|cd (xs:=[_,_]) (vs:=[_,_]) C50 ⟨(.r rfl),(.r rfl),trivial⟩ (fun w hw=>yj g 52 [rm g pv vs.length cv lv] (et vs lv) w hg Yr (fun w2 p hp hw2=>DS g vs pv cv lv p w2 ((hv.b0 w hw).b0 w2 hw2) (by omega))) fun y1 hy1=>aB rfl<|aW (aS (.r rfl))<|aB rfl<|aW (cU (.r rfl) rfl)<|aB rfl<|aW (cU (.r rfl) rfl)<|aB rfl<|aW (LO.as (.r rfl))<|aB rfl<|aW (LO.as (.r rfl))<|aN ?_)
 obtain⟨hyl,hyc⟩:y1.rs.length≤gW g*gH g∧True:=⟨by have:=congrArg dv hy1;rw[ak]at this;rw[this];exact kh,trivial⟩
 refine aj<|av<|VC.nF fun w1 hst1=>?_
 have hRR:RR 1 nC w1 y1.p y1.rs:=RR.gM hst1 0 1 rfl rfl
 have hOF:RO 1 iC w1 y1.po (mH (gW g) (gH g) (et vs lv)):=fK hst1 2 rfl
 have hsh:fG w1 ⟨b1,0,none⟩ [.int .i64 g.x,.int .i64 g.y,.int .i64 g.size,.int .i64 g.wide,.int .i64 g.high,.slice pv vs.length cv,.int .i64 lv]:=dQ (hst1.inv 4 _ rfl)
 have hgr:fG w1 ⟨b2,0,none⟩ (Dc g):=dQ (hst1.inv 3 _ rfl)
 have hv1:=hv.b0 w1 hst1
 have hofs:jR y1.po (gW g*gH g):=by have z:=RO.sm hOF;rw[mR]at z;exact z
 refine aM (ag rfl<|ah (bE tQ (.r rfl) rfl) rfl<|aB rfl<|HO.Au (f:=di.cells) (z0:=Zx) (n:=y1.rs.length) rfl Ec I60 (.r rfl) (.r rfl) rfl (by decide) (by omega) (by omega) fun b7=>aB rfl<|aW (LO.as (.r rfl))<|aN ?_)
 rw[Fv (W:=gW g) (vs:=vs) (lv:=lv)]
 refine aj<|av<|au (ag rfl<|ah (bE tQ (.r rfl) rfl) rfl<|ag rfl<|aq<|aD<|bS (α:=Nat) 1 (fun gx=>[(35,.int .i64 (gx:Nat))]) [(1,_),(4,_),(6,_),(7,_),(33,_),(34,_)] (fun gx=>[own 60 8 (some ⟨b7,0,none⟩) y1.rs.length ((tV (gW g) vs lv y1.rs gx).map di.cells)]) (fun gx=>gx≤y1.rs.length) (fun gx=>y1.rs.length-gx) 0 (by exact aY _) (.c4 rfl rfl rfl rfl (.cons rfl (.cons rfl (.cons rfl .nil)))) (fun _ h=>h) ?_)
 rintro i hi
 refine au (dK rfl<|aq<|av<|ay rfl (fun h36=>?_) (fun h36=>?_))
 ·
  obtain⟨r,hr⟩:∃r,y1.rs[i]? =some r:=⟨_,aw (by omega)⟩
  have hpx:=RR.row hRR hr
  obtain⟨p0,hp0,hp0l,⟨hrl1,hrl2,rfl⟩,hrm⟩:=zA hy1 hr
  refine aE (aj<|av<|aD<|au (ag rfl<|ah (bM tQ qL hRR.1.sm (.r rfl) (.r rfl) rfl (by omega)) rfl<|ah (aC iL (.r rfl) (fun w hw=>aA (off:=0) ((fun w3 h3=>RR.cell (RR.b0 hRR w3 h3) hr) w hw) ⟨_,rfl⟩)) rfl<|ax rfl<|ax rfl<|aq<|av ?_))
  refine gj mixed (eT rfl<|bl (bM fk N3 hpx.sm (.r rfl) (.r rfl) (j:=0) rfl (by omega)) rfl<|bl (aC O3 (.r rfl) (fun w hw=>aA (off:=0) ((fun w3 h3=>RO.jX (nq hpx w3 h3) hp0) w hw) ⟨_,rfl⟩)) rfl<|bl (aP (r:=3) iQ (.r rfl) rfl) rfl<|bl (aC O3 (.r rfl) (bj (bI (off:=3) hgr ⟨_,rfl⟩))) rfl<|bl (eN (LO.rem (.r rfl) (.r rfl) (by omega)) (congrArg (cX .i64) (sK hg _))) rfl<|eT rfl<|bl (bM fk N3 hpx.sm (.r rfl) (.r rfl) (j:=0) rfl (by omega)) rfl<|bl (aC O3 (.r rfl) (fun w hw=>aA (off:=0) ((fun w3 h3=>RO.jX (nq hpx w3 h3) hp0) w hw) ⟨_,rfl⟩)) rfl<|bl (aP (r:=3) iQ (.r rfl) rfl) rfl<|bl (aC O3 (.r rfl) (bj (bI (off:=3) hgr ⟨_,rfl⟩))) rfl<|bl (eN (LO.quo (.r rfl) (.r rfl) (by omega) (wi (by rw[jB hg];have:=nE hg (p:=(r.l.headD 0)) (by omega);omega) (by rw[jB hg];have:=nE hg (p:=(r.l.headD 0)) (by omega);omega))) (congrArg (cX .i64) (jB hg (r.l.headD 0)))) rfl<|bl (LO.as (.r rfl)) rfl<|bl (LO.as (.r rfl)) rfl<|LL.nil) (by kernel_rfl)<|aj<|au (ag rfl<|ag rfl<|ag rfl<|ah (LO.bd (ps:=[(_,_),(_,_)]) (vs:=[(_,_),(_,_)]) (C:=[_,_]) LW ⟨(.r rfl),(.r rfl),trivial⟩ rfl ⟨_,[_],[_,_],rfl,rfl,rfl,rfl,⟨_,[_],[_,_],rfl,rfl,rfl,rfl,rfl⟩⟩) rfl<|ag rfl<|ag rfl<|ah (LO.bd (ps:=[(_,_),(_,_)]) (vs:=[(_,_),(_,_)]) (C:=[_,_]) LW ⟨(.r rfl),(.r rfl),trivial⟩ rfl ⟨_,[_],[_,_],rfl,rfl,rfl,rfl,⟨_,[_],[_,_],rfl,rfl,rfl,rfl,rfl⟩⟩) rfl<|ah (LO.bd (ps:=[(_,_),(_,_),(_,_)]) (vs:=[(_,_),(_,_),(_,_)]) (C:=[_,_,_,_,_,_,_,_]) B60 ⟨(.r rfl),(.r rfl),(.r rfl),trivial⟩ rfl ⟨_,[_],[_,_,_,_,_,_,_,_],rfl,rfl,rfl,rfl,⟨_,[_,_],[_,_,_,_,_,_,_,_],rfl,rfl,rfl,rfl,⟨_,[_,_],[_,_,_,_,_,_,_,_],rfl,rfl,rfl,rfl,rfl⟩⟩⟩) rfl<|aB rfl<|cJ (C:=#[_,_,_,_,_,_,_,_]) Z60 rfl fun b8=>cu<|cq 0 (vs:=[_,_,_,_,_,_,_,_]) (C':=[_,_,_,_,_,_,_,_]) (L':=[_,_]) O7 rfl rfl rfl rfl rfl rfl rfl rfl<|aq<|av<|av ?_)
  refine aM (ag rfl<|ah (bE fk (.r rfl) rfl) rfl<|ag rfl<|aq<|aD<|bS (α:=Nat) 1 (fun gx=>[(62,.int .i64 (gx:Nat))]) [(1,_),(4,_),(6,_),(7,_),(8,_),(12,_),(33,_),(34,_),(35,_),(60,_),(61,_)] (fun gx=>[gq b8 (.cells #[.slice r.p r.l.length r.c,.slice none 0 0,.int .i64 (nw (gW g) vs lv r.l gx).xl,.int .i64 (nw (gW g) vs lv r.l gx).xh,.int .i64 (nw (gW g) vs lv r.l gx).yl,.int .i64 (nw (gW g) vs lv r.l gx).yh,.int .i64 (nw (gW g) vs lv r.l gx).sl,.int .i64 (nw (gW g) vs lv r.l gx).sh] 60)]) (fun gx=>gx≤r.l.length) (fun gx=>r.l.length-gx) 0 (by exact aY _) (.c4 rfl rfl rfl rfl (.c4 rfl rfl rfl rfl (.c4 rfl rfl rfl rfl .nil))) (fun _ h=>h) ?_)
  rintro k hk
  refine au (dK rfl<|aq<|av<|ay rfl (fun h63=>?_) (fun h63=>?_))
  ·
   obtain⟨p,hpk⟩:∃p,r.l[k]? =some p:=⟨_,aw (by omega)⟩
   have hpm:=hrm p (al hpk)
   have hspn:=hok p (by omega)
   unfold iN at hspn
   have hbd:=zI (W:=gW g) (vs:=vs) (lv:=lv) (l:=r.l) hok (fun q hq=>by have:=hrm q hq;omega) k (by omega)
   refine aE (aj<|av<|aD<|au (ah (bM fk N3 hpx.sm (.r rfl) (.r rfl) rfl (by omega)) rfl<|ah (aC O3 (.r rfl) (fun w hw=>aA (off:=0) ((fun w3 h3=>RO.jX (nq hpx w3 h3) hpk) w hw) ⟨_,rfl⟩)) rfl<|ax rfl<|aq<|av ?_))
   refine eC [[0,1],[1],[1]] [some 0,some 0,some 0,some 0,some 0,some 0,some 0,some 0,some 0,some 0,some 0,some 0,some 0,some 0,some 0,none,some 1,none] mixed (by kernel_rfl) rfl (aG (fun _ hJ=>aP (r:=2) OM (.r rfl) rfl) rfl<|aG (fun _ hJ=>aX (vs:=[_,_]) Wi (.r rfl) (fun _ hw=>cN (hJ _ hw) 0 rfl ⟨_,rfl⟩) rfl) rfl<|cT rfl<|aG (fun _ hJ=>aP (r:=3) iQ (.r rfl) rfl) rfl<|aG (fun _ hJ=>aC O3 (.r rfl) (bj (bI (off:=3) hgr ⟨_,rfl⟩))) rfl<|aG (fun _ hJ=>eN (LO.rem (.r rfl) (.r rfl) (by omega)) (congrArg (cX .i64) (sK hg p))) rfl<|aG (fun _ hJ=>bK (xs:=[_,_]) (vs:=[_,_]) C85 ⟨(.r rfl),(.r rfl),trivial⟩ (fun w _=>Ob _ _ _ w)) rfl<|aG (fun _ hJ=>aP (r:=4) TT (.r rfl) rfl) rfl<|aG (fun _ hJ=>aX (vs:=[_,_]) Wi (.r rfl) (fun _ hw=>cN (hJ _ hw) 0 rfl ⟨_,rfl⟩) rfl) rfl<|cT rfl<|aG (fun _ hJ=>aP (r:=3) iQ (.r rfl) rfl) rfl<|aG (fun _ hJ=>aC O3 (.r rfl) (bj (bI (off:=3) hgr ⟨_,rfl⟩))) rfl<|aG (fun _ hJ=>eN (LO.quo (.r rfl) (.r rfl) (by omega) (wi (by rw[jB hg];have:=nE hg (p:=p) (by omega);omega) (by rw[jB hg];have:=nE hg (p:=p) (by omega);omega))) (congrArg (cX .i64) (jB hg p))) rfl<|aG (fun _ hJ=>bK (xs:=[_,_]) (vs:=[_,_]) C85 ⟨(.r rfl),(.r rfl),trivial⟩ (fun w _=>Ob _ _ _ w)) rfl<|aG (fun _ hJ=>aP (r:=2) OM (.r rfl) rfl) rfl<|dC<|aG (fun _ hJ=>aP (r:=4) TT (.r rfl) rfl) rfl<|dC<|fj) (az<|az<|az<|az<|az<|az<|az<|az<|az<|az<|az<|az<|az<|az<|az<|HX.h0<|cq 0 (vs:=[_,_]) (C':=[_,_,_,_,_,_,_,_]) (L':=[_,_]) yA rfl rfl rfl rfl rfl rfl rfl rfl<|⟨fun _ hw=>hw.gY [1] rfl,az<|HX.h0<|cq 0 (vs:=[_,_]) (C':=[_,_,_,_,_,_,_,_]) (L':=[_,_]) yA rfl rfl rfl rfl rfl rfl rfl rfl<|⟨fun _ hw=>hw.gY [1] rfl,fB ?_⟩⟩)
   refine aj<|av<|eC [[0,1],[1]] [some 0,some 0,some 0,some 0,some 0,some 0,some 0,some 0,some 0,some 0,some 0,some 0,some 0,none] mixed (by kernel_rfl) rfl (aG (fun _ hJ=>aP (r:=6) Em (.r rfl) rfl) rfl<|aG (fun _ hJ=>aP (r:=7) mF (.r rfl) rfl) rfl<|aG (fun _ hJ=>aC O3 (.r rfl) (fun _ hw=>cN (hJ _ hw) 0 rfl ⟨_,rfl⟩)) rfl<|aG (fun _ hJ=>aP (r:=0) y8 (.r rfl) rfl) rfl<|aG (fun _ hJ=>aP (r:=5) lN (.r rfl) rfl) rfl<|aG (fun _ hJ=>aC zH (.r rfl) (bj (bI (off:=5) hsh ⟨_,rfl⟩))) rfl<|cT rfl<|aG (fun _ hJ=>bM xq yA hv1.some (.r rfl) (.r rfl) rfl (by omega)) rfl<|aG (fun _ hJ=>aP mF (.r rfl) rfl) rfl<|aG (fun _ hJ=>aC O3 (.r rfl) (fun w hw=>aA (off:=1) ((hv1.at (j:=p) (by omega)) w (hJ _ hw)) ⟨_,rfl⟩)) rfl<|aG (fun _ hJ=>LO.add (.r rfl) (.r rfl) (wi (by omega) (by omega))) rfl<|aG (fun _ hJ=>aP (r:=6) Em (.r rfl) rfl) rfl<|aG (fun _ hJ=>aP (r:=7) mF (.r rfl) rfl) rfl<|dC<|fj) (az<|az<|az<|az<|az<|az<|az<|az<|az<|az<|az<|az<|az<|HX.h0<|cq 0 (vs:=[_]) (C':=[_,_,_,_,_,_,_,_]) (L':=[_,_]) N3 rfl rfl rfl rfl rfl rfl rfl rfl<|⟨fun _ hw=>hw.gY [1] rfl,fB ?_⟩)
   refine aj<|au (ah (aX (vs:=[_,_,_,_,_,_,_]) wv (.r rfl) (bj (bI (off:=0) hsh ⟨_,rfl⟩)) rfl) rfl<|ag rfl<|ah (bK (xs:=[_,_]) (vs:=[_,_]) C51 ⟨(.r rfl),(.r rfl),trivial⟩ (fun w hw=>RH g vs pv cv lv p w (hv1.b0 w hw) (by omega))) rfl<|aq<|ay rfl (fun h97=>?_) (fun h97=>?_))
   ·
    refine eC [[0,1],[1]] [some 0,some 0,some 0,some 0,some 0,some 0,some 0,some 0,some 0,some 0,some 0,some 0,some 0,none] mixed (by kernel_rfl) rfl (aG (fun _ hJ=>aP (r:=6) Em (.r rfl) rfl) rfl<|aG (fun _ hJ=>aP (r:=6) mj (.r rfl) rfl) rfl<|aG (fun _ hJ=>aC O3 (.r rfl) (fun _ hw=>cN (hJ _ hw) 0 rfl ⟨_,rfl⟩)) rfl<|aG (fun _ hJ=>aP (r:=0) y8 (.r rfl) rfl) rfl<|aG (fun _ hJ=>aP (r:=5) lN (.r rfl) rfl) rfl<|aG (fun _ hJ=>aC zH (.r rfl) (bj (bI (off:=5) hsh ⟨_,rfl⟩))) rfl<|cT rfl<|aG (fun _ hJ=>bM xq yA hv1.some (.r rfl) (.r rfl) rfl (by omega)) rfl<|aG (fun _ hJ=>aP mj (.r rfl) rfl) rfl<|aG (fun _ hJ=>aC O3 (.r rfl) (fun w hw=>aA (off:=0) ((hv1.at (j:=p) (by omega)) w (hJ _ hw)) ⟨_,rfl⟩)) rfl<|aG (fun _ hJ=>LO.add (.r rfl) (.r rfl) (wi (by omega) (by omega))) rfl<|aG (fun _ hJ=>aP (r:=6) Em (.r rfl) rfl) rfl<|aG (fun _ hJ=>aP (r:=6) mj (.r rfl) rfl) rfl<|dC<|fj) (az<|az<|az<|az<|az<|az<|az<|az<|az<|az<|az<|az<|az<|HX.h0<|cq 0 (vs:=[_]) (C':=[_,_,_,_,_,_,_,_]) (L':=[_,_]) N3 rfl rfl rfl rfl rfl rfl rfl rfl<|⟨fun _ hw=>hw.gY [1] rfl,fB ?_⟩)
    refine bB (aj<|aM (da rfl rfl (by omega) (by omega) rfl<|ag rfl<|aN ?_))
    have hsc:=pI (W:=gW g) (vs:=vs) (lv:=lv) hpk
    refine aZ fun a w ha hw=>⟨k+1,(by omega),(by omega),ha.sub (.c4 rfl rfl rfl rfl (.c4 rfl rfl rfl rfl (.c4 rfl rfl rfl rfl .nil))),(by rw[hsc];first |exact hw|(unfold nu;dsimp only;rw[if_pos h97];exact hw)|(unfold nu;dsimp only;rw[if_neg h97];exact hw))⟩
   ·
    refine aE (bB (aj<|aM (da rfl rfl (by omega) (by omega) rfl<|ag rfl<|aN ?_)))
    have hsc:=pI (W:=gW g) (vs:=vs) (lv:=lv) hpk
    refine aZ fun a w ha hw=>⟨k+1,(by omega),(by omega),ha.sub (.c4 rfl rfl rfl rfl (.c4 rfl rfl rfl rfl (.c4 rfl rfl rfl rfl .nil))),(by rw[hsc];first |exact hw|(unfold nu;dsimp only;rw[if_pos h97];exact hw)|(unfold nu;dsimp only;rw[if_neg h97];exact hw))⟩
  ·
   have hke:k=r.l.length:=by omega
   subst hke
   rw[A8]
   refine bU (aH (aH (cB (aj<|aM (ag rfl<|ag rfl<|ah (aX (vs:=[_,_,_,_,_,_,_,_]) A60 (.r rfl) (aF 0 rfl ⟨_,rfl⟩) rfl) rfl<|ah (cy Ec O7 (fun _ hw=>(bL hw 1 rfl).some (by rw[ak];first |(rw[wj (by omega)])|(exact hki.len.symm))) (.r rfl) (.r rfl) rfl (by omega)) rfl<|cu<|iV 1 (fun R=>[_,R]) ((lJ (gW g) vs lv r)) (vs:=[_,_,_,_,_,_,_,_]) O7 (.r rfl) (.r rfl) rfl (by rw[wj (by omega)];omega) rfl rfl rfl rfl rfl (fun _=>rfl)<|aN ?_)))))
   rw[KB hr]
   refine bB (aj<|aM (da rfl rfl (by omega) (by omega) rfl<|ag rfl<|aN<|aZ fun a w ha hw=>⟨i+1,(by omega),(by omega),ha.sub (.c4 rfl rfl rfl rfl (.cons rfl (.cons rfl (.cons rfl .nil)))),hw.gY [1] rfl⟩))
 ·
  have hie:i=y1.rs.length:=by omega
  subst hie
  rw[K6]
  refine bU (aH (aH (cB (aj<|au (ah (aX (vs:=[_,_,_,_,_]) qw (.r rfl) (bj (bI (off:=0) hgr ⟨_,rfl⟩)) rfl) rfl<|ah (aX (vs:=[_,_,_,_,_,_,_]) wv (.r rfl) (bj (bI (off:=0) hsh ⟨_,rfl⟩)) rfl) rfl<|ah (LO.mf2 (first:=[_]) (cap:=[]) ⟨(.r rfl),trivial⟩ trivial) rfl<|aB rfl<|cd (xs:=[_,_]) (vs:=[_,_]) C50 ⟨(.r rfl),(.r rfl),trivial⟩ (fun w hw=>yj g 51 [rm g pv vs.length cv lv] (pF vs lv) w hg C51 (fun w2 p hp hw2=>RH g vs pv cv lv p w2 ((hv1.b0 w hw).b0 w2 hw2) (by omega))) fun y2 hy2=>aB rfl<|aW (aS (.r rfl))<|aB rfl<|aW (cU (.r rfl) rfl)<|aB rfl<|aW (cU (.r rfl) rfl)<|aB rfl<|aW (LO.as (.r rfl))<|aB rfl<|aW (LO.as (.r rfl))<|aN ?_)))))
  have hyl2:y2.rs.length≤gW g*gH g:=by have:=congrArg dv hy2;rw[ak]at this;rw[this];exact kh
  refine aj<|av<|av<|iv (L':=[own 60 8 (some ⟨b7,0,none⟩) y1.rs.length ((y1.rs.map (lJ (gW g) vs lv)).map di.cells)]++[_,_,_]) (dq [3,0,1,2] rfl rfl)<|VC.I5 fun w2 hst2=>?_
  have hofk:∀{L:List dg} {w3:World},St ⟨w2,mG [own 60 8 (some ⟨b7,0,none⟩) y1.rs.length ((y1.rs.map (lJ (gW g) vs lv)).map di.cells)]⟩ L w3→RO 1 iC w3 y1.po (mH (gW g) (gH g) (et vs lv)):=fun h=>nq hOF _ (iH hst2 h)
  have hkk:∀{L:List dg} {w3:World},St ⟨w2,mG [own 60 8 (some ⟨b7,0,none⟩) y1.rs.length ((y1.rs.map (lJ (gW g) vs lv)).map di.cells)]⟩ L w3→RR 1 nC w3 y2.p y2.rs:=fun h=>RR.gM (St.ln (iH hst2 h)) 0 1 rfl rfl
  have hks:RR 1 nC w2 y2.p y2.rs:=RR.gM (St.ln hst2) 0 1 rfl rfl
  refine iv (fun w hw=>Nx (W:=gW g) (vs:=vs) (lv:=lv) (rs:=y1.rs) hw) ?_
  show VC _ _ _ _ _ _ [bV ((y1.rs.map (lJ (gW g) vs lv)).map di.kR),own 60 8 (some ⟨b7,0,none⟩) y1.rs.length ((y1.rs.map (lJ (gW g) vs lv)).map di.cells)] _ _
  refine aM (ag rfl<|ah (bE tQ (.r rfl) rfl) rfl<|ag rfl<|aq<|aD<|gw [1,0] rfl<|bS (α:=Nat×(List di)) 2 (fun gx=>[(126,.int .i64 (gx.1:Nat))]) [(6,_),(7,_),(124,_),(125,_)] (fun gx=>[own 60 8 (some ⟨b7,0,none⟩) y1.rs.length (gx.2.map di.cells),bV (gx.2.map di.kR)]) (fun gx=>gx.1≤y2.rs.length∧yJ (gW g) vs lv y1.rs y2.rs gx.1 gx.2) (fun gx=>y2.rs.length-gx.1) (0,(y1.rs.map (lJ (gW g) vs lv))) (by exact⟨aY _,yJ.zero⟩) (.c4 rfl rfl rfl rfl (.cons rfl .nil)) (fun _ h=>h) ?_)
  rintro ⟨j,l⟩ ⟨hj,hki⟩
  show VC _ _ _ _ _ ([(126,.int .i64 (j:Nat))]++_) ([own 60 8 (some ⟨b7,0,none⟩) y1.rs.length (l.map di.cells),bV (l.map di.kR)]++_) _ _
  dsimp only at hj hki
  refine au (dK rfl<|aq<|av<|ay rfl (fun h127=>?_) (fun h127=>?_))
  ·
   obtain⟨kr,hk⟩:∃kr,y2.rs[j]? =some kr:=⟨_,aw (by omega)⟩
   obtain⟨hk1,hk2,hk3,ix,hix,hixl,hixm⟩:=Sd (rs:=y1.rs) (vs:=vs) (lv:=lv) (fun j hj=>hok j (by omega)) hy1 hy2 hk
   have hk0:kr.l[0]? =some (kr.l.getD 0 0):=by rw[aO,aw hk1];rfl
   obtain⟨aa,haa⟩:∃a,l[ix]? =some a:=⟨_,aw (by rw[hki.len];exact hixl)⟩
   have hain:kr.l.headD 0∈aa.px.l:=hixm aa.px (by rw[←hki.px,aI,haa];rfl)
   have hk4:aa.kr.length≤j:=by rw[hki.kr aa (al haa)];exact Nat.le_trans (List.length_filter_le _ _) (by rw[eU];omega)
   refine aE (aj<|av<|aD<|au (ah (bM tQ qL hks.1.sm (.r rfl) (.r rfl) rfl (by omega)) rfl<|ah (aC iL (.r rfl) (fun w hw=>aA (off:=0) ((fun w3 h3=>RR.cell (hkk h3) hk) w hw) ⟨_,rfl⟩)) rfl<|ax rfl<|aq<|av ?_))
   refine aM (ag rfl<|ag rfl<|ag rfl<|ah (bM fk N3 (RR.row hks hk).sm (.r rfl) (.r rfl) (j:=0) rfl hk1) rfl<|ah (aC O3 (.r rfl) (fun w hw=>aA (off:=0) ((fun w3 h3=>RO.jX (RR.row (hkk h3) hk) hk0) w hw) ⟨_,rfl⟩)) rfl<|ah (bM fk N3 hofs (.r rfl) (.r rfl) rfl hk2) rfl<|ah (aC O3 (.r rfl) (fun w hw=>aA (off:=0) ((fun w3 h3=>RO.jX (hofk h3) hix) w hw) ⟨_,rfl⟩)) rfl<|ah (cy Ec O7 (fun _ hw=>(bL hw 0 rfl).some (by rw[ak];first |(rw[wj (by omega)])|(exact hki.len.symm))) (.r rfl) (.r rfl) rfl hixl) rfl<|ax rfl<|aq<|iv (L':=di.kR aa::bV ((l.eraseIdx ix).map di.kR)::[_]) (fun w hw=>St.rh (f:=di.kR) (dq [1,0] rfl rfl w hw) haa) ?_)
   show VC _ _ _ _ _ _ (own 55 1 aa.kp aa.kc (aa.kr.map lI)::_) _ _
   refine aM (ag rfl<|ag rfl<|ah (LO.nc (.r rfl)) rfl<|bO Ik rfl<|ah (aC XK (.r rfl) (fun w hw=>aA (off:=1) (cO hw 2 rfl haa) ⟨_,rfl⟩)) rfl<|ag rfl<|aB rfl<|eW (ps:=[(_,_)]) (vs:=[(_,_)]) (Z:=[_]) (C:=[_]) tQ Qt qL ⟨(.r rfl),trivial⟩ rfl rfl rfl rfl ⟨_,[_],[_],rfl,rfl,rfl,rfl,rfl⟩ fun b23=>aB rfl<|eP (kr) 1 0 (fun R=>[_,R,_,_]) tQ tQ I55 (.r rfl) (.r rfl) rfl rfl rfl rfl rfl rfl rfl (fun _=>rfl) rfl (by have:=hk4;omega) fun p7 c7=>ah (LO.nc (.r rfl)) rfl<|bO Ik rfl<|cu<|HO.Qv 3 (fun R=>[_,_,_,R]) (o:=1) (vs:=[_]) N56 (.r rfl) (.r rfl) rfl (oZ haa) rfl rfl (Nat.le_of_ble_eq_true rfl) rfl (fun _=>rfl)<|aN<|bB (aj<|aM (da rfl rfl (by omega) (by omega) rfl<|ag rfl<|aN ?_)))
   rw[V5 haa]
   refine aZ fun a w ha hw=>⟨(j+1,l.set ix { aa with kp:=p7,kc:=c7,kr:=aa.kr++[kr] }),⟨by dsimp only;omega,hki.add hk haa hain (by rw[hy1];exact sO (cg _))⟩,(by dsimp only;omega),ha.sub (.c4 rfl rfl rfl rfl (.cons rfl .nil)),(by exact dq (L1:=[_,_]) [1,0] rfl rfl _ (St.nK (f:=di.kR) (a:={ aa with kp:=p7,kc:=c7,kr:=aa.kr++[kr] }) (i:=ix) (dq (L1:=di.kR { aa with kp:=p7,kc:=c7,kr:=aa.kr++[kr] }::[_,_]) [1,2,3] rfl rfl _ hw) (by rw[hki.len];exact hixl)))⟩
  ·
   have hje:j=y2.rs.length:=by omega
   subst hje
   refine bU (aH (aH (cB (aj<|au (ag rfl<|ag rfl<|ax rfl<|ax rfl<|aq<|be (dh (vs:=[_,_]) rfl ⟨rfl,rfl,trivial⟩ (fun w hw=>?_)))))))
   have hE:=hki.done hy1 hy2
   have hpxE:=hki.px
   have hkrE:∀a,a∈l→∀k,k∈a.kr→k∈y2.rs:=fun a ha k hk=>by rw[hki.kr a ha]at hk;exact List.mem_of_mem_take (List.mem_filter.1 hk).1
   have hf:=hst1.call (iH hst2 (dq (L1:=[_,_]) [0,1] rfl rfl _ hw))
   have hll:y1.rs.length=l.length:=hki.len.symm
   exact⟨⟨l,some ⟨b7,0,none⟩,y1.rs.length,y1.rs,y1.p,y1.c,y2.rs,y2.p,y2.c,y1.po,y1.co,mH (gW g) (gH g) (pF vs lv),y2.po,y2.co⟩,⟨hE,hpxE,hkrE⟩,by rw[←hll];rfl,dq [0,1,2,3,4,5,6,7] rfl rfl _ hf⟩
theorem C47:fh af 47:=⟨_,Tryz.func47,by decide,rfl⟩
theorem C48:fh af 48:=⟨_,Tryz.func48,by decide,rfl⟩
theorem C49:fh af 49:=⟨_,Tryz.func49,by decide,rfl⟩
def E8 (g:eo) (vs:List Span) (lv p q:Int):Int:=if sB g vs lv≠0 then sB g vs lv else if min p q<0∨(vs.length:Int)≤max p q then 4 else 0
theorem PC {g:eo} {vs:List Span} {lv p q:Int} (h:E8 g vs lv p q=0):sB g vs lv=0∧∃a b:Nat,p=a∧q=b∧a<vs.length∧b<vs.length:=by
 unfold E8 at h
 split at h
 ·rename_i z;exact absurd h z
 ·rename_i z
  split at h
  ·omega
  ·rename_i y
   exact⟨eK.1 z,p.toNat,q.toNat,by omega,by omega,by omega,by omega⟩
def wV (W H:Nat) (vs:List Span) (lv:Int) (p q:Nat):Int:=
 if 0≤iG (dM W H (pF vs lv)) p∧iG (dM W H (pF vs lv)) p=iG (dM W H (pF vs lv)) q then 1 else if iG (dM W H (et vs lv)) p<0∨¬iG (dM W H (et vs lv)) p=iG (dM W H (et vs lv)) q then 2 else 3
theorem ru {W H:Nat} {S:Nat→Bool} {q:Nat} (h:q<W*H):(mH W H S)[q]? =some (iG (dM W H S) q):=by unfold mH;rw[aI,fE h];rfl
theorem jv1 {W H:Nat} {vs:List Span} {lv:Int} {p q:Nat} (h:0≤iG (dM W H (pF vs lv)) p∧iG (dM W H (pF vs lv)) p=iG (dM W H (pF vs lv)) q):1=wV W H vs lv p q:=(if_pos h).symm
theorem jv2 {W H:Nat} {vs:List Span} {lv:Int} {p q:Nat} (h:¬(0≤iG (dM W H (pF vs lv)) p∧iG (dM W H (pF vs lv)) p=iG (dM W H (pF vs lv)) q)) (k:iG (dM W H (et vs lv)) p<0∨¬iG (dM W H (et vs lv)) p=iG (dM W H (et vs lv)) q):2=wV W H vs lv p q:=by unfold wV;rw[if_neg h,if_pos k]
theorem jv3 {W H:Nat} {vs:List Span} {lv:Int} {p q:Nat} (h:¬(0≤iG (dM W H (pF vs lv)) p∧iG (dM W H (pF vs lv)) p=iG (dM W H (pF vs lv)) q)) (k:¬(iG (dM W H (et vs lv)) p<0∨¬iG (dM W H (et vs lv)) p=iG (dM W H (et vs lv)) q)):3=wV W H vs lv p q:=by unfold wV;rw[if_neg h,if_neg k]
theorem OW (g:eo) (vs:List Span) (pv:Option Addr) (cv:Nat) (lv:Int) (w:World) (hv:fL w pv vs) (hok:sB g vs lv=0):
 Calls af 15 #[im g pv vs.length cv,.int .i64 lv] w fun e w'=>∃y:oV,AR (gW g) (gH g) vs lv y∧e= .returned (.tuple #[.slice y.p y.l.length y.c,.int .i64 0])∧St (bs w) (y.R (mH (gW g) (gH g) (et vs lv))) w':=by
 obtain⟨hg,hlen,hok2,hlv1,hlv2⟩:=oO hok
 have hvl:vs.length=gW g*gH g:=AS hg hlen
 refine enter (vs:=[_,_]) (env:=[(0,_),(1,_)]) Tryz.func15 rfl rfl rfl rfl ?_
 refine au (aB rfl<|c8 (C:=#[_,_,_,_,_,_]) rfl rfl fun b1=>ax rfl<|ax rfl<|aq<|au (ah (aX (vs:=[_,_,_,_,_,_]) oy (.r rfl) (aF 0 rfl ⟨_,rfl⟩) rfl) rfl<|ag rfl<|ah (bK (xs:=[_,_]) (vs:=[_,_]) C47 ⟨(.r rfl),(.r rfl),trivial⟩ (fun w hw=>AT g vs pv cv lv w (hv.b0 w hw) hok)) rfl<|ag rfl<|ah (cU (.r rfl) rfl) rfl<|ah (cU (.r rfl) rfl) rfl<|aB rfl<|cJ (C:=#[_,_,_,_,_,_,_]) Ka rfl fun b2=>cu<|cq 0 (vs:=[_,_,_,_,_,_,_]) (C':=[_,_,_,_,_,_,_]) (L':=[_,_]) KA rfl rfl rfl rfl rfl rfl rfl rfl<|ax rfl<|aq<|av ?_))
 refine au (ag rfl<|VO.u rfl<|aq<|ay rfl (fun h17=>?_) (fun h17=>?_))
 · (exfalso;exact h17 rfl)
 ·
  refine aE (aj<|au (ah (aX (vs:=[_,_,_,_,_,_,_]) wv (.r rfl) (aF 0 rfl ⟨_,rfl⟩) rfl) rfl<|aB rfl<|cd (xs:=[_]) (vs:=[_]) C48 ⟨(.r rfl),trivial⟩ (fun w hw=>B5 g vs pv cv lv w hg hlen hok2 (hv.b0 w hw)) fun y hy=>aB rfl<|aW (aS (.r rfl))<|aB rfl<|aW (cU (.r rfl) rfl)<|aB rfl<|aW (cU (.r rfl) rfl)<|aB rfl<|aW (LO.as (.r rfl))<|aB rfl<|aW (LO.as (.r rfl))<|aq<|au (ag rfl<|ax rfl<|ax rfl<|aq ?_)))
  refine be (dh (vs:=[_,_]) rfl ⟨rfl,rfl,trivial⟩ (fun w hw=>?_))
  exact⟨y,hy,rfl,dq [0,1,2,3,4,5,6,7] rfl rfl _ hw⟩
theorem Be (g:eo) (vs:List Span) (pv:Option Addr) (cv:Nat) (lv p q:Int) (w:World) (hv:fL w pv vs) (hpx:E8 g vs lv p q=0):
 Calls af 49 #[im g pv vs.length cv,.int .i64 lv,.int .i64 p,.int .i64 q] w fun e w'=>e= .returned (.tuple #[rm g pv vs.length cv lv,.int .i64 0])∧St (bs w) [] w':=by
 obtain⟨hok,a,b,rfl,rfl,ha,hb⟩:=PC hpx
 refine enter (vs:=[_,_,_,_]) (env:=[(0,_),(1,_),(2,_),(3,_)]) Tryz.func49 rfl rfl rfl rfl ?_
 refine au (aB rfl<|c8 (C:=#[_,_,_,_,_,_]) rfl rfl fun b1=>aB rfl<|cJ (C:=#[_,_,_,_,_,_,_]) Ka rfl fun b2=>ax rfl<|aq<|au (ah (aX (vs:=[_,_,_,_,_,_]) oy (.r rfl) (aF 1 rfl ⟨_,rfl⟩) rfl) rfl<|ag rfl<|ah (bK (xs:=[_,_]) (vs:=[_,_]) C47 ⟨(.r rfl),(.r rfl),trivial⟩ (fun w hw=>AT g vs pv cv lv w (hv.b0 w hw) hok)) rfl<|ag rfl<|ah (cU (.r rfl) rfl) rfl<|ah (cU (.r rfl) rfl) rfl<|aB rfl<|cJ (C:=#[_,_,_,_,_,_,_]) Ka rfl fun b3=>cu<|cq 0 (vs:=[_,_,_,_,_,_,_]) (C':=[_,_,_,_,_,_,_]) (L':=[_,_,_]) KA rfl rfl rfl rfl rfl rfl rfl rfl<|ax rfl<|aq<|av ?_))
 refine au (ag rfl<|ah (LO.eq (.r rfl) (.r rfl)) rfl<|ag rfl<|bh rfl (fun hg=>aS (.r rfl))<|bh rfl (fun hg=>aS (.r rfl))<|bh rfl (fun hg=>LO.min (.g hg rfl) (.g hg rfl))<|bh rfl (fun hg=>LO.lt (.g hg rfl) (.r rfl))<|bh rfl (fun hg=>aS (.g hg rfl))<|mW rfl rfl (wI _ _) (fun hg=>aS (.r rfl)) rfl<|mW rfl rfl (wI _ _) (fun hg=>aS (.r rfl)) rfl<|mW rfl rfl (wI _ _) (fun hg=>LO.max (.g hg rfl) (.g hg rfl)) rfl<|mW rfl rfl (wI _ _) (fun hg=>aP (r:=5) lN (.r rfl) rfl) rfl<|mW rfl rfl (wI _ _) (fun hg=>aC zH (.g hg rfl) (aF 2 rfl ⟨_,rfl⟩)) rfl<|mW rfl rfl (wI _ _) (fun hg=>bE xq (.g hg rfl) rfl) rfl<|mW rfl rfl (wI _ _) (fun hg=>LO.ge (.g hg rfl) (.g hg rfl)) rfl<|bh rfl (fun hg=>cD (.g hg rfl) (.r rfl) rfl (NI hg))<|ah (e7 (.r rfl) rfl rfl (.r rfl)) rfl<|aq<|ay rfl (fun h34=>?_) (fun h34=>?_))
 · (exfalso;(have h:=h34.2;omega))
 ·
  refine aE (aj<|au (ah (aX (vs:=[_,_,_,_,_,_,_]) wv (.r rfl) (aF 0 rfl ⟨_,rfl⟩) rfl) rfl<|ag rfl<|cu<|cq 1 (vs:=[_,_,_,_,_,_,_]) (C':=[_,_,_,_,_,_,_]) (L':=[_,_,_]) KA rfl rfl rfl rfl rfl rfl rfl rfl<|ax rfl<|aq<|be (dh (vs:=[_,_]) rfl ⟨RV.agg (vs:=[_,_,_,_,_,_,_]) wv rfl (aF 1 rfl ⟨_,rfl⟩) rfl,rfl,trivial⟩ (fun w hw=>?_))))
  exact⟨rfl,hw.nil⟩
theorem Bh (g:eo) (vs:List Span) (pv:Option Addr) (cv:Nat) (lv:Int) (p q:Nat) (w:World) (hv:fL w pv vs) (hpx:E8 g vs lv p q=0):
 Calls af 18 #[im g pv vs.length cv,.int .i64 lv,.int .i64 (p:Int),.int .i64 (q:Int)] w fun e w'=>e= .returned (.tuple #[.int .i64 (wV (gW g) (gH g) vs lv p q),.int .i64 0])∧St (bs w) [] w':=by
 obtain⟨hok,a,b,ea,eb,ha,hb⟩:=PC hpx
 have hp:p<vs.length:=by omega
 have hq:q<vs.length:=by omega
 obtain⟨hg,hlen,hok2,hlv1,hlv2⟩:=oO hok
 have hvl:vs.length=gW g*gH g:=AS hg hlen
 refine enter (vs:=[_,_,_,_]) (env:=[(0,_),(1,_),(2,_),(3,_)]) Tryz.func18 rfl rfl rfl rfl ?_
 refine au (aB rfl<|c8 (C:=#[_,_,_,_,_,_]) rfl rfl fun b1=>ax rfl<|ax rfl<|aq<|au (ah (aX (vs:=[_,_,_,_,_,_]) oy (.r rfl) (aF 0 rfl ⟨_,rfl⟩) rfl) rfl<|ag rfl<|ag rfl<|ag rfl<|ah (bK (xs:=[_,_,_,_]) (vs:=[_,_,_,_]) C49 ⟨(.r rfl),(.r rfl),(.r rfl),(.r rfl),trivial⟩ (fun w hw=>Be g vs pv cv lv _ _ w (hv.b0 w hw) hpx)) rfl<|ag rfl<|ah (cU (.r rfl) rfl) rfl<|ah (cU (.r rfl) rfl) rfl<|aB rfl<|cJ (C:=#[_,_,_,_,_,_,_]) Ka rfl fun b2=>cu<|cq 0 (vs:=[_,_,_,_,_,_,_]) (C':=[_,_,_,_,_,_,_]) (L':=[_,_]) KA rfl rfl rfl rfl rfl rfl rfl rfl<|ax rfl<|aq<|av ?_))
 refine au (ag rfl<|VO.u rfl<|aq<|ay rfl (fun h25=>?_) (fun h25=>?_))
 · (exfalso;exact h25 rfl)
 ·
  refine aE (aj<|au (bO (r:=0) lO rfl<|ah (aX (vs:=[_,_,_,_,_]) qw (.r rfl) (aF 1 rfl ⟨_,rfl⟩) rfl) rfl<|ah (aX (vs:=[_,_,_,_,_,_,_]) wv (.r rfl) (aF 0 rfl ⟨_,rfl⟩) rfl) rfl<|ah (LO.mf2 (first:=[_]) (cap:=[]) ⟨(.r rfl),trivial⟩ trivial) rfl<|aB rfl<|cd (xs:=[_,_]) (vs:=[_,_]) C50 ⟨(.r rfl),(.r rfl),trivial⟩ (fun w hw=>yj g 51 [rm g pv vs.length cv lv] (pF vs lv) w hg C51 (fun w2 p hp hw2=>RH g vs pv cv lv p w2 ((hv.b0 w hw).b0 w2 hw2) (by omega))) fun y1 hy1=>aB rfl<|aW (aS (.r rfl))<|aB rfl<|aW (cU (.r rfl) rfl)<|aB rfl<|aW (cU (.r rfl) rfl)<|aB rfl<|aW (LO.as (.r rfl))<|aB rfl<|aW (LO.as (.r rfl))<|aq<|au (bO (r:=0) lO rfl<|ah (aX (vs:=[_,_,_,_,_]) qw (.r rfl) (aF 4 rfl ⟨_,rfl⟩) rfl) rfl<|ah (aX (vs:=[_,_,_,_,_,_,_]) wv (.r rfl) (aF 3 rfl ⟨_,rfl⟩) rfl) rfl<|ah (LO.mf2 (first:=[_]) (cap:=[]) ⟨(.r rfl),trivial⟩ trivial) rfl<|aB rfl<|cd (xs:=[_,_]) (vs:=[_,_]) C50 ⟨(.r rfl),(.r rfl),trivial⟩ (fun w hw=>yj g 52 [rm g pv vs.length cv lv] (et vs lv) w hg Yr (fun w2 p hp hw2=>DS g vs pv cv lv p w2 ((hv.b0 w hw).b0 w2 hw2) (by omega))) fun y2 hy2=>aB rfl<|aW (aS (.r rfl))<|aB rfl<|aW (cU (.r rfl) rfl)<|aB rfl<|aW (cU (.r rfl) rfl)<|aB rfl<|aW (LO.as (.r rfl))<|aB rfl<|aW (LO.as (.r rfl))<|aq ?_)))
  refine av<|aD<|av<|VC.nF fun w1 hst1=>?_
  have hK:RO 1 iC w1 y1.po (mH (gW g) (gH g) (pF vs lv)):=fK hst1 5 rfl
  have hA:RO 1 iC w1 y2.po (mH (gW g) (gH g) (et vs lv)):=fK hst1 2 rfl
  have hKs:jR y1.po (gW g*gH g):=by have z:=RO.sm hK;rw[mR]at z;exact z
  have hAs:jR y2.po (gW g*gH g):=by have z:=RO.sm hA;rw[mR]at z;exact z
  refine gj mixed (eT rfl<|eT rfl<|bl (bM fk N3 hKs (.r rfl) (.r rfl) rfl (by omega)) rfl<|bl (aC O3 (.r rfl) (fun w hw=>aA (off:=0) ((fun w3 h3=>RO.jX (nq hK w3 h3) (ru (q:=p) (by omega))) w hw) ⟨_,rfl⟩)) rfl<|bl (LO.ge (.r rfl) (.r rfl)) rfl<|eT rfl<|gm rfl (fun hg=>aS (.r rfl))<|gm rfl (fun hg=>aS (.r rfl))<|gm rfl (fun hg=>bM fk N3 hKs (.g hg rfl) (.g hg rfl) rfl (by omega))<|gm rfl (fun hg=>aC O3 (.g hg rfl) (fun w hw=>aA (off:=0) ((fun w3 h3=>RO.jX (nq hK w3 h3) (ru (q:=p) (by omega))) w hw) ⟨_,rfl⟩))<|gm rfl (fun hg=>aS (.r rfl))<|gm rfl (fun hg=>aS (.r rfl))<|gm rfl (fun hg=>bM fk N3 hKs (.g hg rfl) (.g hg rfl) rfl (by omega))<|gm rfl (fun hg=>aC O3 (.g hg rfl) (fun w hw=>aA (off:=0) ((fun w3 h3=>RO.jX (nq hK w3 h3) (ru (q:=q) (by omega))) w hw) ⟨_,rfl⟩))<|gm rfl (fun hg=>LO.eq (.g hg rfl) (.g hg rfl))<|bl (e7 (.r rfl) rfl rfl (.r rfl)) rfl<|bl (LO.as (.r rfl)) rfl<|LL.nil) (by kernel_rfl)<|aj<|ay rfl (fun h43=>?_) (fun h43=>?_)
  ·
   refine au (ax rfl<|ax rfl<|aq<|be (VE.mq (VE.dB (dh (vs:=[_,_]) rfl ⟨rfl,rfl,trivial⟩ (fun w hw=>?_)))))
   refine⟨?_,St.DV hst1 hw⟩
   refine congrArg (fun z=>bT (.tuple #[.int .i64 z,.int .i64 0])) ?_
   first |exact jv1 (by simpa using h43)|exact jv2 (by simpa using h43) (by simpa using h60)|exact jv3 (by simpa using h43) (by simpa using h60)
  ·
   refine av<|gj mixed (eT rfl<|eT rfl<|bl (bM fk N3 hAs (.r rfl) (.r rfl) rfl (by omega)) rfl<|bl (aC O3 (.r rfl) (fun w hw=>aA (off:=0) ((fun w3 h3=>RO.jX (nq hA w3 h3) (ru (q:=p) (by omega))) w hw) ⟨_,rfl⟩)) rfl<|bl (LO.lt (.r rfl) (.r rfl)) rfl<|eT rfl<|cW rfl (fun hg=>aS (.r rfl))<|cW rfl (fun hg=>aS (.r rfl))<|cW rfl (fun hg=>bM fk N3 hAs (.g hg rfl) (.g hg rfl) rfl (by omega))<|cW rfl (fun hg=>aC O3 (.g hg rfl) (fun w hw=>aA (off:=0) ((fun w3 h3=>RO.jX (nq hA w3 h3) (ru (q:=p) (by omega))) w hw) ⟨_,rfl⟩))<|cW rfl (fun hg=>aS (.r rfl))<|cW rfl (fun hg=>aS (.r rfl))<|cW rfl (fun hg=>bM fk N3 hAs (.g hg rfl) (.g hg rfl) rfl (by omega))<|cW rfl (fun hg=>aC O3 (.g hg rfl) (fun w hw=>aA (off:=0) ((fun w3 h3=>RO.jX (nq hA w3 h3) (ru (q:=q) (by omega))) w hw) ⟨_,rfl⟩))<|cW rfl (fun hg=>LO.ne (.g hg rfl) (.g hg rfl))<|bl (cD (.r rfl) (.r rfl) rfl rfl) rfl<|bl (LO.as (.r rfl)) rfl<|LL.nil) (by kernel_rfl)<|aj<|ay rfl (fun h60=>?_) (fun h60=>?_)
   ·
    refine au (ax rfl<|ax rfl<|aq<|be (VE.mq (VE.dB (dh (vs:=[_,_]) rfl ⟨rfl,rfl,trivial⟩ (fun w hw=>?_)))))
    refine⟨?_,St.DV hst1 hw⟩
    refine congrArg (fun z=>bT (.tuple #[.int .i64 z,.int .i64 0])) ?_
    first |exact jv1 (by simpa using h43)|exact jv2 (by simpa using h43) (by simpa using h60)|exact jv3 (by simpa using h43) (by simpa using h60)
   ·
    refine aE (bB (aj<|au (ax rfl<|ax rfl<|aq<|be (dh (vs:=[_,_]) rfl ⟨rfl,rfl,trivial⟩ (fun w hw=>?_)))))
    refine⟨?_,St.DV hst1 hw⟩
    refine congrArg (fun z=>bT (.tuple #[.int .i64 z,.int .i64 0])) ?_
    first |exact jv1 (by simpa using h43)|exact jv2 (by simpa using h43) (by simpa using h60)|exact jv3 (by simpa using h43) (by simpa using h60)
theorem C54:fh af 54:=⟨_,Tryz.func54,by decide,rfl⟩
theorem abK:dr af 132 (.nilFunc):=by unfold dr;kernel_rfl
theorem acj:(af.info? 132).map (·.size)=some 1:=by kernel_rfl
theorem Vg:jJ af 132:=⟨⟨_,Tryz.underlying132,rfl⟩,by kernel_rfl⟩
def mV (vs:List Span) (lv:Int) (l:List Nat) (p:Nat):List Nat:=if pF vs lv p=true then l++[p] else l
def oK (vs:List Span) (lv:Int) (l:List Nat) (p:Nat):List Nat:=if pF vs lv p=true then l else l++[p]
def Cb (vs:List Span) (lv:Int) (p:Nat):Nat:=if pF vs lv p=true then 0 else 1
abbrev Ar (bn:Nat) (pn:Option Addr) (cn:Nat) (now:List Nat) (bx:Nat) (px:Option Addr) (cx:Nat) (nxt:List Nat):List dg:=[gq bn (.cells #[.slice pn now.length cn] 55),own 3 1 pn cn (now.map nC),gq bx (.cells #[.slice px nxt.length cx] 55),own 3 1 px cx (nxt.map nC)]
theorem DC {vs:List Span} {lv:Int} {l:List Nat} {p:Nat} (h:pF vs lv p=true):l++[p]=mV vs lv l p∧l=oK vs lv l p:=⟨(if_pos h).symm,(if_pos h).symm⟩
theorem CU {vs:List Span} {lv:Int} {l:List Nat} {p:Nat} (h:¬pF vs lv p=true):l=mV vs lv l p∧l++[p]=oK vs lv l p:=⟨(if_neg h).symm,(if_neg h).symm⟩
theorem Jg {vs:List Span} {lv:Int} {now nxt:List Nat} {p:Nat}:(mV vs lv now p).length+(oK vs lv nxt p).length=now.length+nxt.length+1:=by
 unfold mV oK;split<;>simp<;>omega
theorem Br {vs:List Span} {lv:Int} {l:List Nat} {p:Nat}:(mV vs lv l p).length≤l.length+1:=by unfold mV;split<;>simp
structure acb where
 pn:Option Addr
 cn:Nat
 px:Option Addr
 cx:Nat
def XE (n:Nat) (ls:List Int) (k:Nat):Nat:=2*kG ls+(if k=0 then 0 else 1)+(if n=0 then 2 else 0)
def GH (W H:Nat) (M:Nat→Bool) (C:Nat→Nat) (p n:Nat) (ls:List Int) (now next:List Nat):Prop:=(n=0∧GI W H M C p 0 ls now next X0)∨(0<n∧now=[]∧GI W H M C p (n-1) ls [] next X0)
theorem Ry {W H:Nat} {vs:List Span} {lv:Int} {p:Nat} (hp:p<W*H) (hM:et vs lv p=true):GI W H (et vs lv) (Cb vs lv) p 0 (bH (W*H) (-1)) (mV vs lv [] p) (oK vs lv [] p) X0:=by
 unfold mV oK
 by_cases h:pF vs lv p=true
 ·rw[if_pos h,if_pos h];exact GI.Yd hp hM (if_pos h)
 ·rw[if_neg h,if_neg h];exact GI.Yp hp hM (if_neg h)
theorem GI.TO {W H:Nat} {vs:List Span} {lv:Int} {p n r k t:Nat} {ls:List Int} {now next:List Nat} (h:GI W H (et vs lv) (Cb vs lv) p n ls now next (XN W H r k)) (hb:5*kG ls+now.length+next.length+1≤5*(W*H)+1) (hr:r<W*H) (hrd:ls.getD r (-1)=n) (ht:(nb W H r)[k]? =some t) (hM:et vs lv t=true):
  GI W H (et vs lv) (Cb vs lv) p n ls (mV vs lv now t) (oK vs lv next t) (XN W H r (k+1)):=by
 unfold mV oK
 by_cases q:pF vs lv t=true
 ·rw[if_pos q,if_pos q];exact h.Ye hb hr hrd ht hM (if_pos q)
 ·rw[if_neg q,if_neg q];exact h.Vr hb hr hrd ht hM (if_neg q)
theorem yK {ls:List Int} {j:Nat} (h:j<ls.length):ls[j]? =some (ls.getD j (-1)):=by rw[aO,aw h];rfl
theorem DX {l:List Nat} {r:Nat}:(l++[r])[l.length]? =some r:=by rw[bJ (cg _),gd];rfl
theorem vW {W H p:Nat}:(nb W H p).length≤4:=by
 rw[Gj]
 have:∀b:Bool,b.toNat≤1:=fun b=>by cases b<;>decide
 have h1:=this (decide (0<p / W));have h2:=this (decide (0<p%W));have h3:=this (decide (p%W+1<W));have h4:=this (decide (p / W+1<H))
 omega
theorem Ji {β:Bs} {L:List dg} {w:World} (hw:St β L w) (i:Nat) {E z cap:Nat} {p:Option Addr} {rows:List (List Value)} (hi:L[i]? =some (own E z p cap rows)):rows.length≤cap:=(hw.inv i _ hi).1
theorem Wg {W H:Nat} {M:Nat→Bool} {C:Nat→Nat} {p n:Nat} {ls:List Int} {now next:List Nat} (hn:0<n) (h:GH W H M C p n ls now next):0<n∧now=[]∧GI W H M C p (n-1) ls [] next X0:=by
 rcases h with⟨h,_⟩|h
 ·omega
 ·exact h
theorem Q2 {W H:Nat} {M:Nat→Bool} {C:Nat→Nat} {p:Nat} {ls:List Int} {now next:List Nat} (h:GH W H M C p 0 ls now next):GI W H M C p 0 ls now next X0:=by
 rcases h with⟨_,h⟩|⟨h,_⟩
 ·exact h
 ·omega
theorem VX {W H:Nat} {M:Nat→Bool} {C:Nat→Nat} {p n:Nat} {ls:List Int} {now next:List Nat} (h:GH W H M C p n ls now next):ls.length=W*H:=by
 rcases h with⟨_,h⟩|⟨_,_,h⟩<;>exact h.len
theorem Y6 {W H:Nat} {M:Nat→Bool} {C:Nat→Nat} {p n:Nat} {ls:List Int} {now next:List Nat} (h:GH W H M C p n ls now next):5*kG ls+now.length+next.length≤5*(W*H)+1:=by
 rcases h with⟨_,h⟩|⟨_,rfl,h⟩<;>exact h.bd
theorem MT {W H:Nat} {M:Nat→Bool} {C:Nat→Nat} {p n:Nat} {ls:List Int} {now next:List Nat} (h:GH W H M C p n ls now next) (hk:now.length+next.length=0):GI W H M C p (n-1) ls [] [] X0:=by
 have h1:now=[]:=eV (by omega)
 have h2:next=[]:=eV (by omega)
 subst h1;subst h2
 rcases h with⟨rfl,h⟩|⟨_,_,h⟩<;>exact h
theorem IL {W H:Nat} {M:Nat→Bool} {C:Nat→Nat} {p n:Nat} {ls ls2:List Int} {now next next2:List Nat} (h:GH W H M C p n ls now next) (hpr:kG ls2<kG ls∨n=0∨next2=[]) (hle:kG ls2≤kG ls) (hk:(0:Int)<(now.length:Int)+(next.length:Int)):XE (n+1) ls2 next2.length<XE n ls (now.length+next.length):=by
 unfold XE
 rw[if_neg (by omega:¬now.length+next.length=0),if_neg (by omega:¬n+1=0)]
 rcases hpr with z|z|z
 ·split<;>split<;>omega
 ·subst z;rw[if_pos rfl];split<;>omega
 ·subst z;simp;split<;>omega
theorem Jk {l:List Nat} (h:0<l.length):∃i r,l=i++[r]:=by
 rcases List.eq_nil_or_concat l with q|⟨i,r,q⟩
 ·subst q;simp at h
 ·exact⟨i,r,by rw[q,List.concat_eq_append]⟩
theorem Gp.src {W H:Nat} {M:Nat→Bool} {C:Nat→Nat} {p n q:Nat} (h:Gp W H M C p n q):M p=true:=by induction h with|start h=>exact h|step _ _ _ ih=>exact ih
theorem Py (g:eo) (vs:List Span) (pv:Option Addr) (cv:Nat) (lv:Int) (p n:Nat) (now nxt:List Nat) (pn:Option Addr) (cn:Nat) (px:Option Addr) (cx bs_ bn bx:Nat) (w:World) (hh:Has w (Ar bn pn cn now bx px cx nxt)) (hsc:∀{L:List dg} {v:World},St ⟨w,mG (Ar bn pn cn now bx px cx nxt)⟩ L v→fG v ⟨bs_,0,none⟩ [.int .i64 g.x,.int .i64 g.y,.int .i64 g.size,.int .i64 g.wide,.int .i64 g.high,.slice pv vs.length cv,.int .i64 lv]∧fL v pv vs) (hp:p<vs.length) (hb:now.length≤1000000∧nxt.length≤1000000):
 Calls af 54 #[.int .i64 (p:Int),.int .i64 (n:Int),.pointer (some ⟨bs_,0,none⟩),.pointer (some ⟨bn,0,none⟩),.pointer (some ⟨bx,0,none⟩)] w fun e w'=>∃y:acb,True∧e= .returned (.tuple #[])∧St ⟨w,mG (Ar bn pn cn now bx px cx nxt)⟩ (Ar bn y.pn y.cn (mV vs lv now p) bx y.px y.cx (oK vs lv nxt p)) w':=by
 refine oL (vs:=[_,_,_,_,_]) (env:=[(0,_),(1,_),(2,_),(3,_),(4,_)]) hh.enter Tryz.func54 rfl rfl rfl rfl ?_
 refine av<|au (ah (aX (vs:=[_,_,_,_,_,_,_]) wv (.r rfl) (fun _ hw=>bI (off:=0) (hsc hw).1 ⟨_,rfl⟩) rfl) rfl<|ag rfl<|ah (bK (xs:=[_,_]) (vs:=[_,_]) C51 ⟨(.r rfl),(.r rfl),trivial⟩ (fun w2 hw=>RH g vs pv cv lv p w2 (hsc hw).2 hp)) rfl<|aq<|ay rfl (fun h9=>?_) (fun h9=>?_))
 ·
  refine au (cL 0 iL rfl rfl ⟨_,rfl⟩ rfl<|ag rfl<|aB rfl<|eW (ps:=[(_,_)]) (vs:=[(_,_)]) (Z:=[_]) (C:=[_]) fk Z3 N3 ⟨(.r rfl),trivial⟩ rfl rfl rfl rfl ⟨_,[_],[_],rfl,rfl,rfl,rfl,rfl⟩ fun b5=>aB rfl<|eP (p) 2 0 (fun R=>[_,_,R,_,_]) fk fk I3 (.r rfl) (.r rfl) rfl rfl rfl rfl rfl rfl rfl (fun _=>rfl) rfl (by omega) fun p3 c3=>cu<|cq 1 (vs:=[_]) (C':=[_]) (L':=[_,_,_,_,_]) qL rfl rfl rfl rfl rfl rfl rfl rfl<|aq<|be (VE.dB (dh (vs:=[]) rfl trivial (fun w hw=>?_))))
  have e1:=(DC (l:=now) h9).1
  have e2:=(DC (l:=nxt) h9).2
  rw[←e1, ←e2]
  exact⟨⟨p3,c3,px,cx⟩,trivial,rfl,dq [1,2,3,4] rfl rfl _ hw⟩
 ·
  refine aE (aj<|aM (cL 2 iL rfl rfl ⟨_,rfl⟩ rfl<|ag rfl<|aB rfl<|eW (ps:=[(_,_)]) (vs:=[(_,_)]) (Z:=[_]) (C:=[_]) fk Z3 N3 ⟨(.r rfl),trivial⟩ rfl rfl rfl rfl ⟨_,[_],[_],rfl,rfl,rfl,rfl,rfl⟩ fun b7=>aB rfl<|eP (p) 4 0 (fun R=>[_,_,_,_,R]) fk fk I3 (.r rfl) (.r rfl) rfl rfl rfl rfl rfl rfl rfl (fun _=>rfl) rfl (by omega) fun p3 c3=>cu<|cq 3 (vs:=[_]) (C':=[_]) (L':=[_,_,_,_,_]) qL rfl rfl rfl rfl rfl rfl rfl rfl<|aN<|VE.D5 (vs:=[]) rfl trivial (fun w hw=>?_)))
  have e1:=(CU (l:=now) h9).1
  have e2:=(CU (l:=nxt) h9).2
  rw[←e1, ←e2]
  exact⟨⟨pn,cn,p3,c3⟩,trivial,rfl,dq [1,2,3,4] rfl rfl _ hw⟩
theorem MQ (g:eo) (vs:List Span) (pv:Option Addr) (cv:Nat) (lv:Int) (p q:Nat) (w:World) (hv:fL w pv vs) (hpx:E8 g vs lv p q=0):
 Calls af 19 #[im g pv vs.length cv,.int .i64 lv,.int .i64 (p:Int),.int .i64 (q:Int)] w fun e w'=>∃z:Int,IM (gW g) (gH g) (et vs lv) (Cb vs lv) p q z∧e= .returned (.tuple #[.int .i64 z,.int .i64 0])∧St (bs w) [] w':=by
 obtain⟨hok,a,b,ea,eb,ha,hb⟩:=PC hpx
 have hp:p<vs.length:=by omega
 have hq:q<vs.length:=by omega
 obtain⟨hg,hlen,hok2,hlv1,hlv2⟩:=oO hok
 have hvl:vs.length=gW g*gH g:=AS hg hlen
 have har:=iM hg
 obtain⟨hW,hH,hW1,hW2,hH1,hH2⟩:=An hg
 refine enter (vs:=[_,_,_,_]) (env:=[(0,_),(1,_),(2,_),(3,_)]) Tryz.func19 rfl rfl rfl rfl ?_
 refine au (aB rfl<|c8 (C:=#[_,_,_,_,_,_]) rfl rfl fun b1=>ax rfl<|ax rfl<|aq<|au (ah (aX (vs:=[_,_,_,_,_,_]) oy (.r rfl) (aF 0 rfl ⟨_,rfl⟩) rfl) rfl<|ag rfl<|ag rfl<|ag rfl<|ah (bK (xs:=[_,_,_,_]) (vs:=[_,_,_,_]) C49 ⟨(.r rfl),(.r rfl),(.r rfl),(.r rfl),trivial⟩ (fun w hw=>Be g vs pv cv lv _ _ w (hv.b0 w hw) hpx)) rfl<|ag rfl<|ah (cU (.r rfl) rfl) rfl<|ah (cU (.r rfl) rfl) rfl<|aB rfl<|cJ (C:=#[_,_,_,_,_,_,_]) Ka rfl fun b2=>cu<|cq 0 (vs:=[_,_,_,_,_,_,_]) (C':=[_,_,_,_,_,_,_]) (L':=[_,_]) KA rfl rfl rfl rfl rfl rfl rfl rfl<|ax rfl<|aq<|av ?_))
 refine aD<|au (ag rfl<|VO.u rfl<|ax rfl<|aq<|ay rfl (fun h27=>?_) (fun h27=>?_))
 · (exfalso;exact h27 rfl)
 ·
  refine au (ah (aX (vs:=[_,_,_,_,_,_,_]) wv (.r rfl) (aF 0 rfl ⟨_,rfl⟩) rfl) rfl<|ag rfl<|ah (bK (xs:=[_,_]) (vs:=[_,_]) Yr ⟨(.r rfl),(.r rfl),trivial⟩ (fun w hw=>DS g vs pv cv lv p w (hv.b0 w hw) hp)) rfl<|ah (LO.not (.r rfl)) rfl<|ax rfl<|aq<|ay rfl (fun h31=>?_) (fun h31=>?_))
  ·
   refine au (ax rfl<|ax rfl<|aq<|be (VE.mq (VE.dB (dh (vs:=[_,_]) rfl ⟨rfl,rfl,trivial⟩ (fun w hw=>?_)))))
   first |exact⟨-1,.inl ⟨rfl,fun n hg=>(by have z:=Gp.src hg;simp_all)⟩,rfl,hw.nil⟩|exact⟨_,(MT hG0 (by omega)).gap (by omega) (by omega),rfl,St.DV hst1 hw⟩
  ·
   have hM:et vs lv p=true:=by simpa using h31
   refine aE (bB (aj<|av<|VC.nF fun w1 hst1=>?_))
   have hfl:fG w1 ⟨b1,0,none⟩ [.int .i64 g.x,.int .i64 g.y,.int .i64 g.size,.int .i64 g.wide,.int .i64 g.high,.slice pv vs.length cv]:=dQ (hst1.inv 1 _ rfl)
   have hsh:fG w1 ⟨b2,0,none⟩ [.int .i64 g.x,.int .i64 g.y,.int .i64 g.size,.int .i64 g.wide,.int .i64 g.high,.slice pv vs.length cv,.int .i64 lv]:=dQ (hst1.inv 0 _ rfl)
   have hv1:=hv.b0 w1 hst1
   refine aM (aB rfl<|eW (ps:=[(_,_)]) (vs:=[(_,_)]) (Z:=[_]) (C:=[_]) fk Z3 N3 ⟨(.r rfl),trivial⟩ rfl rfl rfl rfl ⟨_,[_],[_],rfl,rfl,rfl,rfl,rfl⟩ fun b4=>bO (r:=5) lN rfl<|ah (aC zH (.r rfl) (bj (bI (off:=5) hfl ⟨_,rfl⟩))) rfl<|ah (bE xq (.r rfl) rfl) rfl<|aB rfl<|cd (xs:=[_,_]) (vs:=[_,_]) C53 ⟨(.r rfl),(.r rfl),trivial⟩ (fun w hw=>zJ (-1) _ 1 vs.length w (yF 0 hw rfl) (by omega)) fun x _=>aB rfl<|cJ (C:=#[_]) Qt rfl fun b6=>cu<|cq 0 (vs:=[_]) (C':=[_]) (L':=[_,_,_]) qL rfl rfl rfl rfl rfl rfl rfl rfl<|aN ?_)
   rw[show bH vs.length (-1:Int)=bH (gW g*gH g) (-1) from by rw[hvl]]
   refine aj<|av<|VC.dm0<|aM (aB rfl<|cJ (C:=#[_]) Qt rfl fun b9=>aB rfl<|cJ (C:=#[_]) Qt rfl fun b10=>aq<|au (aB rfl<|aW (LO.mf (cap:=[_,_,_]) ⟨(.r rfl),(.r rfl),(.r rfl),trivial⟩)<|aB rfl<|cJ (C:=#[_]) abK rfl fun b11=>cu<|cq 0 (vs:=[_]) (C':=[_]) (L':=[_,_,_,_,_,_,_]) acj rfl rfl rfl rfl rfl rfl rfl rfl<|aN ?_))
   refine aj<|av<|iv (fun w hw=>(hw.fX 3 1).fX 3 1) ?_
   show VC _ _ _ _ _ _ (own 3 1 none 0 (([]:List Nat).map nC)::own 3 1 none 0 (([]:List Nat).map nC)::_) _ _
   refine aM (cL 2 Vg rfl rfl ⟨_,rfl⟩ rfl<|ag rfl<|aB rfl<|HO.oU (first:=[]) (cap:=[_,_,_]) (xs:=[_,_]) (vs:=[_,_]) [_,_,_,_] [_,_,_,_,_] (dq (L1:=[_,_,_,_]++[_,_,_,_,_]) [4,0,3,1,2,5,6,7,8] rfl rfl) (.r rfl) C54 ⟨(.r rfl),(.r rfl),trivial⟩ (fun w hw hh=>Py g vs pv cv lv p _ [] [] none 0 none 0 b2 b9 b10 w hh (fun hs=>⟨bj hsh _ (iH (R:=Ar b9 none 0 [] b10 none 0 []) (rest:=[_,_,_,_,_]) (dq [4,0,3,1,2,5,6,7,8] rfl rfl _ hw) hs),hv1.b0 _ (iH (R:=Ar b9 none 0 [] b10 none 0 []) (rest:=[_,_,_,_,_]) (dq [4,0,3,1,2,5,6,7,8] rfl rfl _ hw) hs)⟩) (hp) (by decide)) fun y1 _=>aq<|av<|au (aB rfl<|cJ (C:=#[_]) Z3 rfl fun b21=>cu<|cq 0 (vs:=[_]) (C':=[_]) (L':=[_,_,_,_,_,_,_,_,_,_]) N3 rfl rfl rfl rfl rfl rfl rfl rfl<|aq<|aD ?_))
   refine gw [8,1,2,3,4,0,6,5,7,9] rfl<|VC.Dh (α:=Nat×(List Int)×(List Nat)×(List Nat)×(Option Addr)×Nat×(Option Addr)×Nat×Nat×(List Nat)) 7 (fun gx=>[(16,.pointer (some ⟨gx.2.2.2.2.2.2.2.2.1,0,none⟩))]) [(3,_),(4,_),(10,_),(12,_),(13,_),(14,_),(15,_)] (fun gx=>[own 3 1 x.1 x.2 (gx.2.1.map iC),gq b9 (.cells #[.slice gx.2.2.2.2.1 gx.2.2.1.length gx.2.2.2.2.2.1] 55),own 3 1 gx.2.2.2.2.1 gx.2.2.2.2.2.1 (gx.2.2.1.map nC),gq b10 (.cells #[.slice gx.2.2.2.2.2.2.1 gx.2.2.2.1.length gx.2.2.2.2.2.2.2.1] 55),own 3 1 gx.2.2.2.2.2.2.1 gx.2.2.2.2.2.2.2.1 (gx.2.2.2.1.map nC),gq gx.2.2.2.2.2.2.2.2.1 (.cells #[.int .i64 (gx.1:Int)] 3),Db gx.2.2.2.2.2.2.2.2.2]) (fun gx=>gx.2.2.2.2.2.2.2.2.2) (fun gx=>GH (gW g) (gH g) (et vs lv) (Cb vs lv) p gx.1 gx.2.1 gx.2.2.1 gx.2.2.2.1∧gx.1+XE gx.1 gx.2.1 (gx.2.2.1.length+gx.2.2.2.1.length)≤2*(gW g*gH g)+3) (fun gx=>XE gx.1 gx.2.1 (gx.2.2.1.length+gx.2.2.2.1.length)) (0,(bH (gW g*gH g) (-1)),(mV vs lv [] p),(oK vs lv [] p),y1.pn,y1.cn,y1.px,y1.cx,b21,[]) rfl (by exact⟨.inl ⟨rfl,Ry (by omega) hM⟩,by unfold XE;rw[vX];dsimp only;split<;>split<;>omega⟩) (.c4 rfl rfl rfl rfl (.c4 rfl rfl rfl rfl .nil)) (fun _ h=>h) ?_
   rintro ⟨n,ls,now,next,pn,cn,px,cx,bn,Ds⟩ ⟨hG0,hmu⟩
   show VC _ _ _ _ _ ([(16,.pointer (some ⟨bn,0,none⟩))]++_) ([own 3 1 x.1 x.2 (ls.map iC),gq b9 (.cells #[.slice pn now.length cn] 55),own 3 1 pn cn (now.map nC),gq b10 (.cells #[.slice px next.length cx] 55),own 3 1 px cx (next.map nC),gq bn (.cells #[.int .i64 (n:Int)] 3),Db Ds]++_) _ _
   dsimp only at hG0 hmu
   have hll:=VX hG0
   have hnb:n≤2*(gW g*gH g)+3:=by omega
   have hbd0:=Y6 hG0
   refine av<|au (cL 1 iL rfl rfl ⟨_,rfl⟩ rfl<|ah (bE fk (.r rfl) rfl) rfl<|cL 3 iL rfl rfl ⟨_,rfl⟩ rfl<|ah (bE fk (.r rfl) rfl) rfl<|da rfl rfl (by omega) (by omega) rfl<|ah (gu (.r rfl) (.r rfl)) rfl<|aq<|ay rfl (fun h50=>?_) (fun h50=>?_))
   ·
    refine aE (aj<|av<|aD<|av<|au (cL 5 O3 rfl rfl ⟨_,rfl⟩ rfl<|ah (gu (.r rfl) (.r rfl)) rfl<|aq ?_))
    refine ay rfl (fun h54=>?_) (fun h54=>?_)
    ·
     obtain⟨hn1,hn2,hG⟩:=Wg (by omega) hG0
     subst hn2
     have hGs:=hG.swap
     rw[show n-1+1=n by omega]at hGs
     refine aM (cL 3 iL rfl rfl ⟨_,rfl⟩ rfl<|cu<|cq 1 (vs:=[_]) (C':=[_]) (L':=[_,_,_,_,_,_,_,_,_,_]) qL rfl rfl rfl rfl rfl rfl rfl rfl<|cu<|cq 3 (vs:=[_]) (C':=[_]) (L':=[_,_,_,_,_,_,_,_,_,_]) qL rfl rfl rfl rfl rfl rfl rfl rfl<|aq<|aD<|iv (fun w hw=>hw.fX 3 1) ?_)
     show VC _ _ _ _ _ _ (own 3 1 none 0 (([]:List Nat).map nC)::_) _ _
     refine gw [1,2,5,4,0,7,3,6,8,9,10] rfl<|VC.Dh (α:=(List Int)×(List Nat)×(List Nat)×(Option Addr)×Nat×(Option Addr)×Nat×(List Nat)) 6 (fun gx=>[]) [(3,_),(4,_),(10,_),(12,_),(13,_),(14,_),(15,_),(16,_)] (fun gx=>[own 3 1 x.1 x.2 (gx.1.map iC),gq b9 (.cells #[.slice gx.2.2.2.1 gx.2.1.length gx.2.2.2.2.1] 55),own 3 1 gx.2.2.2.1 gx.2.2.2.2.1 (gx.2.1.map nC),gq b10 (.cells #[.slice gx.2.2.2.2.2.1 gx.2.2.1.length gx.2.2.2.2.2.2.1] 55),own 3 1 gx.2.2.2.2.2.1 gx.2.2.2.2.2.2.1 (gx.2.2.1.map nC),Db gx.2.2.2.2.2.2.2]) (fun gx=>gx.2.2.2.2.2.2.2) (fun gx=>GI (gW g) (gH g) (et vs lv) (Cb vs lv) p n gx.1 gx.2.1 gx.2.2.1 X0∧kG gx.1≤kG ls∧(kG gx.1<kG ls∨n=0∨gx.2.2.1=[])) (fun gx=>5*kG gx.1+gx.2.1.length) (ls,next,[],px,cx,none,0,Ds) rfl (by exact⟨hGs,cg _,by first |exact .inr (.inl hn0)|exact .inr (.inr rfl)⟩) (.c4 rfl rfl rfl rfl (.c4 rfl rfl rfl rfl .nil)) (fun _ h=>h) ?_
     rintro ⟨ls2,now2,next2,pn2,cn2,px2,cx2,Ds2⟩ ⟨hG2,hle,hpr⟩
     show VC _ _ _ _ _ ([]++_) ([own 3 1 x.1 x.2 (ls2.map iC),gq b9 (.cells #[.slice pn2 now2.length cn2] 55),own 3 1 pn2 cn2 (now2.map nC),gq b10 (.cells #[.slice px2 next2.length cx2] 55),own 3 1 px2 cx2 (next2.map nC),Db Ds2]++_) _ _
     dsimp only at hG2 hle hpr
     have hll2:=hG2.len
     have hbd2:=hG2.bd
     refine av<|au (cL 1 iL rfl rfl ⟨_,rfl⟩ rfl<|ah (bE fk (.r rfl) rfl) rfl<|ah (gu (.r rfl) (.r rfl)) rfl<|aq<|ay rfl (fun h58=>?_) (fun h58=>?_))
     ·
      obtain⟨ini,r,hnr⟩:=Jk (l:=now2) (by omega)
      subst hnr
      have hrm:=hG2.Aw r (by simp)
      have hil:(ini++[r]).length=ini.length+1:=by simp
      refine aE (aj<|aD<|av<|VC.T3 (fun w hw=>Ji hw 2 rfl) fun hcap=>?_)
      rw[ak,aJ,bu]at hcap
      refine aM (cL 1 iL rfl rfl ⟨_,rfl⟩ rfl<|cL 1 iL rfl rfl ⟨_,rfl⟩ rfl<|ah (bE fk (.r rfl) rfl) rfl<|ah (gz (.r rfl) (.r rfl) (wi (by rw[aJ,bu];omega) (by rw[aJ,bu];omega))) rfl<|ah (cy fk N3 (fun _ hw=>(bL hw 2 rfl).some (by rw[ak])) (.r rfl) (.r rfl) (j:=ini.length) (by rw[aJ,bu];omega) (by rw[aJ,bu];omega)) rfl<|ah (aC O3 (.r rfl) (fun w hw=>aA (off:=0) (cO hw 2 rfl DX) ⟨_,rfl⟩)) rfl<|ax rfl<|aq<|au (cL 1 iL rfl rfl ⟨_,rfl⟩ rfl<|cL 1 iL rfl rfl ⟨_,rfl⟩ rfl<|ah (bE fk (.r rfl) rfl) rfl<|ah (gz (.r rfl) (.r rfl) (wi (by rw[aJ,bu];omega) (by rw[aJ,bu];omega))) rfl<|ah (LO.slH (k:=ini.length) fk N3 (.r rfl) (.r rfl) (by rw[aJ,bu];omega) (by omega)) rfl<|cu<|cq 1 (vs:=[_]) (C':=[_]) (L':=[_,_,_,_,_,_,_,_,_,_,_]) qL rfl rfl rfl rfl rfl rfl rfl rfl<|aq<|av<|av ?_))
      rw[bG]
      refine iv (fun w hw=>St.Px hw 2 rfl) ?_
      show VC _ _ _ _ _ _ [_,_,own 3 1 pn2 cn2 (ini.map nC),_,_,_,_,_,_,_,_] _ _
      refine aM (cL 9 iL rfl rfl ⟨_,rfl⟩ rfl<|ag rfl<|ah (cy fk N3 (fun _ hw=>(bL hw 0 rfl).some (by rw[ak];omega)) (.r rfl) (.r rfl) rfl (by omega)) rfl<|ah (aC O3 (.r rfl) (fun w hw=>aA (off:=0) (cO hw 0 rfl (yK (by omega))) ⟨_,rfl⟩)) rfl<|ah (LO.ge (.r rfl) (.r rfl)) rfl<|aq<|ay rfl (fun h74=>?_) (fun h74=>?_))
      ·
       have hGk:=hG2.skip h74
       refine bU (aH (cB<|aZ fun a w ha hw=>⟨(ls2,ini,next2,pn2,cn2,px2,cx2,Ds2),⟨hGk,hle,hpr⟩,(by dsimp only;rw[aJ,bu];omega),ha.sub (.c4 rfl rfl rfl rfl (.c4 rfl rfl rfl rfl .nil)),hw⟩))
      ·
       have hrn:ls2.getD r (-1)<0:=by omega
       obtain⟨hGp,hU⟩:=hG2.put hrn
       have hbd:=hG2.bd
       rw[aJ,bu]at hbd
       have hls3:=hGp.len
       refine aE (aj<|au (cL 9 iL rfl rfl ⟨_,rfl⟩ rfl<|ag rfl<|cL 7 O3 rfl rfl ⟨_,rfl⟩ rfl<|ah (cy fk N3 (fun _ hw=>(bL hw 0 rfl).some (by rw[ak];omega)) (.r rfl) (.r rfl) rfl (by omega)) rfl<|cu<|iV 0 (fun R=>[R,_,_,_,_,_,_,_,_,_,_]) (((n:Nat):Int)) (vs:=[_]) N3 (.r rfl) (.r rfl) rfl (by omega) rfl rfl rfl rfl rfl (fun _=>rfl)<|aq<|au (bO (r:=0) lO rfl<|ah (aX (vs:=[_,_,_,_,_]) qw (.r rfl) (bj (bI (off:=0) hfl ⟨_,rfl⟩)) rfl) rfl<|ag rfl<|aB rfl<|cd (xs:=[_,_]) (vs:=[_,_]) C55 ⟨(.r rfl),(.r rfl),trivial⟩ (fun w hw=>zm g r w) fun ya _=>aq ?_)))
       refine aD<|VC.ue (α:=(List Nat)×(List Nat)×(Option Addr)×Nat×(Option Addr)×Nat) [_,_,_,_,_,_,_,_] (fun gx=>[gq b9 (.cells #[.slice gx.2.2.1 gx.1.length gx.2.2.2.1] 55),own 3 1 gx.2.2.1 gx.2.2.2.1 (gx.1.map nC),gq b10 (.cells #[.slice gx.2.2.2.2.1 gx.2.1.length gx.2.2.2.2.2] 55),own 3 1 gx.2.2.2.2.1 gx.2.2.2.2.2 (gx.2.1.map nC)]) (fun n_ gx=>GI (gW g) (gH g) (et vs lv) (Cb vs lv) p n (ls2.set r ((n:Nat):Int)) gx.1 gx.2.1 (XN (gW g) (gH g) r n_)∧gx.1.length+gx.2.1.length≤ini.length+next2.length+n_∧gx.1.length≤ini.length+n_) (fun _ _ _=>False) (ini,next2,pn2,cn2,px2,cx2) (fun vs=>[(10,.pointer (some ⟨b2,0,none⟩)),(12,.pointer (some ⟨b6,0,none⟩)),(15,.pointer (some ⟨b11,0,none⟩)),(16,.pointer (some ⟨bn,0,none⟩)),(18,vs.getD 0 (.int .i64 0))]) rfl C87 (ur g r ya.1 ya.2 hg hrm.1) (dq [3,4,5,6,0,1,2,8,9,10,11,12,7] rfl rfl) (⟨hGp,by dsimp only;omega,by dsimp only;omega⟩) (fun vs hv=>by obtain⟨n,_,rfl⟩:=bN.1 hv;rfl) (by decide) (fun n x w _ h=>⟨dQ (h 4 _ rfl),dQ (h 5 _ rfl)⟩) ?_ ?_ ?_ (fun _ _ _ _ _ h=>h.elim)
       ·
        rintro n_ ⟨now3,next3,pn3,cn3,px3,cx3⟩ vs__ l_ T w1 hI hxs hst
        obtain⟨t,ht,rfl⟩:∃r_,(nb (gW g) (gH g) r)[n_]? =some r_∧nC r_=vs__:=by rw[aI]at hxs;cases hz:(nb (gW g) (gH g) r)[n_]? with|none=>(rw[hz]at hxs;cases hxs)|some r=>(rw[hz]at hxs;exact⟨r,rfl,eI hxs⟩)
        obtain⟨hG3,hb3,hb5⟩:=hI
        dsimp only at hG3 hb3 hb5
        have htl:=oz hrm.1 (al ht)
        have hn4:n_<4:=dZ (an.1 ht).1 vW
        have hrr:(ls2.set r ((n:Nat):Int)).getD r (-1)=n:=by rw[oB (by omega),if_pos rfl]
        show VC _ _ _ _ _ _ ([gq b9 (.cells #[.slice pn3 now3.length cn3] 55),own 3 1 pn3 cn3 (now3.map nC),gq b10 (.cells #[.slice px3 next3.length cx3] 55),own 3 1 px3 cx3 (next3.map nC),_,_,_,_,_,_,_,_]++T) _ _
        refine aM (ax rfl<|aN ?_)
        exact fun a w ha hw=>⟨rfl,ha.sub (.c4 rfl rfl rfl rfl (.cons rfl .nil)),hw⟩
       ·
        rintro n_ ⟨now3,next3,pn3,cn3,px3,cx3⟩ vs__ l_ T w1 hI hxs hst
        obtain⟨t,ht,rfl⟩:∃r_,(nb (gW g) (gH g) r)[n_]? =some r_∧nC r_=vs__:=by rw[aI]at hxs;cases hz:(nb (gW g) (gH g) r)[n_]? with|none=>(rw[hz]at hxs;cases hxs)|some r=>(rw[hz]at hxs;exact⟨r,rfl,eI hxs⟩)
        obtain⟨hG3,hb3,hb5⟩:=hI
        dsimp only at hG3 hb3 hb5
        have htl:=oz hrm.1 (al ht)
        have hn4:n_<4:=dZ (an.1 ht).1 vW
        have hrr:(ls2.set r ((n:Nat):Int)).getD r (-1)=n:=by rw[oB (by omega),if_pos rfl]
        show VC _ _ _ _ _ _ ([gq b9 (.cells #[.slice pn3 now3.length cn3] 55),own 3 1 pn3 cn3 (now3.map nC),gq b10 (.cells #[.slice px3 next3.length cx3] 55),own 3 1 px3 cx3 (next3.map nC),_,_,_,_,_,_,_,_]++T) _ _
        refine aD<|au (ah (aX (vs:=[_,_,_,_,_,_,_]) wv (.r rfl) (fun _ hw=>bI (off:=0) (bj hsh _ (hst.back hw)) ⟨_,rfl⟩) rfl) rfl<|ag rfl<|ah (bK (xs:=[_,_]) (vs:=[_,_]) Yr ⟨(.r rfl),(.r rfl),trivial⟩ (fun w2 hw2=>DS g vs pv cv lv t w2 (hv1.b0 _ (hst.back hw2)) (by omega))) rfl<|ag rfl<|bh rfl (fun hg=>aC iL (.r rfl) (aF 10 rfl ⟨_,rfl⟩))<|bh rfl (fun hg=>aS (.r rfl))<|bh rfl (fun hg=>cy fk N3 (fun _ hw=>(bL hw 6 rfl).some (by rw[ak];omega)) (.g hg rfl) (.g hg rfl) rfl (by omega))<|bh rfl (fun hg=>aC O3 (.g hg rfl) (fun w hw=>aA (off:=0) (cO hw 6 rfl (yK (by omega))) ⟨_,rfl⟩))<|bh rfl (fun hg=>LO.lt (.g hg rfl) (.r rfl))<|ah (e7 (.r rfl) rfl rfl (.r rfl)) rfl<|aq<|ay rfl (fun h93=>?_) (fun h93=>?_))
        ·
         have h93b:et vs lv t=true∧(ls2.set r ((n:Nat):Int)).getD t (-1)<0:=by simpa using h93
         refine aM (cL 9 Vg rfl rfl ⟨_,rfl⟩ rfl<|ag rfl<|cL 8 O3 rfl rfl ⟨_,rfl⟩ rfl<|aB rfl<|HO.oU (first:=[]) (cap:=[_,_,_]) (xs:=[_,_]) (vs:=[_,_]) [_,_,_,_] ([_,_,_,_,_,_,_,_]++T) (rR (L:=[_,_,_,_,_,_,_,_,_,_,_,_]) (L1:=[_,_,_,_]) (L2:=[_,_,_,_,_,_,_,_]) (X:=T) [0,1,2,3,4,5,6,7,8,9,10,11] rfl rfl rfl) (.r rfl) C54 ⟨(.r rfl),(.r rfl),trivial⟩ (fun w hw hh=>Py g vs pv cv lv t _ now3 next3 pn3 cn3 px3 cx3 b2 b9 b10 w hh (fun hs=>⟨bj hsh _ (hst.back (iH (R:=Ar b9 pn3 cn3 now3 b10 px3 cx3 next3) (rest:=[_,_,_,_,_,_,_,_]++T) (rR (L:=[_,_,_,_,_,_,_,_,_,_,_,_]) (L1:=[_,_,_,_]) (L2:=[_,_,_,_,_,_,_,_]) (X:=T) [0,1,2,3,4,5,6,7,8,9,10,11] rfl rfl rfl _ hw) hs)),hv1.b0 _ (hst.back (iH (R:=Ar b9 pn3 cn3 now3 b10 px3 cx3 next3) (rest:=[_,_,_,_,_,_,_,_]++T) (rR (L:=[_,_,_,_,_,_,_,_,_,_,_,_]) (L1:=[_,_,_,_]) (L2:=[_,_,_,_,_,_,_,_]) (X:=T) [0,1,2,3,4,5,6,7,8,9,10,11] rfl rfl rfl _ hw) hs))⟩) (by omega) (by omega)) fun y3 _=>aN<|bB ?_)
         exact fun a w ha hw=>⟨(mV vs lv now3 t,oK vs lv next3 t,y3.pn,y3.cn,y3.px,y3.cx),⟨GI.TO hG3 (by omega) hrm.1 hrr ht h93b.1,by have:=Jg (vs:=vs) (lv:=lv) (now:=now3) (nxt:=next3) (p:=t);dsimp only;omega,by have:=Br (vs:=vs) (lv:=lv) (l:=now3) (p:=t);dsimp only;omega⟩,rR (L:=[_,_,_,_,_,_,_,_,_,_,_,_]) (L1:=[_,_,_,_,_,_,_,_,_,_,_,_]) (L2:=[]) (X:=T) [0,1,2,3,4,5,6,7,8,9,10,11] rfl rfl rfl w hw⟩
        ·
         have h93b:¬(et vs lv t=true∧(ls2.set r ((n:Nat):Int)).getD t (-1)<0):=by simpa using h93
         refine aE (bB ?_)
         exact fun a w ha hw=>⟨(now3,next3,pn3,cn3,px3,cx3),⟨hG3.Oq hrm.1 hrr ht h93b,by dsimp only;omega,by dsimp only;omega⟩,rR (L:=[_,_,_,_,_,_,_,_,_,_,_,_]) (L1:=[_,_,_,_,_,_,_,_,_,_,_,_]) (L2:=[]) (X:=T) [0,1,2,3,4,5,6,7,8,9,10,11] rfl rfl rfl w hw⟩
       ·
        rintro D_ ⟨now3,next3,pn3,cn3,px3,cx3⟩ hI
        obtain⟨hG3,hb3,hb5⟩:=hI
        dsimp only at hG3 hb3 hb5
        have hnl:((nb (gW g) (gH g) r).map nC).length≤4:=by rw[ak];exact vW
        have hGd:=hG3.Of (by rw[ak];exact cg _)
        have hb4:=hGd.bd
        show VE _ _ _ _ [gq b9 (.cells #[.slice pn3 now3.length cn3] 55),own 3 1 pn3 cn3 (now3.map nC),gq b10 (.cells #[.slice px3 next3.length cx3] 55),own 3 1 px3 cx3 (next3.map nC),_,_,_,_,_,_,_,_,_] _ _
        refine bB (bB<|aZ fun a w ha hw=>⟨((ls2.set r ((n:Nat):Int)),now3,next3,pn3,cn3,px3,cx3,D_::Ds2),⟨hGd,by dsimp only;omega,.inl (by dsimp only;omega)⟩,(by dsimp only;rw[aJ,bu];omega),ha.sub (.c4 rfl rfl rfl rfl (.c4 rfl rfl rfl rfl .nil)),hw.gY [6,0,1,2,3,12,7,8,9,10,11] rfl⟩)
     ·
      have hnow:now2=[]:=eV (by omega)
      subst hnow
      refine bU (aH (aH (cB (bB (aj<|av<|au (cL 7 O3 rfl rfl ⟨_,rfl⟩ rfl<|aq<|aM (aB rfl<|cJ (C:=#[_]) Z3 rfl fun b76=>cu<|cq 0 (vs:=[_]) (C':=[_]) (L':=[_,_,_,_,_,_,_,_,_,_,_,_]) N3 rfl rfl rfl rfl rfl rfl rfl rfl<|aq ?_)))))))
      refine aM (cL 0 O3 rfl rfl ⟨_,rfl⟩ rfl<|da rfl rfl (by omega) (by omega) rfl<|cu<|cq 0 (vs:=[_]) (C':=[_]) (L':=[_,_,_,_,_,_,_,_,_,_,_,_]) N3 rfl rfl rfl rfl rfl rfl rfl rfl<|aN<|aZ fun a w ha hw=>⟨(n+1,ls2,[],next2,pn2,cn2,px2,cx2,b76,Ds2),⟨.inr ⟨Nat.succ_pos _,rfl,by rw[lz];exact hG2⟩,by have hm_:=IL hG0 hpr hle h50;dsimp only;simp only[lY,fF]at hm_ hmu ⊢;omega⟩,(by have hm_:=IL hG0 hpr hle h50;dsimp only;simp only[lY,fF]at hm_ hmu ⊢;omega),ha.sub (.c4 rfl rfl rfl rfl (.c4 rfl rfl rfl rfl .nil)),hw.gY [1,2,3,4,5,0,6,9,10,11] rfl⟩)
    ·
     have hn0:n=0:=by omega
     have hGs:GI (gW g) (gH g) (et vs lv) (Cb vs lv) p n ls now next X0:=by have z:=hG0;rw[hn0]at z ⊢;exact Q2 z
     refine aE (aj<|aD<|gw [0,1,2,3,4,6,5,7,8,9] rfl<|VC.Dh (α:=(List Int)×(List Nat)×(List Nat)×(Option Addr)×Nat×(Option Addr)×Nat×(List Nat)) 6 (fun gx=>[]) [(3,_),(4,_),(10,_),(12,_),(13,_),(14,_),(15,_),(16,_)] (fun gx=>[own 3 1 x.1 x.2 (gx.1.map iC),gq b9 (.cells #[.slice gx.2.2.2.1 gx.2.1.length gx.2.2.2.2.1] 55),own 3 1 gx.2.2.2.1 gx.2.2.2.2.1 (gx.2.1.map nC),gq b10 (.cells #[.slice gx.2.2.2.2.2.1 gx.2.2.1.length gx.2.2.2.2.2.2.1] 55),own 3 1 gx.2.2.2.2.2.1 gx.2.2.2.2.2.2.1 (gx.2.2.1.map nC),Db gx.2.2.2.2.2.2.2]) (fun gx=>gx.2.2.2.2.2.2.2) (fun gx=>GI (gW g) (gH g) (et vs lv) (Cb vs lv) p n gx.1 gx.2.1 gx.2.2.1 X0∧kG gx.1≤kG ls∧(kG gx.1<kG ls∨n=0∨gx.2.2.1=[])) (fun gx=>5*kG gx.1+gx.2.1.length) (ls,now,next,pn,cn,px,cx,Ds) rfl (by exact⟨hGs,cg _,by first |exact .inr (.inl hn0)|exact .inr (.inr rfl)⟩) (.c4 rfl rfl rfl rfl (.c4 rfl rfl rfl rfl .nil)) (fun _ h=>h) ?_)
     rintro ⟨ls2,now2,next2,pn2,cn2,px2,cx2,Ds2⟩ ⟨hG2,hle,hpr⟩
     show VC _ _ _ _ _ ([]++_) ([own 3 1 x.1 x.2 (ls2.map iC),gq b9 (.cells #[.slice pn2 now2.length cn2] 55),own 3 1 pn2 cn2 (now2.map nC),gq b10 (.cells #[.slice px2 next2.length cx2] 55),own 3 1 px2 cx2 (next2.map nC),Db Ds2]++_) _ _
     dsimp only at hG2 hle hpr
     have hll2:=hG2.len
     have hbd2:=hG2.bd
     refine av<|au (cL 1 iL rfl rfl ⟨_,rfl⟩ rfl<|ah (bE fk (.r rfl) rfl) rfl<|ah (gu (.r rfl) (.r rfl)) rfl<|aq<|ay rfl (fun h58=>?_) (fun h58=>?_))
     ·
      obtain⟨ini,r,hnr⟩:=Jk (l:=now2) (by omega)
      subst hnr
      have hrm:=hG2.Aw r (by simp)
      have hil:(ini++[r]).length=ini.length+1:=by simp
      refine aE (aj<|aD<|av<|VC.T3 (fun w hw=>Ji hw 2 rfl) fun hcap=>?_)
      rw[ak,aJ,bu]at hcap
      refine aM (cL 1 iL rfl rfl ⟨_,rfl⟩ rfl<|cL 1 iL rfl rfl ⟨_,rfl⟩ rfl<|ah (bE fk (.r rfl) rfl) rfl<|ah (gz (.r rfl) (.r rfl) (wi (by rw[aJ,bu];omega) (by rw[aJ,bu];omega))) rfl<|ah (cy fk N3 (fun _ hw=>(bL hw 2 rfl).some (by rw[ak])) (.r rfl) (.r rfl) (j:=ini.length) (by rw[aJ,bu];omega) (by rw[aJ,bu];omega)) rfl<|ah (aC O3 (.r rfl) (fun w hw=>aA (off:=0) (cO hw 2 rfl DX) ⟨_,rfl⟩)) rfl<|ax rfl<|aq<|au (cL 1 iL rfl rfl ⟨_,rfl⟩ rfl<|cL 1 iL rfl rfl ⟨_,rfl⟩ rfl<|ah (bE fk (.r rfl) rfl) rfl<|ah (gz (.r rfl) (.r rfl) (wi (by rw[aJ,bu];omega) (by rw[aJ,bu];omega))) rfl<|ah (LO.slH (k:=ini.length) fk N3 (.r rfl) (.r rfl) (by rw[aJ,bu];omega) (by omega)) rfl<|cu<|cq 1 (vs:=[_]) (C':=[_]) (L':=[_,_,_,_,_,_,_,_,_,_]) qL rfl rfl rfl rfl rfl rfl rfl rfl<|aq<|av<|av ?_))
      rw[bG]
      refine iv (fun w hw=>St.Px hw 2 rfl) ?_
      show VC _ _ _ _ _ _ [_,_,own 3 1 pn2 cn2 (ini.map nC),_,_,_,_,_,_,_] _ _
      refine aM (cL 8 iL rfl rfl ⟨_,rfl⟩ rfl<|ag rfl<|ah (cy fk N3 (fun _ hw=>(bL hw 0 rfl).some (by rw[ak];omega)) (.r rfl) (.r rfl) rfl (by omega)) rfl<|ah (aC O3 (.r rfl) (fun w hw=>aA (off:=0) (cO hw 0 rfl (yK (by omega))) ⟨_,rfl⟩)) rfl<|ah (LO.ge (.r rfl) (.r rfl)) rfl<|aq<|ay rfl (fun h74=>?_) (fun h74=>?_))
      ·
       have hGk:=hG2.skip h74
       refine bU (aH (cB<|aZ fun a w ha hw=>⟨(ls2,ini,next2,pn2,cn2,px2,cx2,Ds2),⟨hGk,hle,hpr⟩,(by dsimp only;rw[aJ,bu];omega),ha.sub (.c4 rfl rfl rfl rfl (.c4 rfl rfl rfl rfl .nil)),hw⟩))
      ·
       have hrn:ls2.getD r (-1)<0:=by omega
       obtain⟨hGp,hU⟩:=hG2.put hrn
       have hbd:=hG2.bd
       rw[aJ,bu]at hbd
       have hls3:=hGp.len
       refine aE (aj<|au (cL 8 iL rfl rfl ⟨_,rfl⟩ rfl<|ag rfl<|cL 6 O3 rfl rfl ⟨_,rfl⟩ rfl<|ah (cy fk N3 (fun _ hw=>(bL hw 0 rfl).some (by rw[ak];omega)) (.r rfl) (.r rfl) rfl (by omega)) rfl<|cu<|iV 0 (fun R=>[R,_,_,_,_,_,_,_,_,_]) (((n:Nat):Int)) (vs:=[_]) N3 (.r rfl) (.r rfl) rfl (by omega) rfl rfl rfl rfl rfl (fun _=>rfl)<|aq<|au (bO (r:=0) lO rfl<|ah (aX (vs:=[_,_,_,_,_]) qw (.r rfl) (bj (bI (off:=0) hfl ⟨_,rfl⟩)) rfl) rfl<|ag rfl<|aB rfl<|cd (xs:=[_,_]) (vs:=[_,_]) C55 ⟨(.r rfl),(.r rfl),trivial⟩ (fun w hw=>zm g r w) fun ya _=>aq ?_)))
       refine aD<|VC.ue (α:=(List Nat)×(List Nat)×(Option Addr)×Nat×(Option Addr)×Nat) [_,_,_,_,_,_,_] (fun gx=>[gq b9 (.cells #[.slice gx.2.2.1 gx.1.length gx.2.2.2.1] 55),own 3 1 gx.2.2.1 gx.2.2.2.1 (gx.1.map nC),gq b10 (.cells #[.slice gx.2.2.2.2.1 gx.2.1.length gx.2.2.2.2.2] 55),own 3 1 gx.2.2.2.2.1 gx.2.2.2.2.2 (gx.2.1.map nC)]) (fun n_ gx=>GI (gW g) (gH g) (et vs lv) (Cb vs lv) p n (ls2.set r ((n:Nat):Int)) gx.1 gx.2.1 (XN (gW g) (gH g) r n_)∧gx.1.length+gx.2.1.length≤ini.length+next2.length+n_∧gx.1.length≤ini.length+n_) (fun _ _ _=>False) (ini,next2,pn2,cn2,px2,cx2) (fun vs=>[(10,.pointer (some ⟨b2,0,none⟩)),(12,.pointer (some ⟨b6,0,none⟩)),(15,.pointer (some ⟨b11,0,none⟩)),(16,.pointer (some ⟨bn,0,none⟩)),(18,vs.getD 0 (.int .i64 0))]) rfl C87 (ur g r ya.1 ya.2 hg hrm.1) (dq [3,4,5,6,0,1,2,8,9,10,11,7] rfl rfl) (⟨hGp,by dsimp only;omega,by dsimp only;omega⟩) (fun vs hv=>by obtain⟨n,_,rfl⟩:=bN.1 hv;rfl) (by decide) (fun n x w _ h=>⟨dQ (h 4 _ rfl),dQ (h 5 _ rfl)⟩) ?_ ?_ ?_ (fun _ _ _ _ _ h=>h.elim)
       ·
        rintro n_ ⟨now3,next3,pn3,cn3,px3,cx3⟩ vs__ l_ T w1 hI hxs hst
        obtain⟨t,ht,rfl⟩:∃r_,(nb (gW g) (gH g) r)[n_]? =some r_∧nC r_=vs__:=by rw[aI]at hxs;cases hz:(nb (gW g) (gH g) r)[n_]? with|none=>(rw[hz]at hxs;cases hxs)|some r=>(rw[hz]at hxs;exact⟨r,rfl,eI hxs⟩)
        obtain⟨hG3,hb3,hb5⟩:=hI
        dsimp only at hG3 hb3 hb5
        have htl:=oz hrm.1 (al ht)
        have hn4:n_<4:=dZ (an.1 ht).1 vW
        have hrr:(ls2.set r ((n:Nat):Int)).getD r (-1)=n:=by rw[oB (by omega),if_pos rfl]
        show VC _ _ _ _ _ _ ([gq b9 (.cells #[.slice pn3 now3.length cn3] 55),own 3 1 pn3 cn3 (now3.map nC),gq b10 (.cells #[.slice px3 next3.length cx3] 55),own 3 1 px3 cx3 (next3.map nC),_,_,_,_,_,_,_]++T) _ _
        refine aM (ax rfl<|aN ?_)
        exact fun a w ha hw=>⟨rfl,ha.sub (.c4 rfl rfl rfl rfl (.cons rfl .nil)),hw⟩
       ·
        rintro n_ ⟨now3,next3,pn3,cn3,px3,cx3⟩ vs__ l_ T w1 hI hxs hst
        obtain⟨t,ht,rfl⟩:∃r_,(nb (gW g) (gH g) r)[n_]? =some r_∧nC r_=vs__:=by rw[aI]at hxs;cases hz:(nb (gW g) (gH g) r)[n_]? with|none=>(rw[hz]at hxs;cases hxs)|some r=>(rw[hz]at hxs;exact⟨r,rfl,eI hxs⟩)
        obtain⟨hG3,hb3,hb5⟩:=hI
        dsimp only at hG3 hb3 hb5
        have htl:=oz hrm.1 (al ht)
        have hn4:n_<4:=dZ (an.1 ht).1 vW
        have hrr:(ls2.set r ((n:Nat):Int)).getD r (-1)=n:=by rw[oB (by omega),if_pos rfl]
        show VC _ _ _ _ _ _ ([gq b9 (.cells #[.slice pn3 now3.length cn3] 55),own 3 1 pn3 cn3 (now3.map nC),gq b10 (.cells #[.slice px3 next3.length cx3] 55),own 3 1 px3 cx3 (next3.map nC),_,_,_,_,_,_,_]++T) _ _
        refine aD<|au (ah (aX (vs:=[_,_,_,_,_,_,_]) wv (.r rfl) (fun _ hw=>bI (off:=0) (bj hsh _ (hst.back hw)) ⟨_,rfl⟩) rfl) rfl<|ag rfl<|ah (bK (xs:=[_,_]) (vs:=[_,_]) Yr ⟨(.r rfl),(.r rfl),trivial⟩ (fun w2 hw2=>DS g vs pv cv lv t w2 (hv1.b0 _ (hst.back hw2)) (by omega))) rfl<|ag rfl<|bh rfl (fun hg=>aC iL (.r rfl) (aF 9 rfl ⟨_,rfl⟩))<|bh rfl (fun hg=>aS (.r rfl))<|bh rfl (fun hg=>cy fk N3 (fun _ hw=>(bL hw 6 rfl).some (by rw[ak];omega)) (.g hg rfl) (.g hg rfl) rfl (by omega))<|bh rfl (fun hg=>aC O3 (.g hg rfl) (fun w hw=>aA (off:=0) (cO hw 6 rfl (yK (by omega))) ⟨_,rfl⟩))<|bh rfl (fun hg=>LO.lt (.g hg rfl) (.r rfl))<|ah (e7 (.r rfl) rfl rfl (.r rfl)) rfl<|aq<|ay rfl (fun h93=>?_) (fun h93=>?_))
        ·
         have h93b:et vs lv t=true∧(ls2.set r ((n:Nat):Int)).getD t (-1)<0:=by simpa using h93
         refine aM (cL 8 Vg rfl rfl ⟨_,rfl⟩ rfl<|ag rfl<|cL 7 O3 rfl rfl ⟨_,rfl⟩ rfl<|aB rfl<|HO.oU (first:=[]) (cap:=[_,_,_]) (xs:=[_,_]) (vs:=[_,_]) [_,_,_,_] ([_,_,_,_,_,_,_]++T) (rR (L:=[_,_,_,_,_,_,_,_,_,_,_]) (L1:=[_,_,_,_]) (L2:=[_,_,_,_,_,_,_]) (X:=T) [0,1,2,3,4,5,6,7,8,9,10] rfl rfl rfl) (.r rfl) C54 ⟨(.r rfl),(.r rfl),trivial⟩ (fun w hw hh=>Py g vs pv cv lv t _ now3 next3 pn3 cn3 px3 cx3 b2 b9 b10 w hh (fun hs=>⟨bj hsh _ (hst.back (iH (R:=Ar b9 pn3 cn3 now3 b10 px3 cx3 next3) (rest:=[_,_,_,_,_,_,_]++T) (rR (L:=[_,_,_,_,_,_,_,_,_,_,_]) (L1:=[_,_,_,_]) (L2:=[_,_,_,_,_,_,_]) (X:=T) [0,1,2,3,4,5,6,7,8,9,10] rfl rfl rfl _ hw) hs)),hv1.b0 _ (hst.back (iH (R:=Ar b9 pn3 cn3 now3 b10 px3 cx3 next3) (rest:=[_,_,_,_,_,_,_]++T) (rR (L:=[_,_,_,_,_,_,_,_,_,_,_]) (L1:=[_,_,_,_]) (L2:=[_,_,_,_,_,_,_]) (X:=T) [0,1,2,3,4,5,6,7,8,9,10] rfl rfl rfl _ hw) hs))⟩) (by omega) (by omega)) fun y3 _=>aN<|bB ?_)
         exact fun a w ha hw=>⟨(mV vs lv now3 t,oK vs lv next3 t,y3.pn,y3.cn,y3.px,y3.cx),⟨GI.TO hG3 (by omega) hrm.1 hrr ht h93b.1,by have:=Jg (vs:=vs) (lv:=lv) (now:=now3) (nxt:=next3) (p:=t);dsimp only;omega,by have:=Br (vs:=vs) (lv:=lv) (l:=now3) (p:=t);dsimp only;omega⟩,rR (L:=[_,_,_,_,_,_,_,_,_,_,_]) (L1:=[_,_,_,_,_,_,_,_,_,_,_]) (L2:=[]) (X:=T) [0,1,2,3,4,5,6,7,8,9,10] rfl rfl rfl w hw⟩
        ·
         have h93b:¬(et vs lv t=true∧(ls2.set r ((n:Nat):Int)).getD t (-1)<0):=by simpa using h93
         refine aE (bB ?_)
         exact fun a w ha hw=>⟨(now3,next3,pn3,cn3,px3,cx3),⟨hG3.Oq hrm.1 hrr ht h93b,by dsimp only;omega,by dsimp only;omega⟩,rR (L:=[_,_,_,_,_,_,_,_,_,_,_]) (L1:=[_,_,_,_,_,_,_,_,_,_,_]) (L2:=[]) (X:=T) [0,1,2,3,4,5,6,7,8,9,10] rfl rfl rfl w hw⟩
       ·
        rintro D_ ⟨now3,next3,pn3,cn3,px3,cx3⟩ hI
        obtain⟨hG3,hb3,hb5⟩:=hI
        dsimp only at hG3 hb3 hb5
        have hnl:((nb (gW g) (gH g) r).map nC).length≤4:=by rw[ak];exact vW
        have hGd:=hG3.Of (by rw[ak];exact cg _)
        have hb4:=hGd.bd
        show VE _ _ _ _ [gq b9 (.cells #[.slice pn3 now3.length cn3] 55),own 3 1 pn3 cn3 (now3.map nC),gq b10 (.cells #[.slice px3 next3.length cx3] 55),own 3 1 px3 cx3 (next3.map nC),_,_,_,_,_,_,_,_] _ _
        refine bB (bB<|aZ fun a w ha hw=>⟨((ls2.set r ((n:Nat):Int)),now3,next3,pn3,cn3,px3,cx3,D_::Ds2),⟨hGd,by dsimp only;omega,.inl (by dsimp only;omega)⟩,(by dsimp only;rw[aJ,bu];omega),ha.sub (.c4 rfl rfl rfl rfl (.c4 rfl rfl rfl rfl .nil)),hw.gY [6,0,1,2,3,11,7,8,9,10] rfl⟩)
     ·
      have hnow:now2=[]:=eV (by omega)
      subst hnow
      refine bU (aH (aH (cB (bB (aj<|av<|au (cL 6 O3 rfl rfl ⟨_,rfl⟩ rfl<|aq<|aM (aB rfl<|cJ (C:=#[_]) Z3 rfl fun b122=>cu<|cq 0 (vs:=[_]) (C':=[_]) (L':=[_,_,_,_,_,_,_,_,_,_,_]) N3 rfl rfl rfl rfl rfl rfl rfl rfl<|aq ?_)))))))
      refine aM (cL 0 O3 rfl rfl ⟨_,rfl⟩ rfl<|da rfl rfl (by omega) (by omega) rfl<|cu<|cq 0 (vs:=[_]) (C':=[_]) (L':=[_,_,_,_,_,_,_,_,_,_,_]) N3 rfl rfl rfl rfl rfl rfl rfl rfl<|aN<|aZ fun a w ha hw=>⟨(n+1,ls2,[],next2,pn2,cn2,px2,cx2,b122,Ds2),⟨.inr ⟨Nat.succ_pos _,rfl,by rw[lz];exact hG2⟩,by have hm_:=IL hG0 hpr hle h50;dsimp only;simp only[lY,fF]at hm_ hmu ⊢;omega⟩,(by have hm_:=IL hG0 hpr hle h50;dsimp only;simp only[lY,fF]at hm_ hmu ⊢;omega),ha.sub (.c4 rfl rfl rfl rfl (.c4 rfl rfl rfl rfl .nil)),hw.gY [1,2,3,4,5,0,6,8,9,10] rfl⟩)
   ·
    refine bU (aH (aH (cB (aj<|au (cL 8 iL rfl rfl ⟨_,rfl⟩ rfl<|ag rfl<|ah (cy fk N3 (fun _ hw=>(bL hw 0 rfl).some (by rw[ak];omega)) (.r rfl) (.r rfl) rfl (by omega)) rfl<|ah (aC O3 (.r rfl) (fun w hw=>aA (off:=0) (cO hw 0 rfl (yK (by omega))) ⟨_,rfl⟩)) rfl<|ax rfl<|ax rfl<|aq<|be (VE.TN (vs:=[_,_]) (A:=[_,_,_,_,_,_,_,_,_]) rfl (dq [6,0,1,2,3,4,5,7,8,9] rfl rfl) ⟨rfl,rfl,trivial⟩ (fun w hw=>?_)))))))
    first |exact⟨-1,.inl ⟨rfl,fun n hg=>(by have z:=Gp.src hg;simp_all)⟩,rfl,hw.nil⟩|exact⟨_,(MT hG0 (by omega)).gap (by omega) (by omega),rfl,St.DV hst1 hw⟩
theorem Uh:cP af 60 0 0:=⟨_,_,kV,rfl,rfl,0,by kernel_rfl⟩
def MR (ls:List Int) (i:Nat):Int:=if ls.getD i 0<1∨1073741824<ls.getD i 0 then 3 else if 0<i∧ls.getD i 0≤ls.getD (i-1) 0 then 12 else 0
def IG (g:eo) (vs:List Span) (ls:List Int):Int:=if eY 1073741824 ⟨g,vs⟩≠0 then eY 1073741824 ⟨g,vs⟩ else if ls.length<1∨16<ls.length then 3 else oN (MR ls) ls.length
def tL (W H:Nat) (vs:List Span) (ls:List Int) (i:Nat):List (List Nat):=if i=0 then[] else dM W H (et vs (ls.getD (i-1) 0))
def we (W H:Nat) (vs:List Span) (ls:List Int) (i:Nat):List Int:=(dM W H (et vs (ls.getD i 0))).map fun l=>iG (tL W H vs ls i) (l.headD 0)
def TM (W H:Nat) (vs:List Span) (ls:List Int):List (List Int):=(bF ls.length).map (we W H vs ls)
def Ql (n:Nat) (ps:List (List Nat)):List Int:=(bF n).map (iG ps)
theorem Ja {n q:Nat} {ps:List (List Nat)} (h:q<n):(Ql n ps)[q]? =some (iG ps q):=by unfold Ql;rw[aI,fE h];rfl
theorem Jp {n:Nat} {ps:List (List Nat)}:(Ql n ps).length=n:=by unfold Ql;simp
theorem SM {n:Nat}:bH n (-1:Int)=Ql n []:=by
 refine cM fun q=>?_
 by_cases h:q<n
 ·rw[Ja h,fb,if_pos h];rfl
 ·rw[aQ (by simpa using h),aQ (by rw[Jp];omega)]
theorem WX {g:eo} {vs:List Span} {ls:List Int} (h:IG g vs ls=0):eY 1073741824 ⟨g,vs⟩=0∧1≤ls.length∧ls.length≤16∧∀i,i<ls.length→MR ls i=0:=by
 unfold IG at h
 split at h
 ·rename_i q;exact absurd h q
 ·rename_i q
  split at h
  ·omega
  ·rename_i z
   exact⟨eK.1 q,by omega,by omega,fun i hi=>v7 h i hi⟩
theorem lT {g:eo} {vs:List Span} {lv:Int} (h:eY 1073741824 ⟨g,vs⟩=0) (h1:1≤lv) (h2:lv≤1073741824):sB g vs lv=0:=by unfold sB;rw[if_neg (fun z=>z h),if_neg (by omega)]
theorem VS {ls:List Int} {i:Nat} (h:MR ls i=0):1≤ls.getD i 0∧ls.getD i 0≤1073741824:=by
 unfold MR at h
 split at h
 ·omega
 ·omega
def mh (n:Nat) (rs:List (cG Int)) (c:cG Int):List (cG Int):=rs++c::bH (n-rs.length-1) vy
theorem MF {n:Nat} {rs:List (cG Int)} (h:rs.length<n):rs++bH (n-rs.length) vy=mh n rs vy:=by
 unfold mh;rw[show n-rs.length=(n-rs.length-1)+1 by omega,lB];rfl
theorem Vx {n:Nat} {rs:List (cG Int)} {c:cG Int}:mh n rs c=(rs++[c])++bH (n-(rs++[c]).length) vy:=by
 unfold mh;rw[dk,aJ,bu,Nat.sub_sub];rfl
theorem VK {n:Nat} {rs:List (cG Int)} {c:cG Int}:(mh n rs c)[rs.length]? =some c:=by unfold mh;rw[bJ (cg _),gd];rfl
theorem U2 {n:Nat} {rs:List (cG Int)} {c d:cG Int}:(mh n rs c).set rs.length d=mh n rs d:=by unfold mh;rw[s9 _ _ (cg _),gd];rfl
theorem Ga {n:Nat} {rs:List (cG Int)} {c:cG Int} (h:rs.length<n):(mh n rs c).length=n:=by unfold mh;simp;omega
theorem Gb {W H:Nat} {vs:List Span} {lv:Int} {y:oV} {j:Nat} {a:di} (h:AR W H vs lv y) (ha:y.l[j]? =some a):∃r,y.rs[j]? =some r∧a.px=r∧(dM W H (et vs lv))[j]? =some a.px.l∧0<a.px.l.length∧a.px.l.getD 0 0=a.px.l.headD 0∧a.px.l.headD 0<W*H:=by
 have h1:y.rs[j]? =some a.px:=by rw[←h.px,aI,ha];rfl
 have h2:(dM W H (et vs lv))[j]? =some a.px.l:=by
  have h3:(kL W H vs lv)[j]? =some a.m:=by rw[←h.m,aI,ha];rfl
  unfold kL at h3
  rw[aI]at h3
  cases hq:(dM W H (et vs lv))[j]? with
  |none=>rw[hq]at h3;cases h3
  |some l=>
   rw[hq]at h3
   have h4:qg W H vs lv l=a.m:=eI h3
   have:l=a.px.l:=congrArg qh.px h4
   rw[this]
 obtain⟨p,hp,_,e⟩:=k9 (p:=W*H) (al h2)
 have hne:a.px.l≠[]:=by rw[e];exact uL hp
 have hm:=wb hne
 refine⟨a.px,h1,rfl,h2,?_,?_,?_⟩
 ·cases hq:a.px.l with|nil=>exact absurd hq hne|cons b l=>simp
 ·cases a.px.l<;>rfl
 ·rw[e]at hm ⊢;exact pH hp hm
structure TrY where
 rs:List (cG Int)
 p:Option Addr
 c:Nat
theorem pL {W H:Nat} {vs:List Span} {lv:Int} {y:oV} (h:AR W H vs lv y):(dM W H (et vs lv)).length=y.l.length:=by
 have:=congrArg dv h.m
 unfold kL at this
 rw[ak,ak]at this
 exact this.symm
theorem Sz (g:eo) (vs:List Span) (pv:Option Addr) (cv:Nat) (ls:List Int) (pl:Option Addr) (cl:Nat) (w:World) (hv:fL w pv vs) (hl:Ints w pl ls) (hok:IG g vs ls=0):
 Calls af 20 #[im g pv vs.length cv,.slice pl ls.length cl] w fun e w'=>∃y:TrY,y.rs.map dw=TM (gW g) (gH g) vs ls∧e= .returned (.tuple #[.slice y.p y.rs.length y.c,.int .i64 0])∧St (bs w) [own 55 1 y.p y.c (y.rs.map lI),kZ 3 1 iC y.rs] w':=by
 obtain⟨hfd,hl1_,hl2_,hlv⟩:=WX hok
 obtain⟨hg,hlen,hok2,_,_⟩:=oO (lT (lv:=1) hfd (by omega) (by omega))
 have hvl:vs.length=gW g*gH g:=AS hg hlen
 have har:=iM hg
 refine enter (vs:=[_,_]) (env:=[(0,_),(1,_)]) Tryz.func20 rfl rfl rfl rfl ?_
 refine au (aB rfl<|c8 (C:=#[_,_,_,_,_,_]) rfl rfl fun b1=>ax rfl<|ax rfl<|aq<|av<|au (ah (aX (vs:=[_,_,_,_,_,_]) oy (.r rfl) (aF 0 rfl ⟨_,rfl⟩) rfl) rfl<|ah (bK (xs:=[_]) (vs:=[_]) V6 ⟨(.r rfl),trivial⟩ (fun w hw=>kA ⟨g,vs⟩ pv cv w (hv.b0 w hw))) rfl<|ax rfl<|aq ?_))
 refine au (ag rfl<|VO.u rfl<|aq<|ay rfl (fun h20=>?_) (fun h20=>?_))
 · (exfalso;exact h20 hfd)
 ·
  refine aE (aj<|av<|au (ag rfl<|ah (bE fk (.r rfl) rfl) rfl<|dK rfl<|ag rfl<|aK rfl (fun hg=>aS (.r rfl))<|aK rfl (fun hg=>bE fk (.g hg rfl) rfl)<|aK rfl (fun hg=>gu (.g hg rfl) (.r rfl))<|ah (cD (.r rfl) (.r rfl) rfl rfl) rfl<|aq<|ay rfl (fun h29=>?_) (fun h29=>?_)))
  · (exfalso;omega)
  ·
   refine aE (aj<|av<|au (ag rfl<|ah (bE fk (.r rfl) rfl) rfl<|ag rfl<|aq<|aD<|bS (α:=Nat) 0 (fun gx=>[(32,.int .i64 (gx:Nat))]) [(1,_),(2,_),(30,_),(31,_)] (fun gx=>[]) (fun gx=>gx≤ls.length) (fun gx=>ls.length-gx) 0 (by exact aY _) (.c4 rfl rfl rfl rfl (.cons rfl .nil)) (fun _ h=>h) ?_))
   rintro i hi
   refine au (dK rfl<|aq<|av<|ay rfl (fun h33=>?_) (fun h33=>?_))
   ·
    have hli:=hl.at (j:=i) (L:=[]) (by omega)
    have hlz:=hlv i (by omega)
    unfold MR at hlz
    refine aE (aj<|av<|aD<|au (ag rfl<|ah (bM fk N3 hl.some (.r rfl) (.r rfl) rfl (by omega)) rfl<|ah (aC O3 (.r rfl) (fun w hw=>aA (off:=0) ((hl.at (j:=i) (by first |omega|(have:=of_decide_eq_true hg;omega))) w hw) ⟨_,rfl⟩)) rfl<|ax rfl<|ax rfl<|aq<|aD ?_))
    refine au (ag rfl<|dK rfl<|ag rfl<|aK rfl (fun hg=>aS (.r rfl))<|aK rfl (fun hg=>gu (.g hg rfl) (.r rfl))<|ah (cD (.r rfl) (.r rfl) rfl rfl) rfl<|ax rfl<|aq<|ay rfl (fun h37=>?_) (fun h37=>?_))
    · (exfalso;(rw[if_pos h37]at hlz;omega))
    ·
     refine au (ag rfl<|ah (gu (.r rfl) (.r rfl)) rfl<|ag rfl<|bh rfl (fun hg=>aS (.r rfl))<|bh rfl (fun hg=>aS (.r rfl))<|bh rfl (fun hg=>aS (.r rfl))<|bh rfl (fun hg=>gz (.g hg rfl) (.r rfl) (wi (by omega) (by omega)))<|bh rfl (fun hg=>bM fk N3 hl.some (.g hg rfl) (.g hg rfl) (by have:=of_decide_eq_true hg;omega) (by have:=of_decide_eq_true hg;omega))<|bh rfl (fun hg=>aC O3 (.g hg rfl) (fun w hw=>aA (off:=0) ((hl.at (j:=(i-1)) (by first |omega|(have:=of_decide_eq_true hg;omega))) w hw) ⟨_,rfl⟩))<|bh rfl (fun hg=>LO.le (.g hg rfl) (.g hg rfl))<|ah (e7 (.r rfl) rfl rfl (.r rfl)) rfl<|ax rfl<|aq<|ay rfl (fun h44=>?_) (fun h44=>?_))
     · (exfalso;(rw[if_neg h37,if_pos (by omega)]at hlz;omega))
     ·
      refine aE (bB (bB (aj<|aM (da rfl rfl (by omega) (by omega) rfl<|ag rfl<|aN<|aZ fun a w ha hw=>⟨i+1,(by omega),(by omega),ha.sub (.c4 rfl rfl rfl rfl (.cons rfl .nil)),hw⟩))))
   ·
    refine bU (aH (aH (cB (aj<|av<|VC.nF fun w1 hst1=>?_))))
    have hfl:fG w1 ⟨b1,0,none⟩ [.int .i64 g.x,.int .i64 g.y,.int .i64 g.size,.int .i64 g.wide,.int .i64 g.high,.slice pv vs.length cv]:=dQ (hst1.inv 0 _ rfl)
    have hv1:=hv.b0 w1 hst1
    have hl1:=hl.b0 w1 hst1
    refine aM (ag rfl<|ah (bE fk (.r rfl) rfl) rfl<|aB rfl<|HO.Au (f:=lI) (z0:=(vy:cG Int)) (n:=ls.length) rfl tQ I55 (.r rfl) (.r rfl) rfl (by decide) (by omega) (by omega) fun b2=>aB rfl<|aW (LO.as (.r rfl))<|aq<|au (aB rfl<|eW (ps:=[(_,_)]) (vs:=[(_,_)]) (Z:=[_]) (C:=[_]) fk Z3 N3 ⟨(.r rfl),trivial⟩ rfl rfl rfl rfl ⟨_,[_],[_],rfl,rfl,rfl,rfl,rfl⟩ fun b3=>bO (r:=5) lN rfl<|ah (aC zH (.r rfl) (bj (bI (off:=5) hfl ⟨_,rfl⟩))) rfl<|ah (bE xq (.r rfl) rfl) rfl<|aB rfl<|cd (xs:=[_,_]) (vs:=[_,_]) C53 ⟨(.r rfl),(.r rfl),trivial⟩ (fun w hw=>zJ (-1) _ 1 vs.length w (yF 0 hw rfl) (by omega)) fun x _=>aB rfl<|aW (LO.as (.r rfl))<|aN ?_))
    rw[show bH vs.length (-1:Int)=Ql (gW g*gH g) (tL (gW g) (gH g) vs ls 0) from by rw[hvl,SM];rfl]
    refine aj<|av<|au (ag rfl<|ah (bE fk (.r rfl) rfl) rfl<|ag rfl<|aq<|aD<|gw [2,0,1] rfl ?_)
    refine bS (α:=Nat×(List (cG Int))×(Option Addr)×Nat) 2 (fun gx=>[(10,.slice gx.2.2.1 (gW g*gH g) gx.2.2.2),(67,.int .i64 (gx.1:Nat))]) [(2,_),(9,_),(65,_),(66,_)] (fun gx=>[own 55 1 (some ⟨b2,0,none⟩) ls.length ((gx.2.1++bH (ls.length-gx.2.1.length) (vy:cG Int)).map lI),kZ 3 1 iC gx.2.1,own 3 1 gx.2.2.1 gx.2.2.2 ((Ql (gW g*gH g) (tL (gW g) (gH g) vs ls gx.1)).map iC)]) (fun gx=>gx.1≤ls.length∧gx.2.1.map dw=(bF gx.1).map (we (gW g) (gH g) vs ls)) (fun gx=>ls.length-gx.1) (0,([]:List (cG Int)),x.1,x.2) (by exact⟨aY _,rfl⟩) (.cons (congrArg (fun n=>some (il x.1 n x.2)) hvl) (.c4 rfl rfl rfl rfl (.cons rfl .nil))) (fun _ h=>((h.qi 3 1 iC)).gY [1,0,2,3] rfl) ?_
    rintro ⟨i,rs,bp,bc⟩ ⟨hi,hrs⟩
    show VC _ _ _ _ _ ([(10,.slice bp (gW g*gH g) bc),(67,.int .i64 (i:Nat))]++_) ([own 55 1 (some ⟨b2,0,none⟩) ls.length ((rs++bH (ls.length-rs.length) (vy:cG Int)).map lI),kZ 3 1 iC rs,own 3 1 bp bc ((Ql (gW g*gH g) (tL (gW g) (gH g) vs ls i)).map iC)]++_) _ _
    dsimp only at hi hrs
    have hrl:rs.length=i:=by rw[←ak (f:=dw),hrs,ak,jO]
    refine au (dK rfl<|aq<|av<|ay rfl (fun h68=>?_) (fun h68=>?_))
    ·
     have hlo:=VS (hlv i (by omega))
     refine aE (aj<|av<|aD<|au (ag rfl<|ah (bM fk N3 hl1.some (.r rfl) (.r rfl) rfl (by omega)) rfl<|ah (aC O3 (.r rfl) (fun w hw=>aA (off:=0) ((hl1.at (j:=i) (by omega)) w hw) ⟨_,rfl⟩)) rfl<|ax rfl<|ax rfl<|aq<|av ?_))
     refine aM (ah (aX (vs:=[_,_,_,_,_,_]) oy (.r rfl) (bj (bI (off:=0) hfl ⟨_,rfl⟩)) rfl) rfl<|ag rfl<|ah (LO.bd (ps:=[(_,_),(_,_)]) (vs:=[(_,_),(_,_)]) (C:=[_,_,_,_,_,_,_]) Vm ⟨(.r rfl),(.r rfl),trivial⟩ rfl ⟨_,[_,_,_,_,_,_],[_,_,_,_,_,_,_],rfl,rfl,rfl,rfl,⟨_,[_],[_,_,_,_,_,_,_],rfl,rfl,rfl,rfl,rfl⟩⟩) rfl<|aB rfl<|cd (xs:=[_]) (vs:=[_]) C48 ⟨(.r rfl),trivial⟩ (fun w hw=>B5 g vs pv cv (ls.getD i 0) w hg hlen hok2 (hv1.b0 w hw)) fun y hy=>aB rfl<|aW (aS (.r rfl))<|aB rfl<|aW (cU (.r rfl) rfl)<|aB rfl<|aW (cU (.r rfl) rfl)<|aB rfl<|aW (LO.as (.r rfl))<|aB rfl<|aW (LO.as (.r rfl))<|aq<|av<|av ?_)
     rw[MF (by omega)]
     refine iv (L':=[own 55 1 (some ⟨b2,0,none⟩) ls.length ((mh ls.length rs (vy:cG Int)).map lI)]++[_,_,_,_,_,_,_,_,_,_,_]) (dq [8,0,1,2,3,4,5,6,7,9,10,11] rfl rfl)<|VC.I5 fun w2 hst2=>?_
     have hkA:∀{L:List dg} {w3:World},St ⟨w2,mG [own 55 1 (some ⟨b2,0,none⟩) ls.length ((mh ls.length rs (vy:cG Int)).map lI)]⟩ L w3→RO 8 di.cells w3 y.p y.l∧RR 1 nC w3 y.pr y.rs∧RO 1 iC w3 bp (Ql (gW g*gH g) (tL (gW g) (gH g) vs ls i)):=fun h=>have z:=St.ln (iH hst2 h);⟨fK z 0 rfl,RR.gM z 5 6 rfl rfl,fK z 9 rfl⟩
     have hz2:=St.ln hst2
     have hA2:RO 8 di.cells w2 y.p y.l:=fK hz2 0 rfl
     have hR2:RR 1 nC w2 y.pr y.rs:=RR.gM hz2 5 6 rfl rfl
     have hB2:jR bp (gW g*gH g):=by have z:=RO.sm (fK hz2 9 rfl:RO 1 iC w2 bp (Ql (gW g*gH g) (tL (gW g) (gH g) vs ls i)));rw[Jp]at z;exact z
     refine iv (fun w hw=>hw.fX 3 1) ?_
     show VC _ _ _ _ _ _ [own 3 1 none 0 (([]:List Int).map iC),own 55 1 (some ⟨b2,0,none⟩) ls.length ((mh ls.length rs (vy:cG Int)).map lI)] _ _
     refine aM (ag rfl<|ah (bE Ec (.r rfl) rfl) rfl<|ag rfl<|aq<|aD<|bS (α:=Nat×(List Int)×(Option Addr)×Nat) 2 (fun gx=>[(81,.int .i64 (gx.1:Nat))]) [(2,_),(9,_),(10,_),(11,_),(14,_),(65,_),(66,_),(67,_),(79,_),(80,_)] (fun gx=>[own 3 1 gx.2.2.1 gx.2.2.2 (gx.2.1.map iC),own 55 1 (some ⟨b2,0,none⟩) ls.length ((mh ls.length rs ⟨gx.2.2.1,gx.2.2.2,gx.2.1⟩).map lI)]) (fun gx=>gx.1≤y.l.length∧gx.2.1=((dM (gW g) (gH g) (et vs (ls.getD i 0))).take gx.1).map fun l=>iG (tL (gW g) (gH g) vs ls i) (l.headD 0)) (fun gx=>y.l.length-gx.1) (0,[],none,0) (by exact⟨aY _,rfl⟩) (.c4 rfl rfl rfl rfl (.c4 rfl rfl rfl rfl (.cons rfl (.cons rfl (.cons rfl .nil))))) (fun _ h=>h) ?_)
     rintro ⟨j,cur,cp,cc⟩ ⟨hj,hcur⟩
     show VC _ _ _ _ _ ([(81,.int .i64 (j:Nat))]++_) ([own 3 1 cp cc (cur.map iC),own 55 1 (some ⟨b2,0,none⟩) ls.length ((mh ls.length rs ⟨cp,cc,cur⟩).map lI)]++_) _ _
     dsimp only at hj hcur
     have hyl:=pL hy
     have hcl:cur.length≤j:=by rw[hcur,ak,eU];omega
     have hpl:(dM (gW g) (gH g) (et vs (ls.getD i 0))).length≤gW g*gH g:=kh
     refine au (dK rfl<|aq<|av<|ay rfl (fun h82=>?_) (fun h82=>?_))
     ·
      obtain⟨aa,haa⟩:∃a,y.l[j]? =some a:=⟨_,aw (by omega)⟩
      obtain⟨rj,hrj,erj,hpj,ha1,ha2,ha3⟩:=Gb hy haa
      subst erj
      have ha0:aa.px.l[0]? =some (aa.px.l.getD 0 0):=by rw[aO,aw ha1];rfl
      refine aE (aj<|av<|aD<|au (ah (bM Ec O7 hA2.sm (.r rfl) (.r rfl) rfl (by omega)) rfl<|ah (aX (vs:=[_,_,_,_,_,_,_,_]) A60 (.r rfl) (fun w hw=>aA (off:=0) ((fun w3 h3=>RO.jX (hkA h3).1 haa) w hw) ⟨_,rfl⟩) rfl) rfl<|aB rfl<|cJ (C:=#[_,_,_,_,_,_,_,_]) Z60 rfl fun b15=>cu<|cq 0 (vs:=[_,_,_,_,_,_,_,_]) (C':=[_,_,_,_,_,_,_,_]) (L':=[_,_,_]) O7 rfl rfl rfl rfl rfl rfl rfl rfl<|aq<|eC [[0,1,2],[0,1,2],[0,2],[0]] [some 2,some 2,some 1,some 1,some 1,some 1,some 0,some 0,some 0,some 0,some 0,some 0,some 0,none,none,some 2,none] mixed (by kernel_rfl) rfl (cT rfl<|cT rfl<|cT rfl<|cT rfl<|aG (fun _ hJ=>cy tQ qL (fun _ hw=>(bL (hJ _ hw) 2 rfl).some (by rw[ak,Ga (by omega)])) (.r rfl) (.r rfl) (j:=rs.length) (by omega) (by omega)) rfl<|aG (fun _ hJ=>aC iL (.r rfl) (fun w hw=>aA (off:=0) (cO (hJ _ hw) 2 rfl VK) ⟨_,rfl⟩)) rfl<|cT rfl<|aG (fun _ hJ=>aP (r:=0) Uh (.r rfl) rfl) rfl<|aG (fun _ hJ=>aC iL (.r rfl) (fun _ hw=>cN (hJ _ hw) 0 rfl ⟨_,rfl⟩)) rfl<|aG (fun _ hJ=>bM fk N3 (RR.row hR2 hrj).sm (.r rfl) (.r rfl) (j:=0) rfl ha1) rfl<|aG (fun _ hJ=>aC O3 (.r rfl) (fun w hw=>aA (off:=0) ((fun w3 h3=>RO.jX (RR.row (hkA h3).2.1 hrj) ha0) w (hJ _ hw)) ⟨_,rfl⟩)) rfl<|aG (fun _ hJ=>bM fk N3 hB2 (.r rfl) (.r rfl) rfl (by omega)) rfl<|aG (fun _ hJ=>aC O3 (.r rfl) (fun w hw=>aA (off:=0) ((fun w3 h3=>RO.jX (hkA h3).2.2 (Ja (q:=aa.px.l.getD 0 0) (by omega))) w (hJ _ hw)) ⟨_,rfl⟩)) rfl<|dC<|dC<|aG (fun _ hJ=>cy tQ qL (fun _ hw=>(bL (hJ _ hw) 1 rfl).some (by rw[ak,Ga (by omega)])) (.r rfl) (.r rfl) (j:=rs.length) (by omega) (by omega)) rfl<|dC<|fj) (az<|az<|az<|az<|az<|az<|az<|az<|az<|az<|az<|az<|az<|HX.h rfl<|eW (ps:=[(_,_)]) (vs:=[(_,_)]) (Z:=[_]) (C:=[_]) fk Z3 N3 ⟨(.r rfl),trivial⟩ rfl rfl rfl rfl ⟨_,[_],[_],rfl,rfl,rfl,rfl,rfl⟩ fun b18=>⟨fun _ hw=>hw.gY [1,2,3] rfl,HX.h rfl<|eP ((iG (tL (gW g) (gH g) vs ls i) (aa.px.l.getD 0 0))) 2 0 (fun R=>[_,_,R,_]) fk fk I3 (.r rfl) (.r rfl) rfl rfl rfl rfl rfl rfl rfl (fun _=>rfl) rfl (by omega) fun p14 c14=>⟨fun _ hw=>hw.gY [1,3] rfl,az<|HX.h0<|iV 3 (fun R=>[_,_,_,R]) ((⟨p14,c14,cur++[iG (tL (gW g) (gH g) vs ls i) (aa.px.l.getD 0 0)]⟩:cG Int)) (vs:=[_]) qL (.r rfl) (.r rfl) rfl (by rw[Ga (by omega)];omega) rfl rfl rfl rfl rfl (fun _=>rfl)<|⟨fun _ hw=>hw.gY [1] rfl,fB ?_⟩⟩⟩)))
      rw[U2]
      refine bB (aj<|aM (da rfl rfl (by omega) (by omega) rfl<|ag rfl<|aN<|aZ fun a w ha hw=>⟨(j+1,cur++[iG (tL (gW g) (gH g) vs ls i) (aa.px.l.getD 0 0)],p14,c14),⟨by dsimp only;omega,by dsimp only;rw[kU,hpj,bG, ←hcur,ha2];rfl⟩,(by dsimp only;omega),ha.sub (.c4 rfl rfl rfl rfl (.c4 rfl rfl rfl rfl (.cons rfl (.cons rfl (.cons rfl .nil))))),hw.gY [2,3] rfl⟩))
     ·
      have hje:j=y.l.length:=by omega
      subst hje
      have hcu:cur=we (gW g) (gH g) vs ls i:=by rw[hcur];unfold we;rw[List.take_of_length_le];rw[pL hy];exact cg _
      subst hcu
      refine bU (aH (aH (cB (aj<|aM (ag rfl<|ax rfl<|aN<|bB (aj<|aM (da rfl rfl (by omega) (by omega) rfl<|ag rfl<|aN<|aZ fun a w ha hw=>⟨(i+1,rs++[⟨cp,cc,we (gW g) (gH g) vs ls i⟩],y.po,y.co),⟨by dsimp only;omega,by dsimp only;rw[bG,hrs,List.range_succ,bG];rfl⟩,(by dsimp only;omega),ha.sub (.c4 rfl rfl rfl rfl (.cons rfl (.cons rfl .nil))),(by exact dq (L1:=[_,_,_,_]) [1,0,2,3] rfl rfl _ (by have z:=St.wg (E:=3) (z:=1) (f:=iC) (x:=⟨cp,cc,we (gW g) (gH g) vs ls i⟩) (L:=[_,_,_]) (dq (L1:=[_,_,_,_,_]) [1,10,0,9,12] rfl rfl _ (iH hst2 (dq (L1:=[_,_]) [1,0] rfl rfl _ hw)));rw[Vx]at z;exact z))⟩)))))))
    ·
     refine bU (aH (aH (cB (aj<|au (ag rfl<|ax rfl<|ax rfl<|aq<|be (dh (vs:=[_,_]) rfl ⟨rfl,rfl,trivial⟩ (fun w hw=>?_)))))))
     have hie:i=ls.length:=by omega
     subst hie
     have hrl2:rs.length=ls.length:=by rw[←ak (f:=dw),hrs,ak,jO]
     rw[show ls.length-rs.length=0 by omega,uA,ew]at hw
     have hf:=hst1.call (dq (L1:=[_,_]) [0,1] rfl rfl _ hw)
     exact⟨⟨rs,some ⟨b2,0,none⟩,ls.length⟩,hrs,by rw[hrl2];rfl,dq [0,1] rfl rfl _ hf⟩
end Go.Proofs.YtgemekpofpoopaaGreat
