/-
  DERIVED: THE SHELF's CONTRACTS AT THIS DUMP, IN PLAIN WORDS (tools/lay-plain.mjs out of 'TryzShelf.lean', which tools/lay-shelf.mjs wrote): THE SAME DECLARATIONS UNDER THE SAME NAMES: 'import', 'namespace', 'open', 'def', 'theorem' AND NOTHING ELSE: no command of the shelf's: FOR A HAND-IN. Each laying: the table of numbers ('.._ren') and one theorem, a field a fact of the dump's own or the kernel's comparison; each contract: ONE APPLICATION.
  (and more)
-/
import Derived.Test.YtffbohecdocajaaGreatKV07
import Derived.Shelf.Small.Utf8
import Derived.Shelf.Small.Bits
import Derived.Shelf.Small.Strs
import Derived.Shelf.Small.Wraps
import Derived.Shelf.Strconv.Itoa0
import Derived.Shelf.Strings.Search1
import Derived.Shelf.Sort.Plain
import Derived.Shelf.Strings.Runes
import Derived.Shelf.Bits.Mul64
import Derived.Ground.Names2Prog
import Derived.Shelf.Slices.Clone
import Derived.Shelf.Slices.CompactI
import Derived.Shelf.Slices.SearchI
import Derived.Shelf.Slices.Cells
import Derived.Shelf.Slices.In.SortNone
import Derived.Shelf.Slices.Empties
import Derived.Ground.SlgnProg
import Derived.Shelf.SlicesE.Clone
import Derived.Test.YtffbohecdocajaaGreatProg
open Go.Shelf renaming Ren→ua
open Go.Proofs.Tryz renaming prog→ae,underlying3→cM,isAgg3→pj,sizeOf3→oj,zeroValue3→lN,underlying5→gj,zeroValue5→DW,underlying9→eS,zeroValue9→vI,underlying0→nK,zeroValue0→oF,underlying4→gS,isAgg4→uc,sizeOf4→sd,zeroValue4→oG,underlying112→jb,isAgg112→qR,sizeOf112→pK,zeroValue112→nh,underlying396→kZ,isAgg396→zd,sizeOf396→w5,zeroValue396→s6,underlying32→AJ,zeroValue32→BW,underlying503→ze,zeroValue503→AK,underlying158→zg,underlying155→zh,underlying160→k6,underlying347→oI,underlying401→gK,underlying505→iD,underlying210→jc,underlying442→zj,underlying440→zk,underlying445→sg,underlying446→zl,underlying197→zo
open Go.Value renaming int→bX,slice→mn
open Go.Sort renaming ahead→wk
open List renaming size_toArray→gU,getElem?_append_left→aJ,getElem?_map→aw,getElem?_eq_getElem→af,ext_getElem?→cO,getElem?_append_right→aY,length_map→aq,mem_map→bQ,map_map→dG,map_congr_left→fU,replicate→cy,replicate_succ→oc,flatten_cons→gC,length_replicate→dY,append_nil→c9,getElem?_eq_some_iff→aj,getElem_replicate→uE,mem_replicate→oB,toList_toArray→xS,range→br,length_append→aZ,mem_of_getElem?→al,map_append→bj,take_length→du,take_add_one→cQ,getElem_mem→fv,mem_iff_getElem?→cV,getElem?_set→fe,filter_append→dI,filter_cons→iN,filter_nil→mL,pairwise_iff_getElem→be,mem_map_of_mem→bE,getElem?_range→eu,mem_append→bZ,length→fT,getD_eq_getElem?_getD→av,length_filter_le→cH,mem_filter→bK,all_eq_true→bF,range_succ→fA
open Nat renaming zero_add→gq,le_add_right→AM,le_refl→bA,zero_le→bG,le_trans→eL
open Go.World renaming cell?→lK
open Option renaming isSome_none→jj,map_some→dH,ne_none_iff_exists'→om,getD_some→dk
open Bool renaming false_eq_true→bP,and_eq_true→aQ
open Array renaming getElem?_modify→qI
open Int renaming ofNat→jB,toNat→Gd,natCast_nonneg→dD
open Option.some renaming inj→gV
open Go.SL.VC renaming seq→ak,cond→ay,skip→aC,block→aG,eP→bY,gu→cP,exit→ca,ret→aP,dU→aF,perm→ik
open Go.SL.VE renaming aN→ag,gL→bB,cX→bn,cb→aL,l8→cD,res→dh,cJ→a8,mB→cI
open Go.SL.VO renaming l→ah,nil→aI,h→aD,h0→bU
open Go.SL.LO renaming len→bW,call→bD,ex→bN,mv→bJ,mul→gG,wy→gp,ld→aB,fg→aM,lA→cw,fa→aE,bd→dC,uI→fM,min→iV,Zk→sf
open Go.SL.HO renaming lo→aO,box→cf,bs→fu,fP→cz,alloc→bI,st→bl
open Go.SL.LX renaming l→aA,s→cn,nil→dw
open Go.Proofs.YtffbohecdocajaaGreat.LO renaming eqv→dy
open Go.SL.HX renaming s→au,nil→dS,h0→eW
open Go.SL.eB renaming l→fZ
open Go.SL.LL renaming l→aV
open Go.SL.RO renaming keep→DY
open Go.Ending renaming returned→cW

set_option linter.unusedSimpArgs false
set_option maxRecDepth 20000
set_option maxHeartbeats 8000000
namespace Go.Proofs
open Go.Shelf
def Tryz.IK:ua:=⟨fun|137=>272|217=>299|266=>307|n=>n,fun|9=>9|5=>5|3=>3|n=>n,fun|n=>n⟩
theorem Tryz.YY:Go.Proofs.Lays.n137 ae Tryz.IK:={
 mixed:=by kernel_rfl
 f137:=Tryz.func272.trans (congrArg some (by kernel_rfl))
 f217:=Tryz.func299.trans (congrArg some (by kernel_rfl))
 f266:=Tryz.func307.trans (congrArg some (by kernel_rfl))
 t3:=cM
 a3:=pj
 z3:=oj
 v3:=lN
 t5:=gj
 a5:=Tryz.isAgg5
 z5:=Tryz.sizeOf5
 v5:=DW
 t9:=eS
 a9:=Tryz.isAgg9
 z9:=Tryz.sizeOf9
 v9:=vI }
open Go.RowKit in
theorem Tryz.strings_IndexByte (s:ByteArray) (c:Int) (w:World):
  Calls ae 272 #[.string s,.int .u8 c] w fun e w'=>e= .returned (.int .i64 (Lib.indexByte s.data.toList c.toNat.toUInt8))∧w'=w:=Any.strings_IndexByte Tryz.YY s c w
def Tryz.JD:ua:=⟨fun|189=>205|125=>196|257=>252|128=>250|129=>251|294=>283|295=>284|296=>285|297=>286|298=>287|299=>288|216=>254|300=>289|301=>290|328=>301|329=>279|330=>280|331=>302|332=>303|215=>172|343=>308|n=>n,fun|28=>112|3=>3|46=>396|0=>0|51=>32|53=>503|4=>4|183=>496|182=>495|131=>279|5=>5|9=>9|218=>526|222=>530|228=>548|229=>457|n=>n,fun|n=>n⟩
theorem Tryz.PN:Go.Proofs.Lays.n189 ae Tryz.JD:={
 mixed:=by kernel_rfl
 f125:=Tryz.func196.trans (congrArg some (by kernel_rfl))
 f128:=Tryz.func250.trans (congrArg some (by kernel_rfl))
 f129:=Tryz.func251.trans (congrArg some (by kernel_rfl))
 f189:=Tryz.func205.trans (congrArg some (by kernel_rfl))
 f215:=Tryz.func172.trans (congrArg some (by kernel_rfl))
 f216:=Tryz.func254.trans (congrArg some (by kernel_rfl))
 f257:=Tryz.func252.trans (congrArg some (by kernel_rfl))
 f294:=Tryz.func283.trans (congrArg some (by kernel_rfl))
 f295:=Tryz.func284.trans (congrArg some (by kernel_rfl))
 f296:=Tryz.func285.trans (congrArg some (by kernel_rfl))
 f297:=Tryz.func286.trans (congrArg some (by kernel_rfl))
 f298:=Tryz.func287.trans (congrArg some (by kernel_rfl))
 f299:=Tryz.func288.trans (congrArg some (by kernel_rfl))
 f300:=Tryz.func289.trans (congrArg some (by kernel_rfl))
 f301:=Tryz.func290.trans (congrArg some (by kernel_rfl))
 f328:=Tryz.func301.trans (congrArg some (by kernel_rfl))
 f329:=Tryz.func279.trans (congrArg some (by kernel_rfl))
 f330:=Tryz.func280.trans (congrArg some (by kernel_rfl))
 f331:=Tryz.func302.trans (congrArg some (by kernel_rfl))
 f332:=Tryz.func303.trans (congrArg some (by kernel_rfl))
 f343:=Tryz.func308.trans (congrArg some (by kernel_rfl))
 t0:=nK
 a0:=Tryz.isAgg0
 z0:=Tryz.sizeOf0
 v0:=oF
 t3:=cM
 a3:=pj
 z3:=oj
 v3:=lN
 t4:=gS
 a4:=uc
 z4:=sd
 v4:=oG
 t5:=gj
 a5:=Tryz.isAgg5
 z5:=Tryz.sizeOf5
 v5:=DW
 t9:=eS
 a9:=Tryz.isAgg9
 z9:=Tryz.sizeOf9
 v9:=vI
 t28:=jb
 a28:=qR
 z28:=pK
 v28:=nh
 t46:=kZ
 a46:=zd
 z46:=w5
 v46:=s6
 t51:=AJ
 a51:=Tryz.isAgg32
 z51:=Tryz.sizeOf32
 v51:=BW
 t53:=ze
 a53:=Tryz.isAgg503
 z53:=Tryz.sizeOf503
 v53:=AK
 t131:=Tryz.underlying279
 a131:=Tryz.isAgg279
 z131:=Tryz.sizeOf279
 v131:=Tryz.zeroValue279
 t182:=Tryz.underlying495
 a182:=Tryz.isAgg495
 z182:=Tryz.sizeOf495
 v182:=Tryz.zeroValue495
 t183:=Tryz.underlying496
 a183:=Tryz.isAgg496
 z183:=Tryz.sizeOf496
 v183:=Tryz.zeroValue496
 t218:=Tryz.underlying526
 a218:=Tryz.isAgg526
 z218:=Tryz.sizeOf526
 v218:=Tryz.zeroValue526
 t222:=Tryz.underlying530
 a222:=Tryz.isAgg530
 z222:=Tryz.sizeOf530
 v222:=Tryz.zeroValue530
 t228:=Tryz.underlying548
 a228:=Tryz.isAgg548
 z228:=Tryz.sizeOf548
 v228:=Tryz.zeroValue548
 t229:=Tryz.underlying457
 a229:=Tryz.isAgg457
 z229:=Tryz.sizeOf457
 v229:=Tryz.zeroValue457 }
open Go.Sort Go.RowKit in
theorem Tryz.slices_Sort_int (de off cap:Nat) (zs:List Int) (w:World) (hH:Holds (bX .i64) w de off zs.toArray) (hblk:de<w.heap.size) (hsz:zs.length<4611686018427387904):
  Calls ae 205 #[.slice (some ⟨de,off,none⟩) zs.length cap] w fun e w'=>
   e= .returned (.tuple #[])∧∃n os,w'=grow (putRow (bX .i64) (wk w n) de off (zs.mergeSort fun x y=>decide (x≤y)).toArray) os:=Any.slices_Sort_int Tryz.PN de off cap zs w hH hblk hsz
def Tryz.JK:ua:=⟨fun|212=>263|263=>296|264=>297|n=>n,fun|46=>396|51=>32|146=>541|53=>503|148=>543|n=>n,fun|n=>n⟩
theorem Tryz.YV:Go.Proofs.Lays.n212 ae Tryz.JK:={
 mixed:=by kernel_rfl
 f212:=Tryz.func263.trans (congrArg some (by kernel_rfl))
 f263:=Tryz.func296.trans (congrArg some (by kernel_rfl))
 f264:=Tryz.func297.trans (congrArg some (by kernel_rfl))
 t46:=kZ
 a46:=zd
 z46:=w5
 v46:=s6
 t51:=AJ
 a51:=Tryz.isAgg32
 z51:=Tryz.sizeOf32
 v51:=BW
 t53:=ze
 a53:=Tryz.isAgg503
 z53:=Tryz.sizeOf503
 v53:=AK
 t146:=Tryz.underlying541
 a146:=Tryz.isAgg541
 z146:=Tryz.sizeOf541
 v146:=Tryz.zeroValue541
 t148:=Tryz.underlying543
 a148:=Tryz.isAgg543
 z148:=Tryz.sizeOf543
 v148:=Tryz.zeroValue543 }
open Go.RowKit Go.Lib in
theorem Tryz.bits_Mul (x y:Nat) (hx:x<18446744073709551616) (hy:y<18446744073709551616) (w:World):
  Calls ae 263 #[.int .u64 x,.int .u64 y] w fun e w'=>e= .returned (.tuple #[.int .u64 ((x*y / 18446744073709551616:Nat):Int),.int .u64 ((x*y%18446744073709551616:Nat):Int)])∧w'=w:=Any.bits_Mul Tryz.YV x y hx hy w
def Tryz.Ez:ua:=⟨fun|15=>71|n=>n,fun|22=>112|3=>3|4=>4|n=>n,fun|n=>n⟩
theorem Tryz.AA:Go.Proofs.Lays2.n15 ae Tryz.Ez:={
 mixed:=by kernel_rfl
 f15:=Tryz.func71.trans (congrArg some (by kernel_rfl))
 t3:=cM
 a3:=pj
 z3:=oj
 v3:=lN
 t4:=gS
 a4:=uc
 z4:=sd
 v4:=oG
 t22:=jb
 a22:=qR
 z22:=pK
 v22:=nh
 i3:=by kernel_rfl }
open Go.RowKit Go.Lib in
theorem Tryz.slices_Clone_int (b off n c:Nat) (zs:List Int) (w:World) (hz:n≤zs.length) (hbig:n*8≤140737488355328) (hc:∀j,j<zs.length→w.cell? ⟨b,off+j,none⟩=some (.int .i64 (zs.getD j 0))):
  Calls ae 71 #[.slice (some ⟨b,off,none⟩) n c] w fun e w'=>∃v',e= .returned v'∧w'.ownsRow w.heap.size 3 1 v' n ((zs.take n).map (bX .i64))∧v'≠ .slice none 0 0∧Below w.heap.size w w':=Any.slices_Clone_int Tryz.AA b off n c zs w hz hbig hc
open Go.RowKit Go.Lib in
theorem Tryz.slices_Clone_int_nil (n c:Nat) (w:World):
  Calls ae 71 #[.slice none n c] w fun e w'=>e= .returned (.slice none 0 0)∧w'=w:=Any.slices_Clone_int_nil Tryz.AA n c w
open Go.RowKit Go.Lib in
theorem Tryz.slices_Clone_int_zero (a:Addr) (c:Nat) (w:World):
  Calls ae 71 #[.slice (some a) 0 c] w fun e w'=>∃v',e= .returned v'∧w'.ownsRow w.heap.size 3 1 v' 0 []∧v'≠ .slice none 0 0∧Below w.heap.size w w':=Any.slices_Clone_int_zero Tryz.AA a c w
def Tryz.ED:ua:=⟨fun|25=>211|31=>254|32=>255|37=>172|n=>n,fun|22=>112|3=>3|4=>4|40=>396|0=>0|n=>n,fun|n=>n⟩
theorem Tryz.Fq:Go.Proofs.Lays2.n25 ae Tryz.ED:={
 mixed:=by kernel_rfl
 f25:=Tryz.func211.trans (congrArg some (by kernel_rfl))
 f31:=Tryz.func254.trans (congrArg some (by kernel_rfl))
 f32:=Tryz.func255.trans (congrArg some (by kernel_rfl))
 f37:=Tryz.func172.trans (congrArg some (by kernel_rfl))
 t0:=nK
 a0:=Tryz.isAgg0
 z0:=Tryz.sizeOf0
 v0:=oF
 t3:=cM
 a3:=pj
 z3:=oj
 v3:=lN
 t4:=gS
 a4:=uc
 z4:=sd
 v4:=oG
 t22:=jb
 a22:=qR
 z22:=pK
 v22:=nh
 t40:=kZ
 a40:=zd
 z40:=w5
 v40:=s6 }
open Go.RowKit Go.Lib in
theorem Tryz.slices_BinarySearch_int (b off n c:Nat) (zs:List Int) (x:Int) (w:World) (hz:n≤zs.length) (hbig:n<4611686018427387904) (hc:∀j,j<zs.length→w.cell? ⟨b,off+j,none⟩=some (.int .i64 (zs.getD j 0))) (hs:(zs.take n).Pairwise (· ≤ ·)):
  Calls ae 211 #[.slice (some ⟨b,off,none⟩) n c,.int .i64 x] w fun e w'=>e= .returned (.tuple #[.int .i64 ((zs.take n).countP (· <x):Nat),.bool ((zs.take n).contains x)])∧∃q,w'=w.drewN q:=Any.slices_BinarySearch_int Tryz.Fq b off n c zs x w hz hbig hc hs
open Go.RowKit Go.Sort in
theorem Tryz.slices_Sort_int_none (p:Option Addr) (cap:Nat) (w:World):
  Calls ae 205 #[.slice p 0 cap] w fun e w'=>e= .returned (.tuple #[])∧w'=w:=Any.slices_Sort_int_none Tryz.PN p cap w
open Go.RowKit Go.Lib in
theorem Tryz.slices_BinarySearch_int_empty (a:Option Addr) (c:Nat) (x:Int) (w:World):
  Calls ae 211 #[.slice a 0 c,.int .i64 x] w fun e w'=>e= .returned (.tuple #[.int .i64 0,.bool false])∧w'=w:=Any.slices_BinarySearch_int_empty Tryz.Fq a c x w
end Go.Proofs
namespace Go.SL
set_option linter.unusedVariables false
set_option linter.unusedSimpArgs false
open Go.RowKit Go.Sort
section
variable {P:Program} {β:Bs} {L:List cq}
theorem wh (l:List Int):(l.map fun n=>[bX .i64 n]).flatten=l.map (bX .i64):=by
 induction l with
 |nil=>rfl
 |cons x l ih=>simp [ih]
theorem Rt {w:World} {E cap:Nat} {a:Addr} {l:List Int} (h:(own E 1 (some a) cap (l.map fun n=>[.int .i64 n])).inv w):Holds (bX .i64) w a.block 0 l.toArray∧a=⟨a.block,0,none⟩:=by
 obtain⟨h1,h2,h3,h4⟩:=h
 obtain⟨g1,g2,C,spare,g3,g4,g5⟩:=h4 a rfl
 have ea:a=⟨a.block,0,none⟩:=by cases a;simp_all
 refine⟨fun j hj=>?_,ea⟩
 rw[gU]at hj
 refine⟨?_,frozen_of_row w a.block _ C E g3⟩
 rw[wh]at g4
 have:C.toList[0+j]? =some (.int .i64 l[j]):=by
  rw[g4,gq,aJ (by simpa using hj),aw,af hj];rfl
 simp only[lK,g3,jj,bP,if_false]
 rw[←Array.getElem?_toList,this]
 congr 2
 rw[getElem!_pos _ _ (by simpa using hj)]
 simp
theorem Ym {w w':World} {E cap b n:Nat} {l m:List Int} {os:Array Obj} (h:(own E 1 (some ⟨b,0,none⟩) cap (l.map fun n=>[.int .i64 n])).inv w) (hb:b<w.heap.size) (hm:m.length=l.length)
  (hw:w'=grow (putRow (bX .i64) (wk w n) b 0 m.toArray) os):St ⟨w,(own E 1 (some ⟨b,0,none⟩) cap (l.map fun n=>[.int .i64 n])).fp⟩ [own E 1 (some ⟨b,0,none⟩) cap (m.map fun n=>[.int .i64 n])] w':=by
 obtain⟨h1,h2,h3,h4⟩:=h
 obtain⟨g1,g2,C,spare,g3,g4,g5⟩:=h4 _ rfl
 rw[wh]at g4
 have hsz:(putRow (bX .i64) (wk w n) b 0 m.toArray).heap.size=w.heap.size:=by rw[size_putRow];rfl
 have hlen:l.length≤C.size:=by
  have:C.toList.length=C.size:=Array.length_toList
  rw[←this,g4];simp
 have hnew:w'.heap[b]? =some (.cells (putCells (bX .i64) 0 m.toArray C) E (0,0)):=by
  rw[hw,heap_grow_old _ _ (by rw[hsz];exact hb)]
  have:(wk w n).heap=w.heap:=rfl
  simp only[putRow,mapBlock,this,qI,g3,if_true,dH,onCells]
 have hC:(putCells (bX .i64) 0 m.toArray C).toList=m.map (bX .i64)++spare:=by
  refine cO fun k=>?_
  have e1:(putCells (bX .i64) 0 m.toArray C).toList[k]? =C.toList[k]?.map fun x=>if k<m.length then .int .i64 (m.toArray[k]!) else x:=by
   unfold putCells
   simp [Array.getElem?_mapIdx]
  rw[e1,g4]
  by_cases hk:k<m.length
  ·rw[aJ (by simp;omega),aJ (by simpa using hk),aw,aw,af hk,af (show k<l.length by omega)]
   simp [hk]
  ·rw[aY (by simp;omega),aY (by simpa using hk)]
   simp only[aq,hm]
   rw[hm]at hk
   cases spare[k-l.length]? with
   |none=>rfl
   |some v=>simp only[dH];rw[if_neg hk]
 have hfr:∀k,k<w.heap.size→k≠b→w'.heap[k]? =w.heap[k]? :=by
  intro k hk hne
  rw[hw,heap_grow_old _ _ (by rw[hsz];exact hk)]
  have:(wk w n).heap=w.heap:=rfl
  simp only[putRow,mapBlock,this,qI]
  rw[if_neg (Ne.symm hne)]
 refine⟨by rw[hw];rfl,by rw[hw];rfl,by rw[hw];rfl,by rw[hw,size_grow,hsz];exact AM _ _,?_,?_,?_,?_⟩
 ·intro k hk hO
  exact hfr k hk (fun e=>hO ⟨by simp,e⟩)
 ·intro i r hr
  cases i with
  |zero=>
   cases hr
   refine⟨by simp [hm]at h1 ⊢;exact h1,by intro r hr;obtain⟨x,_,rfl⟩:=bQ.1 hr;rfl,fun q=>(by cases q),fun a q=>?_⟩
   cases q
   refine⟨rfl,rfl,_,spare,hnew,by rw[wh];exact hC,?_⟩
   rw[←g5];simp [putCells]
  |succ i=>simp at hr
 ·intro i r hr k hk
  cases i with
  |zero=>
   cases hr
   have e:k=b:=hk.2
   subst e
   refine⟨.inl ⟨by simp,rfl⟩,?_⟩
   rw[hw,size_grow,hsz];exact Nat.lt_of_lt_of_le hb (AM _ _)
  |succ i=>simp at hr
 ·intro i j r s hij hr hs
  cases i with
  |zero=>cases j with|zero=>exact absurd rfl hij|succ j=>simp at hs
  |succ i=>simp at hr
end
end Go.SL
namespace Go.Proofs.YtffbohecdocajaaGreat
open Go.SL Go.Proofs Go.qO Go.Sort
set_option linter.unusedVariables false
def lT (n:Int):List Value:=[.int .i64 n]
def yR (l:List Int):List Int:=l.mergeSort fun x y=>decide (x≤y)
theorem R1 (l:List Int):(yR l).length=l.length:=List.length_mergeSort ..
theorem aeS {β:Bs} {L:List cq} {w:World} {p:Option Addr} {cap:Nat} {l:List Int} (i:Nat) (hw:St β L w) (hi:L[i]? =some (own 3 1 p cap (l.map lT))) (hl:l.length<4611686018427387904):
  Calls ae 205 #[.slice p l.length cap] w fun e w'=>∃x:Unit,True∧e= .returned (.tuple #[])∧St ⟨w,(own 3 1 p cap (l.map lT)).fp⟩ [own 3 1 p cap ((yR l).map lT)] w':=by
 have hinv:=hw.inv i _ hi
 have hrng:=hw.pM i _ hi
 cases p with
 |none=>
  have h0:l=[]:=by simpa using(hinv.2.2.1 rfl).1
  subst h0
  refine(Tryz.slices_Sort_int_none none cap w).mono fun e w' ⟨h1,h2⟩=>⟨(),trivial,h1,?_⟩
  subst h2
  rw[show yR []=[]from by simp [yR]]
  exact St.one hinv (fun k hk=>(hrng k hk).2)
 |some a=>
  obtain⟨hH,ea⟩:=Rt hinv
  have hb:a.block<w.heap.size:=(hrng a.block ⟨by simp,rfl⟩).2
  rw[ea]at hinv ⊢
  refine(Tryz.slices_Sort_int a.block 0 cap l w hH hb hl).mono fun e w' ⟨h1,n,os,h2⟩=>⟨(),trivial,h1,?_⟩
  exact Ym (m:=yR l) hinv hb (R1 l) h2
end Go.Proofs.YtffbohecdocajaaGreat
namespace Go.Proofs.YtffbohecdocajaaGreat
open Go.SL Go.Proofs Go.qO Go.Cell
set_option linter.unusedVariables false
def uZ (l:List Nat):List Nat:=(yR (l.map jB)).map Gd
theorem CZ (l:List Int):(yR l).Perm l:=List.mergeSort_perm _ _
theorem Hb (l:List Int):(yR l).Pairwise (· ≤ ·):=by
 have:=List.pairwise_mergeSort (le:=fun x y:Int=>decide (x≤y)) (fun a b c h1 h2=>by simp at*;omega) (fun a b=>by simp;omega) l
 exact this.imp (fun h=>by simpa using h)
theorem xI (l:List Nat):(uZ l).Perm l:=by
 have h:=(CZ (l.map jB)).map Gd
 rw[dG]at h
 have e:(Gd∘jB)=id:=by funext x;rfl
 rw[e,List.map_id]at h
 exact h
theorem GR (l:List Nat):(uZ l).Pairwise (· ≤ ·):=by
 unfold uZ
 refine List.pairwise_map.2 ((Hb _).imp fun h=>by omega)
theorem FB (l:List Nat):(uZ l).length=l.length:=(xI l).length_eq
theorem Jp (l:List Nat):(uZ l).map nC=(yR (l.map jB)).map lT:=by
 unfold uZ
 rw[dG]
 refine fU fun x hx=>?_
 obtain⟨y,_,rfl⟩:=bQ.1 ((CZ _).mem_iff.1 hx)
 rfl
theorem Fl (l:List Nat):l.map nC=(l.map jB).map lT:=by rw[dG];rfl
theorem PO {β:Bs} {L:List cq} {w:World} {p:Option Addr} {cap:Nat} {l:List Nat} (i:Nat) (hw:St β L w) (hi:L[i]? =some (own 3 1 p cap (l.map nC))) (hl:l.length<4611686018427387904):
  Calls ae 205 #[.slice p l.length cap] w fun e w'=>∃x:Unit,True∧e= .returned (.tuple #[])∧St ⟨w,(own 3 1 p cap (l.map nC)).fp⟩ [own 3 1 p cap ((uZ l).map nC)] w':=by
 rw[Fl]at hi
 have h:=aeS (l:=l.map jB) i hw hi (by rw[aq];exact hl)
 rw[aq]at h
 rw[Jp,Fl]
 exact h
theorem I8 {l m:List Nat} (hm:m.Pairwise (· < ·)) (hl:l.Nodup) (h:∀x,x∈l↔x∈m):uZ l=m:=by
 refine Ce ?_ hm fun x=>by rw[(xI l).mem_iff];exact h x
 have h1:=GR l
 have h2:(uZ l).Nodup:=(xI l).nodup_iff.2 hl
 refine(List.Pairwise.and h1 h2).imp fun⟨a,b⟩=>Nat.lt_of_le_of_ne a b
theorem ei:dF ae 112 3:=jb
theorem alT:ef ae 263:=⟨_,Tryz.func263,by decide,rfl⟩
theorem N3:(ae.info? 3).map (·.size)=some 1:=by kernel_rfl
theorem I3:jW ae 3 1 8 (.int .i64 0):=⟨by kernel_rfl,by kernel_rfl,by unfold cj;kernel_rfl,rfl,by decide⟩
def uA (v:Int) (n k:Nat):List Value:=cy k (.int .i64 v)++cy (n-k) (.int .i64 0)
theorem GJ {v:Int} {n k:Nat} (h:k≤n):(uA v n k).length=n:=by unfold uA;simp;omega
theorem yU (v:Int) (n:Nat):(cy n (bX .i64 0).cells.toList).flatten=uA v n 0:=by
 unfold uA
 show(cy n [bX .i64 0]).flatten=_
 induction n with
 |zero=>rfl
 |succ n ih=>rw[oc,gC,ih];simp [oc]
theorem If {v:Int} {n k m:Nat} (h:k+m≤n):(uA v n k).take k++cy m (.int .i64 v)++(uA v n k).drop (k+m)=uA v n (k+m):=by
 unfold uA
 rw[List.take_left' (by simp),List.drop_append,List.drop_eq_nil_of_le (by simp),List.nil_append,dY,List.drop_replicate,show n-k-(k+m-k)=n-(k+m) by omega,List.replicate_append_replicate]
theorem YA {v:Int} {n k j:Nat} {x:Value} (h:j<k):(uA v n k)[j]? =some (.int .i64 v):=by
 unfold uA
 rw[aJ (by simpa using h),List.getElem?_replicate,if_pos h]
theorem Hn {b o j:Nat}:(⟨b,o,none⟩:Addr).add j=⟨b,o+j,none⟩:=by unfold Addr.add;split<;>simp_all
theorem Ws {β:Bs} {L:List cq} {w:World} {b E i:Nat} {C:List Value} (hw:St β L w) (hi:L[i]? =some (de b (.cells C.toArray E))) {j:Nat} {x:Value} (h:C[j]? =some x):w.cell? ⟨b,j,none⟩=some x:=by
 have:=hw.inv i _ hi
 have hh:w.heap[b]? =some (.cells C.toArray E (0,0)):=this
 simp only[lK,hh,jj,bP,if_false]
 simpa using h
theorem St.XR {β:Bs} {L:List cq} {w:World} {b n:Nat} {v:Int} (i:Nat) (hw:St β L w) (hi:L[i]? =some (de b (.cells (uA v n n).toArray 3))):St β (L.set i (own 3 1 (some ⟨b,0,none⟩) n ((cy n v).map iC))) w:=by
 have key:∀m:Nat,(cy m (iC v)).flatten=cy m (bX .i64 v):=fun m=>by
  induction m with
  |zero=>rfl
  |succ m ih=>rw[oc,gC,ih];rfl
 have e:((cy n v).map iC).flatten=uA v n n:=by
  unfold uA
  rw[Nat.sub_self,List.replicate_zero,c9,List.map_replicate]
  exact key n
 exact hw.conv i hi (fun k hk=>hk.2) ⟨by simp,fun r hr=>by obtain⟨x,_,rfl⟩:=bQ.1 hr;rfl,fun q=>(by cases q),fun a ha=>by
  cases ha
  exact⟨rfl,rfl,(uA v n n).toArray,[],hw.inv i _ hi,by rw[e];simp,by rw[gU,GJ (bA _),Nat.mul_one]⟩⟩
theorem adr {v:Int} {n:Nat}:(cy (min 1 n) (bX .i64 v)).length=Nat.min 1 n:=dY ..
theorem wu {e:Int} (h1:0≤e) (h2:e≤18446744073709551615):IntKind.wrap .u64 e=e:=IntWalk.u64_in _ ⟨h1,h2⟩
theorem aer {w0 w:World} {a0:Addr} {v:Int} {n:Nat} {L:List cq} (hv:Ints w0 (some a0) [v]) (hw:St (bs w0) L w) {j:Nat} {x:Value} (hx:(cy (min 1 n) (bX .i64 v))[j]? =some x):w.cell? (a0.add j)=some x:=by
 obtain⟨hj,e⟩:=aj.1 hx
 rw[dY]at hj
 rw[uE]at e
 have hj0:j=0:=by omega
 subst hj0
 have h1:=hv.at (j:=0) (by simp) w hw 0 (.int .i64 v) rfl
 have ha:=hv.some (by simp)
 rw[←e]
 have e2:(⟨pb (some a0),po (some a0)+0*1,none⟩:Addr)=a0:=by
  rw[Nat.zero_mul,Nat.add_zero];exact(gV ha).symm
 rw[e2]at h1
 exact h1
theorem adK {β:Bs} {L:List cq} {w:World} {b i n k m:Nat} {v:Int} (hw:St β L w) (hi:L[i]? =some (de b (.cells (uA v n k).toArray 3))) {j:Nat} {x:Value} (hx:(cy (min k m) (bX .i64 v))[j]? =some x):w.cell? ((⟨b,0,none⟩:Addr).add j)=some x:=by
 obtain⟨hj,e⟩:=aj.1 hx
 rw[dY]at hj
 rw[uE]at e
 rw[←e,Hn,gq]
 exact Ws hw hi (YA (by omega) (x:=x))
theorem ahf (n:Nat) (w:World) (hn:n≤4096):Calls ae 263 #[.int .u64 ((1:Nat):Int),.int .u64 (n:Int)] w fun e w'=>e= .returned (.tuple #[.int .u64 0,.int .u64 (n:Int)])∧St (bs w) [] w':=by
 refine(Tryz.bits_Mul 1 n (by omega) (by omega) w).mono ?_
 rintro e w' ⟨rfl,rfl⟩
 refine⟨?_,St.refl _⟩
 rw[Nat.one_mul,Nat.div_eq_of_lt (by omega),Nat.mod_eq_of_lt (by omega)]
 rfl
theorem Ti (v:Int) (a0:Addr) (cv n:Nat) (w:World) (hv:Ints w (some a0) [v]) (hn:n≤4096):
 Calls ae 224 #[.slice (some a0) 1 cv,.int .i64 (n:Int)] w fun e w'=>∃x:Option Addr×Nat,True∧e= .returned (.slice x.1 n x.2)∧St (bs w) [own 3 1 x.1 x.2 ((cy n v).map iC)] w':=by
 refine enter (vs:=[_,_]) (env:=[(0,_),(1,_)]) Tryz.func224 rfl rfl rfl rfl ?_
 refine VC.q (VO.a rfl<|VO.n<|ak<|VC.q (VO.m rfl<|VO.t rfl<|VO.n ?_))
 refine ay rfl (fun h10=>?_) (fun h10=>?_)
 · (exfalso;omega)
 ·
  refine aC (ag<|VC.q (VO.m rfl<|ah (bW ei (.r rfl) rfl) rfl<|ah (LO.cv ⟨_,cM⟩ kZ (.r rfl) (wu (by omega) (by omega))) rfl<|VO.m rfl<|ah (LO.cv ⟨_,cM⟩ kZ (.r rfl) (wu (by omega) (by omega))) rfl<|ah (bD (xs:=[_,_]) (vs:=[_,_]) alT ⟨(.r rfl),(.r rfl),trivial⟩ (fun w hw=>ahf n w hn)) rfl<|VO.m rfl<|ah (bN (.r rfl) rfl) rfl<|ah (bN (.r rfl) rfl) rfl<|VO.a rfl<|VO.a rfl<|VO.n<|ak<|VC.q (VO.m rfl<|ah (LO.gt (.r rfl) (.r rfl)) rfl<|VO.m rfl<|VO.gf rfl (fun hg=>bJ (.r rfl))<|VO.gf rfl (fun hg=>LO.gt (.g hg rfl) (.r rfl))<|ah (LO.qh (.r rfl) (.r rfl) rfl rfl) rfl<|aI ?_)))
  refine ag<|ay rfl (fun h26=>?_) (fun h26=>?_)
  · (exfalso;omega)
  ·
   refine aC (ag<|VC.q (VO.m rfl<|ah (LO.cv ⟨_,kZ⟩ cM (.r rfl) (wi (by omega) (by omega))) rfl<|aD rfl<|HO.akL (n:=n) ei I3 (.r rfl) (.r rfl) rfl (by decide) (by omega) (by omega) fun b1=>aD rfl<|aO (LO.as (.r rfl))<|aI ?_))
   rw[yU v]
   refine ag<|VC.q (VO.m rfl<|VO.m rfl<|aD rfl<|HO.cpy 0 (fun R=>[R]) (C':=(uA v n (min 1 n)).toArray) (cs:=cy (min 1 n) (.int .i64 v)) ei N3 (.r rfl) (.r rfl) rfl adr (fun w2 hw2 j x hx=>aer hv hw2 hx) (by rw[dY,gU,GJ (bG _)];omega) (fun x hx=>by rw[(oB.1 hx).2];rfl) (by rw[xS,dY];have z:=If (v:=v) (n:=n) (k:=0) (m:=min 1 n) (by omega);rw[gq]at z ⊢;rw[z]) (fun _=>rfl)<|aD rfl<|aO (LO.as (.r rfl))<|aI ?_)
   rw[dY]
   refine ag<|ak<|aG<|bY (α:=Nat) 1 (fun gx=>[(8,.int .i64 (gx:Nat))]) [(7,_)] (fun gx=>[de b1 (.cells (uA v n gx).toArray 3)]) (fun gx=>gx≤n∧(0<n→0<gx)) (fun gx=>n-gx) (min 1 n) (by omega) (.cons rfl (.cons rfl .nil)) (fun _ h=>h) ?_
   rintro k hk
   refine ak<|VC.q (VO.m rfl<|VO.m rfl<|ah (bW ei (.r rfl) rfl) rfl<|VO.t rfl<|VO.n<|ay rfl (fun h37=>?_) (fun h37=>?_))
   ·
    refine aC (ag<|aG<|cP [[0],[],[],[]] [some 1,some 0,some 0,some 0,some 0,some 0,some 0,none,none,none] mixed (by kernel_rfl) rfl (LX.m rfl<|LX.m rfl<|LX.m rfl<|aA (fun _ hJ=>dy (LO.sl (l:=k) ei N3 (.r rfl) (.r rfl) rfl (by omega)) (by rw[Rq (by omega)])) rfl<|LX.m rfl<|LX.m rfl<|aA (fun _ hJ=>LO.slH (k:=k) ei N3 (.r rfl) (.r rfl) rfl (by omega)) rfl<|cn<|cn<|cn<|dw) (au<|au<|au<|au<|au<|au<|au<|HX.h rfl<|HO.cpy 0 (fun R=>[R]) (C':=(uA v n (k+min k (n-k))).toArray) (cs:=cy (min k (n-k)) (.int .i64 v)) ei N3 (.r rfl) (.r rfl) rfl (dY ..) (fun w2 hw2 j x hx=>adK (i:=0) (n:=n) hw2 rfl hx) (by rw[dY,gU,GJ hk.1];omega) (fun x hx=>by rw[(oB.1 hx).2];rfl) (by rw[xS,dY,If (by omega)]) (fun _=>rfl)<|⟨fun _ hw=>hw.fO [] rfl,HX.h rfl<|aO (LO.add (.r rfl) (.r rfl) (wi (by rw[dY];omega) (by rw[dY];omega)))<|⟨fun _ hw=>hw.fO [] rfl,HX.h rfl<|aO (LO.as (.r rfl))<|⟨fun _ hw=>hw.fO [] rfl,dS ?_⟩⟩⟩))
    refine bB<|bn fun a w ha hw=>⟨k+min k (n-k),(by omega),(by omega),ha.sub (.cons (congrArg (fun z=>some (bX .i64 z)) (by rw[dY];omega)) (.cons rfl .nil)),hw⟩
   ·
    have hkn:k=n:=by omega
    subst hkn
    refine ca (aL (aL (cD (ag<|VC.q (VO.m rfl<|VO.a rfl<|VO.n<|aP (VE.s rfl rfl (fun w hw=>?_)))))))
    exact⟨(some ⟨b1,0,none⟩,_),trivial,rfl,St.XR 0 hw rfl⟩
theorem amz:ef ae 264:=⟨_,Tryz.func264,by decide,rfl⟩
theorem akP:ef ae 225:=⟨_,Tryz.func225,by decide,rfl⟩
theorem Z3:cj ae 3 (.int .i64 0):=by unfold cj;kernel_rfl
theorem alG:ef ae 224:=⟨_,Tryz.func224,by decide,rfl⟩
theorem TJ:cj ae 112 (.slice none 0 0):=by unfold cj;kernel_rfl
theorem qo:(ae.info? 112).map (·.size)=some 1:=by kernel_rfl
theorem ij:ig ae 112:=⟨⟨_,jb,rfl⟩,by kernel_rfl⟩
theorem agx:ig ae 179:=⟨⟨_,Tryz.underlying179,rfl⟩,by kernel_rfl⟩
theorem rm:dF ae 158 112:=zg
theorem aiS:ef ae 205:=⟨_,Tryz.func205,by decide,rfl⟩
theorem adJ:jW ae 112 1 24 (.slice none 0 0):=⟨by kernel_rfl,by kernel_rfl,by unfold cj;kernel_rfl,rfl,by decide⟩
theorem iE {w:World} {b:Nat} {C:Array Value} {E:TypeId} (h:(de b (.cells C E)).inv w):fk w ⟨b,0,none⟩ C.toList:=by
 intro j v hj
 rw[Hn,gq]
 have hb:w.heap[b]? =some (.cells C E):=h
 simp only[lK,hb,jj,bP,if_false]
 simpa using hj
theorem Ul {β:Bs} {L:List cq} {w:World} {b:Nat} {v:Int} (i:Nat) (hw:St β L w) (hi:L[i]? =some (de b (.cells #[.int .i64 v] 3))):Ints w (some ⟨b,0,none⟩) [v]:=by
 have h:w.heap[b]? =some (.cells #[.int .i64 v] 3 (0,0)):=hw.inv i _ hi
 refine⟨fun j r hr=>?_,fun q=>(by cases q),fun _ a ha=>(by cases ha;rfl)⟩
 cases j with
 |succ j=>simp at hr
 |zero=>
  simp at hr;subst hr
  intro k x hk
  cases k with
  |succ k=>simp at hk
  |zero=>
   simp at hk;subst hk
   show lK w ((⟨b,0+0*1,none⟩:Addr).add 0)=_
   rw[Hn]
   simp only[lK,h,jj,bP,if_false]
   rfl
theorem St.PA {β:Bs} {L:List cq} {w:World} {E b:Nat} {v:List Value} {z:Nat} (i:Nat) (hz:v.length=z) (hi:L[i]? =some (de b (.cells v.toArray E))) (hw:St β L w):St β (L.set i (own E z (some ⟨b,0,none⟩) 1 [v])) w:=
 hw.conv i hi (fun k hk=>hk.2) ⟨by simp,fun r hr=>by simp at hr;subst hr;exact hz,fun q=>(by cases q),fun a ha=>by
  cases ha
  exact⟨rfl,rfl,v.toArray,[],hw.inv i _ hi,by simp,by simp [hz]⟩⟩
structure PtY where
 rs:List (eB Nat)
 p:Option Addr
 c:Nat
 po:Option Addr
 co:Nat
def pF (W H:Nat) (S:Nat→Bool):List Int:=(br (W*H)).map (lX (eU W H S))
theorem ZG {W H:Nat} {S:Nat→Bool}:CF W H S (W*H) []=pF W H S:=by
 unfold CF pF eU
 refine fU fun q _=>?_
 unfold GW;rw[if_neg (by simp)]
theorem aet {rs:List (eB Nat)} {ls:List (List Nat)} (h:rs.map fZ=ls):(rs.length:Int)=(ls.length:Int):=by rw[←h,aq]
theorem lF {W H:Nat} {S:Nat→Bool}:∀{p},(eZ W H S p).length≤p
 |0=>by simp [eZ]
 |p+1=>by
  have:=lF (W:=W) (H:=H) (S:=S) (p:=p)
  rw[eZ];split
  ·rw[aZ];simp;omega
  ·omega
theorem O8 (g:cU) (fq:FuncId) (sv:List Value) (S:Nat→Bool) (w:World) (hg:cF g) (hfq:ef ae fq) (hq:∀{L:List cq} (w2:World) (p:Nat),p<gW g*gH g→St (bs w) L w2→Calls ae fq (sv++[bX .i64 (p:Int)]++[]).toArray w2 fun e w'=>e= .returned (.bool (S p))∧St (bs w2) [] w'):
 Calls ae 174 #[uk g,.func (.func fq) sv.toArray #[]] w fun e w'=>∃y:PtY,y.rs.map fZ=eU (gW g) (gH g) S∧e= .returned (.tuple #[.slice y.p y.rs.length y.c,.slice y.po (gW g*gH g) y.co])∧St (bs w) [own 112 1 y.p y.c (y.rs.map sw),ri 3 1 nC y.rs,own 3 1 y.po y.co ((pF (gW g) (gH g) S).map iC)] w':=by
 have har:=qN hg
 obtain⟨hW,hH,hW1,hW2,hH1,hH2⟩:=ME hg
 have hbd:=Mn hg
 obtain⟨W_,hW_⟩:∃n,n=gW g*gH g:=⟨_,rfl⟩
 refine enter (vs:=[_,_]) (env:=[(0,_),(1,_)]) Tryz.func174 rfl rfl rfl rfl ?_
 refine ak<|VC.dm0<|aF (aD rfl<|cf (C:=#[_,_,_,_,_]) rfl rfl fun b2=>aD rfl<|cf (C:=#[_]) rfl rfl fun b3=>VO.a rfl<|VO.a rfl<|VO.n<|VC.q (VO.a rfl<|VO.n ?_))
 refine VC.q (aD rfl<|fu (ps:=[(_,_)]) (vs:=[(_,_)]) (Z:=[_]) (C:=[_]) ei Z3 N3 ⟨(.r rfl),trivial⟩ rfl rfl rfl rfl ⟨_,[_],[_],rfl,rfl,rfl,rfl,rfl⟩ fun b4=>VO.f (r:=3) jD rfl<|VO.c 2 O3 rfl rfl ⟨_,rfl⟩ rfl<|VO.f (r:=4) qH rfl<|VO.c 2 O3 rfl rfl ⟨_,rfl⟩ rfl<|ah (dy (gG (.r rfl) (.r rfl) (wi (by omega) (by omega))) (congrArg (bX .i64) hbd.symm)) rfl<|aD rfl<|cz (xs:=[_,_]) (vs:=[_,_]) alG ⟨(.r rfl),(.r rfl),trivial⟩ (fun w hw=>Ti (-1) _ 1 (gW g*gH g) w (Ul 0 hw rfl) har) fun x _=>aD rfl<|bI (C:=#[_]) TJ rfl fun b6=>bU<|bl 0 (vs:=[_]) (C':=[_]) (L':=[_,_,_,_,_,_]) qo rfl rfl rfl rfl rfl rfl rfl rfl<|aI ?_)
 rw[Vz (S:=S)]
 refine ag<|ak<|VC.q (VO.c 0 ij rfl rfl ⟨_,rfl⟩ rfl<|ah (bW ei (.r rfl) rfl) rfl<|VO.m rfl<|VO.n<|aG<|ik [1,5,0,2,3,4] rfl ?_)
 refine VC.abR (α:=Nat×(List (eB Nat))×(Option Addr)×Nat×(List Nat)) 2 (fun gx=>[(6,.slice gx.2.2.1 gx.2.1.length gx.2.2.2.1),(22,.int .i64 (gx.1:Nat))]) [(2,_),(3,_),(7,_),(21,_)] (fun gx=>[own 3 1 x.1 x.2 ((CF (gW g) (gH g) S gx.1 []).map iC),own 112 1 gx.2.2.1 gx.2.2.2.1 (gx.2.1.map sw),ri 3 1 nC gx.2.1,Db gx.2.2.2.2]) (fun gx=>gx.2.2.2.2) (fun gx=>gx.1≤gW g*gH g∧gx.2.1.map fZ=eZ (gW g) (gH g) S gx.1) (fun gx=>gW g*gH g-gx.1) (0,[],none,0,[]) rfl (by exact⟨bG _,rfl⟩) (.c4 rfl rfl rfl rfl (.cons rfl (.cons rfl .nil))) (fun _ h=>(((h.yF 3 1 nC).fX 112 1)).fO [2,0,1,3,4,5,6,7] rfl) ?_
 rintro ⟨p,rs,pr,cr,Ds⟩ ⟨hpn,hrs⟩
 show VC _ _ _ _ _ ([(6,.slice pr rs.length cr),(22,.int .i64 (p:Nat))]++_) ([own 3 1 x.1 x.2 ((CF (gW g) (gH g) S p []).map iC),own 112 1 pr cr (rs.map sw),ri 3 1 nC rs,Db Ds]++_) _ _
 dsimp only at hpn hrs
 have hrl:=aet hrs
 have hpl:=lF (W:=gW g) (H:=gH g) (S:=S) (p:=p)
 refine VC.q (VO.t rfl<|VO.n<|ak<|ay rfl (fun h23=>?_) (fun h23=>?_))
 ·
  refine aC (ag<|ak<|aG<|VC.q (VO.m rfl<|VO.a rfl<|VO.n<|ak ?_))
  refine VC.q (VO.c 4 ij rfl rfl ⟨_,rfl⟩ rfl<|VO.m rfl<|ah (gp ei N3 (fun _ hw=>(dE hw 0 rfl).some (by rw[aq,pC])) (.r rfl) (.r rfl) rfl (by omega)) rfl<|ah (aB O3 (.r rfl) (fun w hw=>bq (off:=0) (gN hw 0 rfl (y3 (by omega))) ⟨_,rfl⟩)) rfl<|ah (LO.ge (.r rfl) (.r rfl)) rfl<|VO.m rfl<|VO.gf rfl (fun hg=>aB agx (.r rfl) (ax 6 rfl ⟨_,rfl⟩))<|VO.gf rfl (fun hg=>bJ (.r rfl))<|VO.gf rfl (fun hg=>LO.wN (first:=sv) (cap:=[]) (xs:=[_]) (vs:=[_]) (.g hg rfl) hfq ⟨.g hg rfl,trivial⟩ (fun w2 hw2=>hq w2 p (by omega) (hw2)))<|VO.gf rfl (fun hg=>LO.not (.g hg rfl))<|ah (LO.qh (.r rfl) (.r rfl) rfl rfl) rfl<|VO.n<|ay rfl (fun h35=>?_) (fun h35=>?_))
  ·
   have hold:=ado (W:=gW g) (H:=gH g) (S:=S) (p:=p) (by omega) (by simpa using h35)
   refine ca (aL (cD (ag<|aF (VO.p rfl rfl (by omega) (by omega) rfl<|VO.m rfl<|aI ?_))))
   rw[←ZZ hold]
   refine bn fun a w ha hw=>⟨(p+1,rs,pr,cr,Ds),⟨by dsimp only;omega,by dsimp only;rw[hold];exact hrs⟩,(by dsimp only;omega),ha.sub (.c4 rfl rfl rfl rfl (.cons rfl (.cons rfl .nil))),(by exact bM (L1:=[_,_,_,_,_,_,_,_]) [0,1,2,3,4,5,6,7] rfl rfl _ hw)⟩
  ·
   have h35b:¬0≤GW (gW g) (gH g) S p [] p∧S p=true:=by simpa using h35
   have hnew:=afj h35b.1
   refine aC (ag<|VC.q (VO.m rfl<|ah (bW rm (.r rfl) rfl) rfl<|aD rfl<|bI (C:=#[_]) Z3 rfl fun b10=>bU<|bl 0 (vs:=[_]) (C':=[_]) (L':=[_,_,_,_,_,_,_,_,_]) N3 rfl rfl rfl rfl rfl rfl rfl rfl<|VO.n<|VC.q (VO.m rfl<|aD rfl<|fu (ps:=[(_,_)]) (vs:=[(_,_)]) (Z:=[_]) (C:=[_]) ei Z3 N3 ⟨(.r rfl),trivial⟩ rfl rfl rfl rfl ⟨_,[_],[_],rfl,rfl,rfl,rfl,rfl⟩ fun b12=>aD rfl<|bI (C:=#[_]) TJ rfl fun b13=>bU<|bl 0 (vs:=[_]) (C':=[_]) (L':=[_,_,_,_,_,_,_,_,_,_,_]) qo rfl rfl rfl rfl rfl rfl rfl rfl<|VO.n ?_)))
   refine ak<|VC.res (fun w hw=>St.PA (v:=nC p) (z:=1) 1 rfl rfl hw) ?_
   show VC _ _ _ _ _ _ [_,own 3 1 (some ⟨b12,0,none⟩) 1 ([p].map nC),_,_,_,_,_,_,_,_,_] _ _
   refine aF (VO.c 7 ij rfl rfl ⟨_,rfl⟩ rfl<|VO.m rfl<|VO.c 2 O3 rfl rfl ⟨_,rfl⟩ rfl<|ah (gp ei N3 (fun _ hw=>(dE hw 3 rfl).some (by rw[aq,pC])) (.r rfl) (.r rfl) rfl (by omega)) rfl<|bU<|HO.stm 3 (fun R=>[_,_,_,R,_,_,_,_,_,_,_]) (((rs.length:Nat):Int)) (vs:=[_]) N3 (.r rfl) (.r rfl) rfl (by rw[pC];omega) rfl rfl rfl rfl rfl (fun _=>rfl)<|aI ?_)
   rw[hrl,PW (by omega)]
   refine ag<|ak<|VC.q (VO.a rfl<|VO.n<|aG<|ik [0,1,3,6,2,4,5,7,8,9,10] rfl ?_)
   refine VC.abR (α:=Nat×(List Nat)×(Option Addr)×Nat×(List Nat)) 4 (fun gx=>[(11,.int .i64 (gx.1:Nat))]) [(2,_),(3,_),(6,_),(7,_),(9,_),(10,_),(21,_),(22,_)] (fun gx=>[de b13 (.cells #[.slice gx.2.2.1 gx.2.1.length gx.2.2.2.1] 112),own 3 1 gx.2.2.1 gx.2.2.2.1 (gx.2.1.map nC),own 3 1 x.1 x.2 ((CF (gW g) (gH g) S p gx.2.1).map iC),Db gx.2.2.2.2]) (fun gx=>gx.2.2.2.2) (fun gx=>WL (gW g) (gH g) S p gx.2.1 gx.1) (fun gx=>gW g*gH g-gx.1) (0,[p],(some ⟨b12,0,none⟩),1,Ds) rfl (by exact WL.one (by omega) h35b.2) (.c4 rfl rfl rfl rfl (.c4 rfl rfl rfl rfl (.cons rfl .nil))) (fun _ h=>h) ?_
   rintro ⟨i,l,lp,lc,Ds2⟩ hwl
   show VC _ _ _ _ _ ([(11,.int .i64 (i:Nat))]++_) ([de b13 (.cells #[.slice lp l.length lc] 112),own 3 1 lp lc (l.map nC),own 3 1 x.1 x.2 ((CF (gW g) (gH g) S p l).map iC),Db Ds2]++_) _ _
   dsimp only at hwl
   have hwll:=hwl.len
   refine ak<|VC.q (VO.m rfl<|VO.c 0 ij rfl rfl ⟨_,rfl⟩ rfl<|ah (bW ei (.r rfl) rfl) rfl<|VO.t rfl<|VO.n<|ay rfl (fun h47=>?_) (fun h47=>?_))
   ·
    obtain⟨q,hqi⟩:∃q,l[i]? =some q:=⟨_,af (by omega)⟩
    have hqm:=hwl.mem q (al hqi)
    refine aC (ag<|ak<|aG<|ak<|cP [[0,1,2,3,4,5,6,7,8,9,10],[0,1,2,3,4,5,6,7,8,9,10]] [some 0,some 0,some 0,some 0,some 0,none] mixed (by kernel_rfl) rfl (aA (fun _ hJ=>aM (vs:=[_,_,_,_,_]) vS (.r rfl) (fun _ hw=>aX (hJ _ hw) 10 rfl ⟨_,rfl⟩) rfl) rfl<|aA (fun _ hJ=>aB ij (.r rfl) (fun _ hw=>aX (hJ _ hw) 0 rfl ⟨_,rfl⟩)) rfl<|LX.m rfl<|aA (fun _ hJ=>gp ei N3 (fun _ hw=>(dE (hJ _ hw) 1 rfl).some (by rw[aq])) (.r rfl) (.r rfl) rfl (by omega)) rfl<|aA (fun _ hJ=>aB O3 (.r rfl) (fun w hw=>bq (off:=0) (gN (hJ _ hw) 1 rfl hqi) ⟨_,rfl⟩)) rfl<|cn<|dw) (au<|au<|au<|au<|au<|HX.h rfl<|cz (xs:=[_,_]) (vs:=[_,_]) akP ⟨(.r rfl),(.r rfl),trivial⟩ (fun w hw=>Wj g q w) fun ya _=>⟨gM (L1:=[_,_,_,_,_,_,_,_,_,_,_]) [2,3,4,5,6,7,8,9,10,11,12] rfl rfl rfl,dS ?_⟩))
    refine ag<|aG<|VC.L9 (α:=(List Nat)×(Option Addr)×Nat) [_,_,_,_,_,_,_,_,_] (fun gx=>[de b13 (.cells #[.slice gx.2.1 gx.1.length gx.2.2] 112),own 3 1 gx.2.1 gx.2.2 (gx.1.map nC),own 3 1 x.1 x.2 ((CF (gW g) (gH g) S p gx.1).map iC)]) (fun n_ gx=>WN (gW g) (gH g) S p l q n_ gx.1) (fun _ _ _=>False) (l,lp,lc) (fun vs=>[(3,.pointer (some ⟨b3,0,none⟩)),(7,.pointer (some ⟨b6,0,none⟩)),(9,.pointer (some ⟨b10,0,none⟩)),(10,.pointer (some ⟨b13,0,none⟩)),(12,vs.getD 0 (.int .i64 0))]) rfl amz (MU g q ya.1 ya.2 hg hqm.1) (bM [2,3,4,0,1,6,7,8,9,10,11,12,5] rfl rfl) (WN.zero hwl) (fun vs hv=>by obtain⟨n,_,rfl⟩:=bQ.1 hv;rfl) (by decide) (fun n x w _ h=>⟨iE (h 3 _ rfl),iE (h 4 _ rfl)⟩) ?_ ?_ ?_ (fun _ _ _ _ _ h=>h.elim)
    ·
     rintro n_ ⟨l2,lp2,lc2⟩ vs__ l_ T w1 hI hxs hst
     obtain⟨r,hr,rfl⟩:∃r,(nb (gW g) (gH g) q)[n_]? =some r∧nC r=vs__:=by rw[aw]at hxs;cases hz:(nb (gW g) (gH g) q)[n_]? with|none=>(rw[hz]at hxs;cases hxs)|some r=>(rw[hz]at hxs;exact⟨r,rfl,gV hxs⟩)
     have hwn:WN (gW g) (gH g) S p l q n_ l2:=hI
     have hrl:=DH hqm.1 (al hr)
     show VC _ _ _ _ _ _ ([de b13 (.cells #[.slice lp2 l2.length lc2] 112),own 3 1 lp2 lc2 (l2.map nC),own 3 1 x.1 x.2 ((CF (gW g) (gH g) S p l2).map iC),_,_,_,_,_,_,_,_,_]++T) _ _
     refine aF (VO.a rfl<|aI ?_)
     exact fun a w ha hw=>⟨rfl,ha.sub (.c4 rfl rfl rfl rfl (.cons rfl .nil)),hw⟩
    ·
     rintro n_ ⟨l2,lp2,lc2⟩ vs__ l_ T w1 hI hxs hst
     obtain⟨r,hr,rfl⟩:∃r,(nb (gW g) (gH g) q)[n_]? =some r∧nC r=vs__:=by rw[aw]at hxs;cases hz:(nb (gW g) (gH g) q)[n_]? with|none=>(rw[hz]at hxs;cases hxs)|some r=>(rw[hz]at hxs;exact⟨r,rfl,gV hxs⟩)
     have hwn:WN (gW g) (gH g) S p l q n_ l2:=hI
     have hrl:=DH hqm.1 (al hr)
     show VC _ _ _ _ _ _ ([de b13 (.cells #[.slice lp2 l2.length lc2] 112),own 3 1 lp2 lc2 (l2.map nC),own 3 1 x.1 x.2 ((CF (gW g) (gH g) S p l2).map iC),_,_,_,_,_,_,_,_,_]++T) _ _
     refine aG<|VC.q (VO.c 8 ij rfl rfl ⟨_,rfl⟩ rfl<|VO.m rfl<|ah (gp ei N3 (fun _ hw=>(dE hw 2 rfl).some (by rw[aq,pC])) (.r rfl) (.r rfl) rfl (by omega)) rfl<|ah (aB O3 (.r rfl) (fun w hw=>bq (off:=0) (gN hw 2 rfl (y3 (by omega))) ⟨_,rfl⟩)) rfl<|VO.t rfl<|VO.m rfl<|VO.gt rfl (fun hg=>aB agx (.r rfl) (ax 10 rfl ⟨_,rfl⟩))<|VO.gt rfl (fun hg=>bJ (.r rfl))<|VO.gt rfl (fun hg=>LO.wN (first:=sv) (cap:=[]) (xs:=[_]) (vs:=[_]) (.g hg rfl) hfq ⟨.g hg rfl,trivial⟩ (fun w2 hw2=>hq w2 r (hrl) (hst.back hw2)))<|ah (LO.pE (.r rfl) rfl rfl (.r rfl)) rfl<|VO.n<|ay rfl (fun h66=>?_) (fun h66=>?_))
     ·
      have h66b:GW (gW g) (gH g) S p l2 r<0∧S r=true:=by simpa using h66
      refine VC.q (VO.c 8 ij rfl rfl ⟨_,rfl⟩ rfl<|VO.m rfl<|VO.c 5 O3 rfl rfl ⟨_,rfl⟩ rfl<|ah (gp ei N3 (fun _ hw=>(dE hw 2 rfl).some (by rw[aq,pC])) (.r rfl) (.r rfl) rfl (by omega)) rfl<|bU<|HO.stm 2 (fun R=>[_,_,R,_,_,_,_,_,_,_,_,_]++T) (((eZ (gW g) (gH g) S p).length:Int)) (vs:=[_]) N3 (.r rfl) (.r rfl) rfl (by rw[pC];omega) rfl rfl rfl rfl rfl (fun _=>rfl)<|aI ?_)
      rw[PW hrl]
      refine ag<|aF (VO.c 0 ij rfl rfl ⟨_,rfl⟩ rfl<|VO.m rfl<|aD rfl<|fu (ps:=[(_,_)]) (vs:=[(_,_)]) (Z:=[_]) (C:=[_]) ei Z3 N3 ⟨(.r rfl),trivial⟩ rfl rfl rfl rfl ⟨_,[_],[_],rfl,rfl,rfl,rfl,rfl⟩ fun b46=>aD rfl<|HO.kT (r) 2 0 (fun R=>[_,_,R,_,_,_,_,_,_,_,_,_,_]++T) ei ei I3 (.r rfl) (.r rfl) rfl rfl rfl rfl rfl rfl rfl (fun _=>rfl) rfl (by have:=hwn.len;omega) fun p3 c3=>bU<|bl 1 (vs:=[_]) (C':=[_]) qo rfl rfl rfl rfl rfl rfl rfl rfl<|aI<|bB ?_)
      exact fun a w ha hw=>⟨(l2++[r],p3,c3),hwn.take hwl hqi hr ((VS hwn hwl (by omega) hqi hr hnew h66b.2).1 h66b.1) h66b.2,abC (L:=[_,_,_,_,_,_,_,_,_,_,_,_,_]) (L1:=[_,_,_,_,_,_,_,_,_,_,_,_]) (L2:=[]) (X:=T) [1,2,3,4,5,6,7,8,9,10,11,12] rfl rfl rfl w hw⟩
     ·
      have h66b:¬(GW (gW g) (gH g) S p l2 r<0∧S r=true):=by simpa using h66
      refine aC (bB ?_)
      exact fun a w ha hw=>⟨(l2,lp2,lc2),hwn.skip hr (fun hs=>Classical.byContradiction fun hx=>h66b ⟨(VS hwn hwl (by omega) hqi hr hnew hs).2 hx,hs⟩),abC (L:=[_,_,_,_,_,_,_,_,_,_,_,_]) (L1:=[_,_,_,_,_,_,_,_,_,_,_,_]) (L2:=[]) (X:=T) [0,1,2,3,4,5,6,7,8,9,10,11] rfl rfl rfl w hw⟩
    ·
     rintro D_ ⟨l2,lp2,lc2⟩ hI
     have hwl2:=WN.done (show WN (gW g) (gH g) S p l q _ l2 from hI) hwl hqi (by rw[aq];exact bA _)
     show VE _ _ _ _ [de b13 (.cells #[.slice lp2 l2.length lc2] 112),own 3 1 lp2 lc2 (l2.map nC),own 3 1 x.1 x.2 ((CF (gW g) (gH g) S p l2).map iC),_,_,_,_,_,_,_,_,_,_] _ _
     refine bB (bB (ag<|aF (VO.m rfl<|VO.p rfl rfl (by omega) (by omega) rfl<|VO.a rfl<|aI<|bn fun a w ha hw=>⟨(i+1,l2,lp2,lc2,D_::Ds2),hwl2,(by dsimp only;omega),ha.sub (.c4 rfl rfl rfl rfl (.c4 rfl rfl rfl rfl (.cons rfl .nil))),hw.fO [0,1,2,12,5,6,7,8,9,10,11] rfl⟩)))
   ·
    have hil:i=l.length:=by have:=hwl.le;omega
    subst hil
    have hfull:=hwl.full (by omega) h35b.2
    have hsort:uZ l=lR (gW g) (gH g) S p:=I8 (lS (by omega)) hwl.A5 hfull
    have hlen:l.length=(lR (gW g) (gH g) S p).length:=by rw[←hsort,FB]
    refine ca (aL (aL (cD (ag<|VC.q (VO.c 0 ij rfl rfl ⟨_,rfl⟩ rfl<|aD rfl<|HO.VX (first:=[]) (cap:=[]) (xs:=[_]) (vs:=[_]) 1 (fun R=>[_,R,_,_,_,_,_,_,_,_,_]) rfl (.r rfl) aiS ⟨(.r rfl),trivial⟩ (fun _=>rfl) (fun w hw=>PO 1 hw rfl (by omega)) fun _u _=>aI ?_)))))
    rw[hsort,hlen]
    refine ag<|aF (VO.m rfl<|VO.c 0 ij rfl rfl ⟨_,rfl⟩ rfl<|aD rfl<|fu (ps:=[(_,_)]) (vs:=[(_,_)]) (Z:=[_]) (C:=[_]) rm TJ qo ⟨(.r rfl),trivial⟩ rfl rfl rfl rfl ⟨_,[_],[_],rfl,rfl,rfl,rfl,rfl⟩ fun b62=>aD rfl<|HO.kT ((⟨lp,lc,lR (gW g) (gH g) S p⟩:eB Nat)) 6 0 (fun R=>[_,_,_,_,_,_,R,_,_,_,_,_]) rm rm adJ (.r rfl) (.r rfl) rfl rfl rfl rfl rfl rfl rfl (fun _=>rfl) rfl (by omega) fun p3 c3=>aD rfl<|aO (LO.as (.r rfl))<|aI<|bB (ag<|aF (VO.p rfl rfl (by omega) (by omega) rfl<|VO.m rfl<|aI ?_)))
    rw[VD (by omega) h35b.2 hnew hfull]
    refine bn fun a w ha hw=>⟨(p+1,rs++[⟨lp,lc,lR (gW g) (gH g) S p⟩],p3,c3,Ds2),⟨by dsimp only;omega,by dsimp only;rw[bj,hrs,pQ h35b.2 hnew];rfl⟩,(by dsimp only;omega),ha.sub (.cons (congrArg (fun n=>some (mn p3 n c3)) (by rw[aZ];try rfl)) (.c4 rfl rfl rfl rfl (.cons rfl .nil))),(by exact bM (L1:=[_,_,_,_,_,_,_,_]) [1,2,0,3,4,5,6,7] rfl rfl _ (St.Nx (E:=3) (z:=1) (f:=nC) (x:=⟨lp,lc,lR (gW g) (gH g) S p⟩) (bM (L1:=[_,_,_,_,_,_,_,_,_]) [2,7,3,6,4,8,9,10,11] rfl rfl _ hw)))⟩
 ·
  refine ca (aL (aL (cD (ag<|ak<|VC.draw mixed (LL.m rfl<|aV (aB ij (.r rfl) (ax 4 rfl ⟨_,rfl⟩)) rfl<|aV (LO.as (.r rfl)) rfl<|aV (LO.as (.r rfl)) rfl<|LL.nil) (by kernel_rfl)<|ag<|aP (VE.ahr (vs:=[_,_]) (A:=[_,_,_,_,_,_,_]) rfl (bM [3,0,1,2,4,5,6,7] rfl rfl) ⟨rfl,rfl,trivial⟩ (fun w hw=>?_))))))
  have hpn:p=gW g*gH g:=by omega
  subst hpn
  rw[ZG]at hw
  exact⟨⟨rs,pr,cr,x.1,x.2⟩,hrs,rfl,bM [1,2,0] rfl rfl _ hw⟩
structure ArS where
 xl:Int
 xh:Int
 yl:Int
 yh:Int
 sl:Int
 sh:Int
 deriving DecidableEq
def U6 (W:Nat) (l:List Nat):ArS:=⟨(l.headD 0%W:Nat),(l.headD 0%W:Nat),(l.headD 0 / W:Nat),(l.headD 0 / W:Nat),0,0⟩
def Bm (W:Nat) (vs:List Span) (lv:Int) (s:ArS) (p:Nat):ArS:=
 ⟨min s.xl (p%W:Nat),max s.xh (p%W:Nat),min s.yl (p / W:Nat),max s.yh (p / W:Nat),if yf vs lv p=true then s.sl+(vs.getD p ⟨0,0⟩).lo else s.sl,s.sh+(vs.getD p ⟨0,0⟩).hi⟩
def V7 (W:Nat) (vs:List Span) (lv:Int) (l:List Nat):ArS:=l.foldl (Bm W vs lv) (U6 W l)
def qD (W:Nat) (vs:List Span) (lv:Int) (l:List Nat) (k:Nat):ArS:=(l.take k).foldl (Bm W vs lv) (U6 W l)
theorem L5 {W:Nat} {vs:List Span} {lv:Int} {l:List Nat}:qD W vs lv l 0=U6 W l:=rfl
theorem QX {W:Nat} {vs:List Span} {lv:Int} {l:List Nat}:qD W vs lv l l.length=V7 W vs lv l:=by unfold qD V7;rw[du]
theorem xC {W:Nat} {vs:List Span} {lv:Int} {l:List Nat} {k p:Nat} (h:l[k]? =some p):qD W vs lv l (k+1)=Bm W vs lv (qD W vs lv l k) p:=by
 unfold qD
 rw[cQ,h]
 show List.foldl _ _ (l.take k++[p])=_
 rw[List.foldl_append]
 rfl
theorem Ib {W:Nat} {vs:List Span} {lv:Int} {l:List Nat} (hok:∀j,j<vs.length→lH 1073741824 (vs.getD j ⟨0,0⟩)) (hl:∀p,p∈l→p<vs.length):∀k,k≤l.length→(0≤(qD W vs lv l k).sl∧(qD W vs lv l k).sl≤1073741824*k)∧(0≤(qD W vs lv l k).sh∧(qD W vs lv l k).sh≤1073741824*k)
 |0,_=>by rw[L5];exact⟨⟨Int.le_refl _,by simp [U6]⟩,⟨Int.le_refl _,by simp [U6]⟩⟩
 |k+1,hk=>by
  have ih:=Ib hok hl (W:=W) (lv:=lv) k (by omega)
  have hp:l[k]? =some l[k]:=af (by omega)
  rw[xC hp]
  have hs:=hok l[k] (hl _ (fv _))
  unfold lH at hs
  unfold Bm
  dsimp only
  constructor
  ·split<;>omega
  ·omega
structure yA where
 px:List Nat
 ks:List (List Nat)
 s:ArS
def Fa (W H:Nat) (vs:List Span) (lv:Int) (l:List Nat):yA:=⟨l,(eU W H (yf vs lv)).filter (fun k=>decide (k.headD 0∈l)),V7 W vs lv l⟩
def mq (W H:Nat) (vs:List Span) (lv:Int):List yA:=(eU W H (ga vs lv)).map (Fa W H vs lv)
structure eC where
 px:eB Nat
 kp:Option Addr
 kc:Nat
 kr:List (eB Nat)
 s:ArS
def eC.cells (a:eC):List Value:=[.slice a.px.p a.px.l.length a.px.c,.slice a.kp a.kr.length a.kc,.int .i64 a.s.xl,.int .i64 a.s.xh,.int .i64 a.s.yl,.int .i64 a.s.yh,.int .i64 a.s.sl,.int .i64 a.s.sh]
def eC.m (a:eC):yA:=⟨a.px.l,a.kr.map fZ,a.s⟩
def eC.kR (a:eC):cq:=own 112 1 a.kp a.kc (a.kr.map sw)
def arZ:eC:=⟨⟨none,0,[]⟩,none,0,[],⟨0,0,0,0,0,0⟩⟩
def mr (W:Nat) (vs:List Span) (lv:Int) (r:eB Nat):eC:=⟨r,none,0,[],V7 W vs lv r.l⟩
def wL (W:Nat) (vs:List Span) (lv:Int) (rs:List (eB Nat)) (i:Nat):List eC:=(rs.take i).map (mr W vs lv)++cy (rs.length-i) arZ
theorem M4 {W:Nat} {vs:List Span} {lv:Int} {rs:List (eB Nat)}:cy rs.length arZ=wL W vs lv rs 0:=by unfold wL;simp
theorem z7 {W:Nat} {vs:List Span} {lv:Int} {rs:List (eB Nat)} {i:Nat} (h:i≤rs.length):(wL W vs lv rs i).length=rs.length:=by unfold wL;simp;omega
theorem Rw {W:Nat} {vs:List Span} {lv:Int} {rs:List (eB Nat)} {i:Nat} {r:eB Nat} (h:rs[i]? =some r):(wL W vs lv rs i).set i (mr W vs lv r)=wL W vs lv rs (i+1):=by
 have hi:=(aj.1 h).1
 unfold wL
 have hl:((rs.take i).map (mr W vs lv)).length=i:=by simp;omega
 rw[List.set_append_right _ _ (by omega),hl,Nat.sub_self,show rs.length-i=(rs.length-(i+1))+1 by omega,oc,List.set_cons_zero,cQ,h,bj,List.append_assoc]
 rfl
theorem RA {W:Nat} {vs:List Span} {lv:Int} {rs:List (eB Nat)}:wL W vs lv rs rs.length=rs.map (mr W vs lv):=by unfold wL;simp
structure Cq (W:Nat) (vs:List Span) (lv:Int) (rs ks:List (eB Nat)) (j:Nat) (l:List eC):Prop where
 px:l.map eC.px=rs
 s:∀a,a∈l→a.s=V7 W vs lv a.px.l
 kr:∀a,a∈l→a.kr=(ks.take j).filter fun k=>decide (k.l.headD 0∈a.px.l)
theorem Cq.zero {W:Nat} {vs:List Span} {lv:Int} {rs ks:List (eB Nat)}:Cq W vs lv rs ks 0 (rs.map (mr W vs lv)):=by
 refine⟨by rw[dG];exact List.map_id _,fun a ha=>?_,fun a ha=>?_⟩
 ·obtain⟨r,_,rfl⟩:=bQ.1 ha;rfl
 ·obtain⟨r,_,rfl⟩:=bQ.1 ha;rfl
theorem Cq.len {W:Nat} {vs:List Span} {lv:Int} {rs ks:List (eB Nat)} {j:Nat} {l:List eC} (h:Cq W vs lv rs ks j l):l.length=rs.length:=by rw[←h.px,aq]
theorem Cq.add {W:Nat} {vs:List Span} {lv:Int} {rs ks:List (eB Nat)} {j ix:Nat} {l:List eC} {k:eB Nat} {a:eC} {p:Option Addr} {c:Nat} (h:Cq W vs lv rs ks j l) (hk:ks[j]? =some k) (ha:l[ix]? =some a) (hin:k.l.headD 0∈a.px.l)
  (hap:(rs.map fZ).Pairwise fun a b=>∀x,x∈a→x∉b):Cq W vs lv rs ks (j+1) (l.set ix { a with kp:=p,kc:=c,kr:=a.kr++[k] }):=by
 have hl:=(aj.1 ha).1
 have htk:ks.take (j+1)=ks.take j++[k]:=by rw[cQ,hk];rfl
 have hset:∀b,b∈l.set ix { a with kp:=p,kc:=c,kr:=a.kr++[k] }→b={ a with kp:=p,kc:=c,kr:=a.kr++[k] }∨∃i,i≠ix∧l[i]? =some b:=fun b hb=>by
  obtain⟨i,hi⟩:=cV.1 hb
  rw[fe]at hi
  by_cases e:ix=i
  ·rw[if_pos e,if_pos (by omega)]at hi;exact .inl (gV hi).symm
  ·rw[if_neg e]at hi;exact .inr ⟨i,fun z=>e z.symm,hi⟩
 have pxs:∀{i:Nat} {b:eC},l[i]? =some b→(rs.map fZ)[i]? =some b.px.l:=fun {i b} hb=>by rw[←h.px,dG,aw,hb];rfl
 refine⟨?_,fun b hb=>?_,fun b hb=>?_⟩
 ·rw[List.map_set]
  have e:eC.px { a with kp:=p,kc:=c,kr:=a.kr++[k] }=a.px:=rfl
  rw[e, ←h.px]
  apply cO
  intro n
  rw[fe]
  split
  ·rename_i q;subst q
   rw[if_pos (by rw[aq];exact hl),aw,ha];rfl
  ·rfl
 ·rcases hset b hb with rfl|⟨i,_,hi⟩
  ·exact h.s a (al ha)
  ·exact h.s b (al hi)
 ·rw[htk,dI]
  rcases hset b hb with rfl|⟨i,hne,hi⟩
  ·show a.kr++[k]=_
   rw[iN,if_pos (by simpa using hin),mL,h.kr a (al ha)]
  ·have hno:k.l.headD 0∉b.px.l:=by
    have h1:=pxs ha
    have h2:=pxs hi
    obtain⟨g1,e1⟩:=aj.1 h1
    obtain⟨g2,e2⟩:=aj.1 h2
    have h3:=be.1 hap
    intro hx
    rcases Nat.lt_or_gt_of_ne hne with z|z
    ·exact h3 i ix g2 g1 z _ (by rw[e2];exact hx) (by rw[e1];exact hin)
    ·exact h3 ix i g1 g2 z _ (by rw[e1];exact hin) (by rw[e2];exact hx)
   rw[iN,if_neg (by simpa using hno),mL,c9]
   exact h.kr b (al hi)
theorem Cq.done {W H:Nat} {vs:List Span} {lv:Int} {rs ks:List (eB Nat)} {l:List eC} (h:Cq W vs lv rs ks ks.length l) (hr:rs.map fZ=eU W H (ga vs lv)) (hk:ks.map fZ=eU W H (yf vs lv)):l.map eC.m=mq W H vs lv:=by
 unfold mq
 rw[←hr, ←h.px,dG,dG]
 refine fU fun a ha=>?_
 show eC.m a=Fa W H vs lv a.px.l
 unfold eC.m Fa
 have h1:=h.kr a ha
 rw[du]at h1
 have h2:a.kr.map fZ=(eU W H (yf vs lv)).filter (fun k=>decide (k.headD 0∈a.px.l)):=by
  rw[h1, ←hk,List.filter_map];rfl
 rw[h2,h.s a ha]
theorem YP {W H:Nat} {vs:List Span} {lv:Int} {rs ks:List (eB Nat)} {j:Nat} {k:eB Nat} (hok:∀j,j<W*H→lH 1073741824 (vs.getD j ⟨0,0⟩)) (hr:rs.map fZ=eU W H (ga vs lv)) (hk:ks.map fZ=eU W H (yf vs lv)) (h:ks[j]? =some k):
  0<k.l.length∧k.l.getD 0 0<W*H∧k.l.getD 0 0=k.l.headD 0∧∃ix:Nat,(pF W H (ga vs lv))[k.l.getD 0 0]? =some (ix:Int)∧ix<rs.length∧∀r,rs[ix]? =some r→k.l.headD 0∈r.l:=by
 have h1:k.l∈eU W H (yf vs lv):=by rw[←hk];exact bE (al h)
 obtain⟨p,hp,hs,e⟩:=kS (p:=W*H) h1
 have hne:k.l≠[]:=by rw[e];exact DE hp
 have hh:k.l.getD 0 0=k.l.headD 0:=by cases k.l with|nil=>rfl|cons a l=>rfl
 have hm:=FC hne
 obtain⟨h2,h3,_,_⟩:=ru (bA _) h1 hm
 have hmay:ga vs lv (k.l.headD 0)=true:=by
  have:=hok _ h3
  unfold lH at this
  unfold yf at h2
  unfold ga
  simp only[decide_eq_true_eq]at*
  omega
 obtain⟨l,h4,h5⟩:=Aa (bA _) h3 hmay
 obtain⟨ix,hix⟩:=cV.1 h4
 have hix2:(eU W H (ga vs lv))[ix]? =some l:=hix
 have hlt:ix<rs.length:=by
  have:=(aj.1 hix2).1
  rw[←hr,aq]at this;exact this
 refine⟨by cases hq:k.l with|nil=>exact absurd hq hne|cons a l=>simp,by rw[hh];exact h3,hh,ix,?_,hlt,fun r hrr=>?_⟩
 ·rw[hh]
  unfold pF
  rw[aw,eu h3]
  have:=DD (pY (bA _)) hix h5
  exact congrArg some this
 ·have:(rs.map fZ)[ix]? =some r.l:=by rw[aw,hrr];rfl
  rw[hr,hix2]at this
  cases this
  exact h5
theorem adp {l:List eC} {ix c:Nat} {p:Option Addr} {a:eC} {k:eB Nat} (ha:l[ix]? =some a):(l.map eC.cells).set ix ((eC.cells a).take 1++[.slice p (a.kr++[k]).length c]++(eC.cells a).drop (1+[mn p (a.kr++[k]).length c].length))=(l.set ix { a with kp:=p,kc:=c,kr:=a.kr++[k] }).map eC.cells:=by
 rw[List.map_set]
 rfl
theorem amH:ef ae 175:=⟨_,Tryz.func175,by decide,rfl⟩
theorem aiY:ef ae 177:=⟨_,Tryz.func177,by decide,rfl⟩
theorem Z88:cj ae 88 (.agg #[.int .i64 0,.int .i64 0,.int .i64 0,.int .i64 0,.int .i64 0]):=by unfold cj;kernel_rfl
theorem N88:(ae.info? 88).map (·.size)=some 5:=by kernel_rfl
theorem aiJ:ef ae 174:=⟨_,Tryz.func174,by decide,rfl⟩
theorem BC:dF ae 155 160:=zh
theorem alD:jW ae 160 8 96 (.agg #[.slice none 0 0,.slice none 0 0,.int .i64 0,.int .i64 0,.int .i64 0,.int .i64 0,.int .i64 0,.int .i64 0]):=⟨by kernel_rfl,by kernel_rfl,by unfold cj;kernel_rfl,rfl,by decide⟩
theorem al2:ed ae 160 [(0,1),(1,1),(2,2),(4,2),(6,2)] [.slice none 0 0,.slice none 0 0,.int .i64 0,.int .i64 0,.int .i64 0,.int .i64 0,.int .i64 0,.int .i64 0]:=ed.mk fun _=>by kernel_rfl
theorem alZ:cj ae 160 (.agg #[.slice none 0 0,.slice none 0 0,.int .i64 0,.int .i64 0,.int .i64 0,.int .i64 0,.int .i64 0,.int .i64 0]):=by unfold cj;kernel_rfl
theorem Ny:(ae.info? 160).map (·.size)=some 8:=by kernel_rfl
theorem Uv:bV ae 160 2 2:=⟨_,_,k6,rfl,rfl,1,by kernel_rfl⟩
theorem ahz:ef ae 176:=⟨_,Tryz.func176,by decide,rfl⟩
theorem Ut:bV ae 160 3 4:=⟨_,_,k6,rfl,rfl,1,by kernel_rfl⟩
theorem Hl:bV ae 160 4 6:=⟨_,_,k6,rfl,rfl,1,by kernel_rfl⟩
theorem aeH:jX ae 160 8:=⟨⟨_,k6,rfl⟩,by kernel_rfl⟩
theorem GC:bV ae 160 1 1:=⟨_,_,k6,rfl,rfl,0,by kernel_rfl⟩
theorem adI:ig ae 158:=⟨⟨_,zg,rfl⟩,by kernel_rfl⟩
theorem alV:(ae.info? 158).map (·.size)=some 1:=by kernel_rfl
structure qZ where
 l:List eC
 p:Option Addr
 c:Nat
 rs:List (eB Nat)
 pr:Option Addr
 cr:Nat
 ks:List (eB Nat)
 pk:Option Addr
 ck:Nat
 po:Option Addr
 co:Nat
 o2:List Int
 p2:Option Addr
 c2:Nat
def qZ.R (y:qZ) (of:List Int):List cq:=[own 160 8 y.p y.c (y.l.map eC.cells),bS (y.l.map eC.kR),own 112 1 y.pk y.ck (y.ks.map sw),ri 3 1 nC y.ks,own 3 1 y.p2 y.c2 (y.o2.map iC),own 112 1 y.pr y.cr (y.rs.map sw),ri 3 1 nC y.rs,own 3 1 y.po y.co (of.map iC)]
structure HT (W H:Nat) (vs:List Span) (lv:Int) (y:qZ):Prop where
 m:y.l.map eC.m=mq W H vs lv
 px:y.l.map eC.px=y.rs
 kr:∀a,a∈y.l→∀k,k∈a.kr→k∈y.ks
theorem RR.row {α:Type} {z:Nat} {f:α→List Value} {w:World} {p:Option Addr} {rs:List (eB α)} {i:Nat} {r:eB α} (h:RR z f w p rs) (hr:rs[i]? =some r):RO z f w r.p r.l:=(h.2 r (al hr)).2
theorem RR.cell {α:Type} {z:Nat} {f:α→List Value} {w:World} {p:Option Addr} {rs:List (eB α)} {i:Nat} {r:eB α} (h:RR z f w p rs) (hr:rs[i]? =some r):fk w ⟨pb p,po p+i*1,none⟩ (sw r):=h.1.cells i _ (by rw[aw,hr];rfl)
theorem RO.tu {α:Type} {z:Nat} {f:α→List Value} {w:World} {p:Option Addr} {l:List α} {i:Nat} {r:α} (h:RO z f w p l) (hr:l[i]? =some r):fk w ⟨pb p,po p+i*z,none⟩ (f r):=h.cells i _ (by rw[aw,hr];rfl)
theorem v7 {W H:Nat} {S:Nat→Bool}:(pF W H S).length=W*H:=by unfold pF;simp
theorem tF {α β:Type} {f:α→β} {l:List α} {i:Nat} {a:α} (h:l[i]? =some a):(l.map f)[i]? =some (f a):=by rw[aw,h];rfl
theorem Ug {β:Bs} {L:List cq} {w:World} {W:Nat} {vs:List Span} {lv:Int} {rs:List (eB Nat)} (h:St β L w):St β (bS ((rs.map (mr W vs lv)).map eC.kR)::L) w:=by
 have key:∀r,r∈(rs.map (mr W vs lv)).map eC.kR→(∀k,¬r.fp k)∧r.inv w:=fun r hr=>by
  obtain⟨a,ha,rfl⟩:=bQ.1 hr
  obtain⟨x,_,rfl⟩:=bQ.1 ha
  exact⟨fun k hk=>hk.1 rfl,⟨by simp [mr],fun r hr=>by simp [mr]at hr,fun _=>⟨by simp [mr],rfl⟩,fun a ha=>by cases ha⟩⟩
 refine St.bS (Fy h.os h.tape h.output h.size h.fr (fun r hr=>?_) (fun r hr k hk=>?_) ?_)
 ·rcases bZ.1 hr with q|q
  ·exact(key r q).2
  ·exact h.mem q
 ·rcases bZ.1 hr with q|q
  ·exact absurd hk ((key r q).1 k)
  ·exact h.G7 q k hk
 ·refine List.pairwise_append.2 ⟨?_,h.pw,fun r hr s hs k hk=>absurd hk ((key r hr).1 k)⟩
  have:∀r,r∈(rs.map (mr W vs lv)).map eC.kR→∀k,¬r.fp k:=fun r hr=>(key r hr).1
  exact be.2 fun i j hi hj _ k hk=>absurd hk (this _ (fv hi) k)
theorem Et {g:cU} (h:cF g) {p:Nat} (hp:p<gW g*gH g):(0:Int)≤((p / gW g:Nat):Int)∧((p / gW g:Nat):Int)≤64:=by
 have h1:=w8 hp
 have h2:=(ME h).2.2.2.2.2
 exact⟨dD _,by
   have:p / gW g≤64:=by omega
   exact_mod_cast this⟩
theorem M5 {W H:Nat} {S:Nat→Bool} {rs:List (eB Nat)} {i:Nat} {r:eB Nat} (h:rs.map fZ=eU W H S) (hr:rs[i]? =some r):∃p0,r.l[0]? =some p0∧p0<W*H∧(0<r.l.length∧r.l.length≤W*H∧r.l.headD 0=p0)∧∀p,p∈r.l→p<W*H:=by
 have h1:r.l∈eU W H S:=by rw[←h];exact bE (al hr)
 obtain⟨p,hp,hs,e⟩:=kS (p:=W*H) h1
 have hne:r.l≠[]:=by rw[e];exact DE hp
 have hall:∀q,q∈r.l→q<W*H:=fun q hq=>by rw[e]at hq;exact uW hp hq
 have hlen:r.l.length≤W*H:=by
  have hn:r.l.Nodup:=by rw[e];exact(lS hp).imp fun h=>Nat.ne_of_lt h
  have:=length_le_of_subset (m:=br (W*H)) hn (fun x hx=>List.mem_range.2 (hall x hx))
  simpa using this
 cases hq:r.l with
 |nil=>exact absurd hq hne
 |cons a l=>
  rw[hq]at hall hlen
  exact⟨a,rfl,hall a (by simp),⟨by simp,hlen,rfl⟩,hall⟩
theorem P2 (g:cU) (vs:List Span) (pv:Option Addr) (cv:Nat) (lv:Int) (w:World) (hg:cF g) (hlen:(vs.length:Int)=g.wide*g.high) (hok:∀j,j<vs.length→lH 1073741824 (vs.getD j ⟨0,0⟩)) (hv:lP w pv vs):
 Calls ae 110 #[zR g pv vs.length cv lv] w fun e w'=>∃y:qZ,HT (gW g) (gH g) vs lv y∧e= .returned (.tuple #[.slice y.p y.l.length y.c,.slice y.po (gW g*gH g) y.co])∧St (bs w) (y.R (pF (gW g) (gH g) (ga vs lv))) w':=by
 have har:=qN hg
 obtain⟨hW,hH,hW1,hW2,hH1,hH2⟩:=ME hg
 have hvl:vs.length=gW g*gH g:=abH hg hlen
 refine enter (vs:=[_]) (env:=[(0,_)]) Tryz.func110 rfl rfl rfl rfl ?_
 refine VC.q (aD rfl<|cf (C:=#[_,_,_,_,_,_,_]) rfl rfl fun b1=>VO.a rfl<|VO.a rfl<|VO.n<|VC.q (VO.f (r:=0) Cw rfl<|VO.f (r:=0) tE rfl<|ah (aM (vs:=[_,_,_,_,_]) vS (.r rfl) (ax 0 rfl ⟨_,rfl⟩) rfl) rfl<|aD rfl<|bI (C:=#[_,_,_,_,_]) Z88 rfl fun b2=>bU<|bl 0 (vs:=[_,_,_,_,_]) (C':=[_,_,_,_,_]) (L':=[_,_]) N88 rfl rfl rfl rfl rfl rfl rfl rfl<|VO.n<|ak ?_))
 refine aF (ah (aM (vs:=[_,_,_,_,_]) vS (.r rfl) (ax 0 rfl ⟨_,rfl⟩) rfl) rfl<|ah (aM (vs:=[_,_,_,_,_,_,_]) Np (.r rfl) (ax 1 rfl ⟨_,rfl⟩) rfl) rfl<|ah (LO.mf2 (first:=[_]) (cap:=[]) ⟨(.r rfl),trivial⟩ trivial) rfl<|aD rfl<|cz (xs:=[_,_]) (vs:=[_,_]) aiJ ⟨(.r rfl),(.r rfl),trivial⟩ (fun w hw=>O8 g 175 [zR g pv vs.length cv lv] (ga vs lv) w hg amH (fun w2 p hp hw2=>agF g vs pv cv lv p w2 ((hv.keep w hw).keep w2 hw2) (by omega))) fun y1 hy1=>aD rfl<|aO (bJ (.r rfl))<|aD rfl<|aO (bN (.r rfl) rfl)<|aD rfl<|aO (bN (.r rfl) rfl)<|aD rfl<|aO (LO.as (.r rfl))<|aD rfl<|aO (LO.as (.r rfl))<|aI ?_)
 obtain⟨hyl,hyc⟩:y1.rs.length≤gW g*gH g∧True:=⟨by have:=congrArg fT hy1;rw[aq]at this;rw[this];exact lF,trivial⟩
 refine ag<|ak<|VC.tn fun w1 hst1=>?_
 have hRR:RR 1 nC w1 y1.p y1.rs:=RR.kg hst1 0 1 rfl rfl
 have hOF:RO 1 iC w1 y1.po (pF (gW g) (gH g) (ga vs lv)):=RO.kg hst1 2 rfl
 have hsh:fk w1 ⟨b1,0,none⟩ [.int .i64 g.x,.int .i64 g.y,.int .i64 g.size,.int .i64 g.wide,.int .i64 g.high,.slice pv vs.length cv,.int .i64 lv]:=iE (hst1.inv 4 _ rfl)
 have hgr:fk w1 ⟨b2,0,none⟩ (V6 g):=iE (hst1.inv 3 _ rfl)
 have hv1:=hv.keep w1 hst1
 have hofs:nu y1.po (gW g*gH g):=by have z:=RO.sm hOF;rw[v7]at z;exact z
 refine aF (VO.m rfl<|ah (bW rm (.r rfl) rfl) rfl<|aD rfl<|HO.akS (f:=eC.cells) (z0:=arZ) (n:=y1.rs.length) rfl BC alD (.r rfl) (.r rfl) rfl (by decide) (by omega) (by omega) fun b7=>aD rfl<|aO (LO.as (.r rfl))<|aI ?_)
 rw[M4 (W:=gW g) (vs:=vs) (lv:=lv)]
 refine ag<|ak<|VC.q (VO.m rfl<|ah (bW rm (.r rfl) rfl) rfl<|VO.m rfl<|VO.n<|aG<|bY (α:=Nat) 1 (fun gx=>[(35,.int .i64 (gx:Nat))]) [(1,_),(4,_),(6,_),(7,_),(33,_),(34,_)] (fun gx=>[own 160 8 (some ⟨b7,0,none⟩) y1.rs.length ((wL (gW g) vs lv y1.rs gx).map eC.cells)]) (fun gx=>gx≤y1.rs.length) (fun gx=>y1.rs.length-gx) 0 (by exact bG _) (.c4 rfl rfl rfl rfl (.cons rfl (.cons rfl (.cons rfl .nil)))) (fun _ h=>h) ?_)
 rintro i hi
 refine VC.q (VO.t rfl<|VO.n<|ak<|ay rfl (fun h36=>?_) (fun h36=>?_))
 ·
  obtain⟨r,hr⟩:∃r,y1.rs[i]? =some r:=⟨_,af (by omega)⟩
  have hpx:=RR.row hRR hr
  obtain⟨p0,hp0,hp0l,⟨hrl1,hrl2,rfl⟩,hrm⟩:=M5 hy1 hr
  refine aC (ag<|ak<|aG<|VC.q (VO.m rfl<|ah (cw rm qo hRR.1.sm (.r rfl) (.r rfl) rfl (by omega)) rfl<|ah (aB ij (.r rfl) (fun w hw=>bq (off:=0) ((fun w3 h3=>RR.cell (RR.keep hRR w3 h3) hr) w hw) ⟨_,rfl⟩)) rfl<|VO.a rfl<|VO.a rfl<|VO.n<|ak ?_))
  refine VC.draw mixed (LL.m rfl<|aV (cw ei N3 hpx.sm (.r rfl) (.r rfl) (j:=0) rfl (by omega)) rfl<|aV (aB O3 (.r rfl) (fun w hw=>bq (off:=0) ((fun w3 h3=>RO.tu (DY hpx w3 h3) hp0) w hw) ⟨_,rfl⟩)) rfl<|aV (aE (r:=3) jD (.r rfl) rfl) rfl<|aV (aB O3 (.r rfl) (aW (aU (off:=3) hgr ⟨_,rfl⟩))) rfl<|aV (dy (LO.rem (.r rfl) (.r rfl) (by omega)) (congrArg (bX .i64) (Ik hg _))) rfl<|LL.m rfl<|aV (cw ei N3 hpx.sm (.r rfl) (.r rfl) (j:=0) rfl (by omega)) rfl<|aV (aB O3 (.r rfl) (fun w hw=>bq (off:=0) ((fun w3 h3=>RO.tu (DY hpx w3 h3) hp0) w hw) ⟨_,rfl⟩)) rfl<|aV (aE (r:=3) jD (.r rfl) rfl) rfl<|aV (aB O3 (.r rfl) (aW (aU (off:=3) hgr ⟨_,rfl⟩))) rfl<|aV (dy (LO.quo (.r rfl) (.r rfl) (by omega) (wi (by rw[rf hg];have:=Et hg (p:=(r.l.headD 0)) (by omega);omega) (by rw[rf hg];have:=Et hg (p:=(r.l.headD 0)) (by omega);omega))) (congrArg (bX .i64) (rf hg (r.l.headD 0)))) rfl<|aV (LO.as (.r rfl)) rfl<|aV (LO.as (.r rfl)) rfl<|LL.nil) (by kernel_rfl)<|ag<|VC.q (VO.m rfl<|VO.m rfl<|VO.m rfl<|ah (dC (ps:=[(_,_),(_,_)]) (vs:=[(_,_),(_,_)]) (C:=[_,_]) EE ⟨(.r rfl),(.r rfl),trivial⟩ rfl ⟨_,[_],[_,_],rfl,rfl,rfl,rfl,⟨_,[_],[_,_],rfl,rfl,rfl,rfl,rfl⟩⟩) rfl<|VO.m rfl<|VO.m rfl<|ah (dC (ps:=[(_,_),(_,_)]) (vs:=[(_,_),(_,_)]) (C:=[_,_]) EE ⟨(.r rfl),(.r rfl),trivial⟩ rfl ⟨_,[_],[_,_],rfl,rfl,rfl,rfl,⟨_,[_],[_,_],rfl,rfl,rfl,rfl,rfl⟩⟩) rfl<|ah (dC (ps:=[(_,_),(_,_),(_,_)]) (vs:=[(_,_),(_,_),(_,_)]) (C:=[_,_,_,_,_,_,_,_]) al2 ⟨(.r rfl),(.r rfl),(.r rfl),trivial⟩ rfl ⟨_,[_],[_,_,_,_,_,_,_,_],rfl,rfl,rfl,rfl,⟨_,[_,_],[_,_,_,_,_,_,_,_],rfl,rfl,rfl,rfl,⟨_,[_,_],[_,_,_,_,_,_,_,_],rfl,rfl,rfl,rfl,rfl⟩⟩⟩) rfl<|aD rfl<|bI (C:=#[_,_,_,_,_,_,_,_]) alZ rfl fun b8=>bU<|bl 0 (vs:=[_,_,_,_,_,_,_,_]) (C':=[_,_,_,_,_,_,_,_]) (L':=[_,_]) Ny rfl rfl rfl rfl rfl rfl rfl rfl<|VO.n<|ak<|ak ?_)
  refine aF (VO.m rfl<|ah (bW ei (.r rfl) rfl) rfl<|VO.m rfl<|VO.n<|aG<|bY (α:=Nat) 1 (fun gx=>[(62,.int .i64 (gx:Nat))]) [(1,_),(4,_),(6,_),(7,_),(8,_),(12,_),(33,_),(34,_),(35,_),(60,_),(61,_)] (fun gx=>[de b8 (.cells #[.slice r.p r.l.length r.c,.slice none 0 0,.int .i64 (qD (gW g) vs lv r.l gx).xl,.int .i64 (qD (gW g) vs lv r.l gx).xh,.int .i64 (qD (gW g) vs lv r.l gx).yl,.int .i64 (qD (gW g) vs lv r.l gx).yh,.int .i64 (qD (gW g) vs lv r.l gx).sl,.int .i64 (qD (gW g) vs lv r.l gx).sh] 160)]) (fun gx=>gx≤r.l.length) (fun gx=>r.l.length-gx) 0 (by exact bG _) (.c4 rfl rfl rfl rfl (.c4 rfl rfl rfl rfl (.c4 rfl rfl rfl rfl .nil))) (fun _ h=>h) ?_)
  rintro k hk
  refine VC.q (VO.t rfl<|VO.n<|ak<|ay rfl (fun h63=>?_) (fun h63=>?_))
  ·
   obtain⟨p,hpk⟩:∃p,r.l[k]? =some p:=⟨_,af (by omega)⟩
   have hpm:=hrm p (al hpk)
   have hspn:=hok p (by omega)
   unfold lH at hspn
   have hbd:=Ib (W:=gW g) (vs:=vs) (lv:=lv) (l:=r.l) hok (fun q hq=>by have:=hrm q hq;omega) k (by omega)
   refine aC (ag<|ak<|aG<|VC.q (ah (cw ei N3 hpx.sm (.r rfl) (.r rfl) rfl (by omega)) rfl<|ah (aB O3 (.r rfl) (fun w hw=>bq (off:=0) ((fun w3 h3=>RO.tu (DY hpx w3 h3) hpk) w hw) ⟨_,rfl⟩)) rfl<|VO.a rfl<|VO.n<|ak ?_))
   refine cP [[0,1],[1],[1]] [some 0,some 0,some 0,some 0,some 0,some 0,some 0,some 0,some 0,some 0,some 0,some 0,some 0,some 0,some 0,none,some 1,none] mixed (by kernel_rfl) rfl (aA (fun _ hJ=>aE (r:=2) Uv (.r rfl) rfl) rfl<|aA (fun _ hJ=>aM (vs:=[_,_]) xb (.r rfl) (fun _ hw=>aX (hJ _ hw) 0 rfl ⟨_,rfl⟩) rfl) rfl<|LX.m rfl<|aA (fun _ hJ=>aE (r:=3) jD (.r rfl) rfl) rfl<|aA (fun _ hJ=>aB O3 (.r rfl) (aW (aU (off:=3) hgr ⟨_,rfl⟩))) rfl<|aA (fun _ hJ=>dy (LO.rem (.r rfl) (.r rfl) (by omega)) (congrArg (bX .i64) (Ik hg p))) rfl<|aA (fun _ hJ=>bD (xs:=[_,_]) (vs:=[_,_]) ahz ⟨(.r rfl),(.r rfl),trivial⟩ (fun w _=>V3 _ _ _ w)) rfl<|aA (fun _ hJ=>aE (r:=4) Ut (.r rfl) rfl) rfl<|aA (fun _ hJ=>aM (vs:=[_,_]) xb (.r rfl) (fun _ hw=>aX (hJ _ hw) 0 rfl ⟨_,rfl⟩) rfl) rfl<|LX.m rfl<|aA (fun _ hJ=>aE (r:=3) jD (.r rfl) rfl) rfl<|aA (fun _ hJ=>aB O3 (.r rfl) (aW (aU (off:=3) hgr ⟨_,rfl⟩))) rfl<|aA (fun _ hJ=>dy (LO.quo (.r rfl) (.r rfl) (by omega) (wi (by rw[rf hg];have:=Et hg (p:=p) (by omega);omega) (by rw[rf hg];have:=Et hg (p:=p) (by omega);omega))) (congrArg (bX .i64) (rf hg p))) rfl<|aA (fun _ hJ=>bD (xs:=[_,_]) (vs:=[_,_]) ahz ⟨(.r rfl),(.r rfl),trivial⟩ (fun w _=>V3 _ _ _ w)) rfl<|aA (fun _ hJ=>aE (r:=2) Uv (.r rfl) rfl) rfl<|cn<|aA (fun _ hJ=>aE (r:=4) Ut (.r rfl) rfl) rfl<|cn<|dw) (au<|au<|au<|au<|au<|au<|au<|au<|au<|au<|au<|au<|au<|au<|au<|eW<|bl 0 (vs:=[_,_]) (C':=[_,_,_,_,_,_,_,_]) (L':=[_,_]) sC rfl rfl rfl rfl rfl rfl rfl rfl<|⟨fun _ hw=>hw.fO [1] rfl,au<|eW<|bl 0 (vs:=[_,_]) (C':=[_,_,_,_,_,_,_,_]) (L':=[_,_]) sC rfl rfl rfl rfl rfl rfl rfl rfl<|⟨fun _ hw=>hw.fO [1] rfl,dS ?_⟩⟩)
   refine ag<|ak<|cP [[0,1],[1]] [some 0,some 0,some 0,some 0,some 0,some 0,some 0,some 0,some 0,some 0,some 0,some 0,some 0,none] mixed (by kernel_rfl) rfl (aA (fun _ hJ=>aE (r:=6) Hl (.r rfl) rfl) rfl<|aA (fun _ hJ=>aE (r:=7) rR (.r rfl) rfl) rfl<|aA (fun _ hJ=>aB O3 (.r rfl) (fun _ hw=>aX (hJ _ hw) 0 rfl ⟨_,rfl⟩)) rfl<|aA (fun _ hJ=>aE (r:=0) Cw (.r rfl) rfl) rfl<|aA (fun _ hJ=>aE (r:=5) jI (.r rfl) rfl) rfl<|aA (fun _ hJ=>aB JL (.r rfl) (aW (aU (off:=5) hsh ⟨_,rfl⟩))) rfl<|LX.m rfl<|aA (fun _ hJ=>cw uH sC hv1.some (.r rfl) (.r rfl) rfl (by omega)) rfl<|aA (fun _ hJ=>aE rR (.r rfl) rfl) rfl<|aA (fun _ hJ=>aB O3 (.r rfl) (fun w hw=>bq (off:=1) ((hv1.at (j:=p) (by omega)) w (hJ _ hw)) ⟨_,rfl⟩)) rfl<|aA (fun _ hJ=>LO.add (.r rfl) (.r rfl) (wi (by omega) (by omega))) rfl<|aA (fun _ hJ=>aE (r:=6) Hl (.r rfl) rfl) rfl<|aA (fun _ hJ=>aE (r:=7) rR (.r rfl) rfl) rfl<|cn<|dw) (au<|au<|au<|au<|au<|au<|au<|au<|au<|au<|au<|au<|au<|eW<|bl 0 (vs:=[_]) (C':=[_,_,_,_,_,_,_,_]) (L':=[_,_]) N3 rfl rfl rfl rfl rfl rfl rfl rfl<|⟨fun _ hw=>hw.fO [1] rfl,dS ?_⟩)
   refine ag<|VC.q (ah (aM (vs:=[_,_,_,_,_,_,_]) Np (.r rfl) (aW (aU (off:=0) hsh ⟨_,rfl⟩)) rfl) rfl<|VO.m rfl<|ah (bD (xs:=[_,_]) (vs:=[_,_]) aiY ⟨(.r rfl),(.r rfl),trivial⟩ (fun w hw=>ahD g vs pv cv lv p w (hv1.keep w hw) (by omega))) rfl<|VO.n<|ay rfl (fun h97=>?_) (fun h97=>?_))
   ·
    refine cP [[0,1],[1]] [some 0,some 0,some 0,some 0,some 0,some 0,some 0,some 0,some 0,some 0,some 0,some 0,some 0,none] mixed (by kernel_rfl) rfl (aA (fun _ hJ=>aE (r:=6) Hl (.r rfl) rfl) rfl<|aA (fun _ hJ=>aE (r:=6) rL (.r rfl) rfl) rfl<|aA (fun _ hJ=>aB O3 (.r rfl) (fun _ hw=>aX (hJ _ hw) 0 rfl ⟨_,rfl⟩)) rfl<|aA (fun _ hJ=>aE (r:=0) Cw (.r rfl) rfl) rfl<|aA (fun _ hJ=>aE (r:=5) jI (.r rfl) rfl) rfl<|aA (fun _ hJ=>aB JL (.r rfl) (aW (aU (off:=5) hsh ⟨_,rfl⟩))) rfl<|LX.m rfl<|aA (fun _ hJ=>cw uH sC hv1.some (.r rfl) (.r rfl) rfl (by omega)) rfl<|aA (fun _ hJ=>aE rL (.r rfl) rfl) rfl<|aA (fun _ hJ=>aB O3 (.r rfl) (fun w hw=>bq (off:=0) ((hv1.at (j:=p) (by omega)) w (hJ _ hw)) ⟨_,rfl⟩)) rfl<|aA (fun _ hJ=>LO.add (.r rfl) (.r rfl) (wi (by omega) (by omega))) rfl<|aA (fun _ hJ=>aE (r:=6) Hl (.r rfl) rfl) rfl<|aA (fun _ hJ=>aE (r:=6) rL (.r rfl) rfl) rfl<|cn<|dw) (au<|au<|au<|au<|au<|au<|au<|au<|au<|au<|au<|au<|au<|eW<|bl 0 (vs:=[_]) (C':=[_,_,_,_,_,_,_,_]) (L':=[_,_]) N3 rfl rfl rfl rfl rfl rfl rfl rfl<|⟨fun _ hw=>hw.fO [1] rfl,dS ?_⟩)
    refine bB (ag<|aF (VO.p rfl rfl (by omega) (by omega) rfl<|VO.m rfl<|aI ?_))
    have hsc:=xC (W:=gW g) (vs:=vs) (lv:=lv) hpk
    refine bn fun a w ha hw=>⟨k+1,(by omega),(by omega),ha.sub (.c4 rfl rfl rfl rfl (.c4 rfl rfl rfl rfl (.c4 rfl rfl rfl rfl .nil))),(by rw[hsc];first |exact hw|(unfold Bm;dsimp only;rw[if_pos h97];exact hw)|(unfold Bm;dsimp only;rw[if_neg h97];exact hw))⟩
   ·
    refine aC (bB (ag<|aF (VO.p rfl rfl (by omega) (by omega) rfl<|VO.m rfl<|aI ?_)))
    have hsc:=xC (W:=gW g) (vs:=vs) (lv:=lv) hpk
    refine bn fun a w ha hw=>⟨k+1,(by omega),(by omega),ha.sub (.c4 rfl rfl rfl rfl (.c4 rfl rfl rfl rfl (.c4 rfl rfl rfl rfl .nil))),(by rw[hsc];first |exact hw|(unfold Bm;dsimp only;rw[if_pos h97];exact hw)|(unfold Bm;dsimp only;rw[if_neg h97];exact hw))⟩
  ·
   have hke:k=r.l.length:=by omega
   subst hke
   rw[QX]
   refine ca (aL (aL (cD (ag<|aF (VO.m rfl<|VO.m rfl<|ah (aM (vs:=[_,_,_,_,_,_,_,_]) aeH (.r rfl) (ax 0 rfl ⟨_,rfl⟩) rfl) rfl<|ah (gp BC Ny (fun _ hw=>(dE hw 1 rfl).some (by rw[aq];first |(rw[z7 (by omega)])|(exact hki.len.symm))) (.r rfl) (.r rfl) rfl (by omega)) rfl<|bU<|HO.stm 1 (fun R=>[_,R]) ((mr (gW g) vs lv r)) (vs:=[_,_,_,_,_,_,_,_]) Ny (.r rfl) (.r rfl) rfl (by rw[z7 (by omega)];omega) rfl rfl rfl rfl rfl (fun _=>rfl)<|aI ?_)))))
   rw[Rw hr]
   refine bB (ag<|aF (VO.p rfl rfl (by omega) (by omega) rfl<|VO.m rfl<|aI<|bn fun a w ha hw=>⟨i+1,(by omega),(by omega),ha.sub (.c4 rfl rfl rfl rfl (.cons rfl (.cons rfl (.cons rfl .nil)))),hw.fO [1] rfl⟩))
 ·
  have hie:i=y1.rs.length:=by omega
  subst hie
  rw[RA]
  refine ca (aL (aL (cD (ag<|VC.q (ah (aM (vs:=[_,_,_,_,_]) vS (.r rfl) (aW (aU (off:=0) hgr ⟨_,rfl⟩)) rfl) rfl<|ah (aM (vs:=[_,_,_,_,_,_,_]) Np (.r rfl) (aW (aU (off:=0) hsh ⟨_,rfl⟩)) rfl) rfl<|ah (LO.mf2 (first:=[_]) (cap:=[]) ⟨(.r rfl),trivial⟩ trivial) rfl<|aD rfl<|cz (xs:=[_,_]) (vs:=[_,_]) aiJ ⟨(.r rfl),(.r rfl),trivial⟩ (fun w hw=>O8 g 177 [zR g pv vs.length cv lv] (yf vs lv) w hg aiY (fun w2 p hp hw2=>ahD g vs pv cv lv p w2 ((hv1.keep w hw).keep w2 hw2) (by omega))) fun y2 hy2=>aD rfl<|aO (bJ (.r rfl))<|aD rfl<|aO (bN (.r rfl) rfl)<|aD rfl<|aO (bN (.r rfl) rfl)<|aD rfl<|aO (LO.as (.r rfl))<|aD rfl<|aO (LO.as (.r rfl))<|aI ?_)))))
  have hyl2:y2.rs.length≤gW g*gH g:=by have:=congrArg fT hy2;rw[aq]at this;rw[this];exact lF
  refine ag<|ak<|ak<|VC.res (L':=[own 160 8 (some ⟨b7,0,none⟩) y1.rs.length ((y1.rs.map (mr (gW g) vs lv)).map eC.cells)]++[_,_,_]) (bM [3,0,1,2] rfl rfl)<|VC.XQ fun w2 hst2=>?_
  have hofk:∀{L:List cq} {w3:World},St ⟨w2,lu [own 160 8 (some ⟨b7,0,none⟩) y1.rs.length ((y1.rs.map (mr (gW g) vs lv)).map eC.cells)]⟩ L w3→RO 1 iC w3 y1.po (pF (gW g) (gH g) (ga vs lv)):=fun h=>DY hOF _ (St.fz hst2 h)
  have hkk:∀{L:List cq} {w3:World},St ⟨w2,lu [own 160 8 (some ⟨b7,0,none⟩) y1.rs.length ((y1.rs.map (mr (gW g) vs lv)).map eC.cells)]⟩ L w3→RR 1 nC w3 y2.p y2.rs:=fun h=>RR.kg (St.lZ (St.fz hst2 h)) 0 1 rfl rfl
  have hks:RR 1 nC w2 y2.p y2.rs:=RR.kg (St.lZ hst2) 0 1 rfl rfl
  refine VC.res (fun w hw=>Ug (W:=gW g) (vs:=vs) (lv:=lv) (rs:=y1.rs) hw) ?_
  show VC _ _ _ _ _ _ [bS ((y1.rs.map (mr (gW g) vs lv)).map eC.kR),own 160 8 (some ⟨b7,0,none⟩) y1.rs.length ((y1.rs.map (mr (gW g) vs lv)).map eC.cells)] _ _
  refine aF (VO.m rfl<|ah (bW rm (.r rfl) rfl) rfl<|VO.m rfl<|VO.n<|aG<|ik [1,0] rfl<|bY (α:=Nat×(List eC)) 2 (fun gx=>[(126,.int .i64 (gx.1:Nat))]) [(6,_),(7,_),(124,_),(125,_)] (fun gx=>[own 160 8 (some ⟨b7,0,none⟩) y1.rs.length (gx.2.map eC.cells),bS (gx.2.map eC.kR)]) (fun gx=>gx.1≤y2.rs.length∧Cq (gW g) vs lv y1.rs y2.rs gx.1 gx.2) (fun gx=>y2.rs.length-gx.1) (0,(y1.rs.map (mr (gW g) vs lv))) (by exact⟨bG _,Cq.zero⟩) (.c4 rfl rfl rfl rfl (.cons rfl .nil)) (fun _ h=>h) ?_)
  rintro ⟨j,l⟩ ⟨hj,hki⟩
  show VC _ _ _ _ _ ([(126,.int .i64 (j:Nat))]++_) ([own 160 8 (some ⟨b7,0,none⟩) y1.rs.length (l.map eC.cells),bS (l.map eC.kR)]++_) _ _
  dsimp only at hj hki
  refine VC.q (VO.t rfl<|VO.n<|ak<|ay rfl (fun h127=>?_) (fun h127=>?_))
  ·
   obtain⟨kr,hk⟩:∃kr,y2.rs[j]? =some kr:=⟨_,af (by omega)⟩
   obtain⟨hk1,hk2,hk3,ix,hix,hixl,hixm⟩:=YP (rs:=y1.rs) (vs:=vs) (lv:=lv) (fun j hj=>hok j (by omega)) hy1 hy2 hk
   have hk0:kr.l[0]? =some (kr.l.getD 0 0):=by rw[av,af hk1];rfl
   obtain⟨aa,haa⟩:∃a,l[ix]? =some a:=⟨_,af (by rw[hki.len];exact hixl)⟩
   have hain:kr.l.headD 0∈aa.px.l:=hixm aa.px (by rw[←hki.px,aw,haa];rfl)
   have hk4:aa.kr.length≤j:=by rw[hki.kr aa (al haa)];exact eL (cH _ _) (by rw[List.length_take];omega)
   refine aC (ag<|ak<|aG<|VC.q (ah (cw rm qo hks.1.sm (.r rfl) (.r rfl) rfl (by omega)) rfl<|ah (aB ij (.r rfl) (fun w hw=>bq (off:=0) ((fun w3 h3=>RR.cell (hkk h3) hk) w hw) ⟨_,rfl⟩)) rfl<|VO.a rfl<|VO.n<|ak ?_))
   refine aF (VO.m rfl<|VO.m rfl<|VO.m rfl<|ah (cw ei N3 (RR.row hks hk).sm (.r rfl) (.r rfl) (j:=0) rfl hk1) rfl<|ah (aB O3 (.r rfl) (fun w hw=>bq (off:=0) ((fun w3 h3=>RO.tu (RR.row (hkk h3) hk) hk0) w hw) ⟨_,rfl⟩)) rfl<|ah (cw ei N3 hofs (.r rfl) (.r rfl) rfl hk2) rfl<|ah (aB O3 (.r rfl) (fun w hw=>bq (off:=0) ((fun w3 h3=>RO.tu (hofk h3) hix) w hw) ⟨_,rfl⟩)) rfl<|ah (gp BC Ny (fun _ hw=>(dE hw 0 rfl).some (by rw[aq];first |(rw[z7 (by omega)])|(exact hki.len.symm))) (.r rfl) (.r rfl) rfl hixl) rfl<|VO.a rfl<|VO.n<|VC.res (L':=eC.kR aa::bS ((l.eraseIdx ix).map eC.kR)::[_]) (fun w hw=>St.yD (f:=eC.kR) (bM [1,0] rfl rfl w hw) haa) ?_)
   show VC _ _ _ _ _ _ (own 112 1 aa.kp aa.kc (aa.kr.map sw)::_) _ _
   refine aF (VO.m rfl<|VO.m rfl<|ah (LO.nc (.r rfl)) rfl<|VO.f GC rfl<|ah (aB adI (.r rfl) (fun w hw=>bq (off:=1) (gN hw 2 rfl haa) ⟨_,rfl⟩)) rfl<|VO.m rfl<|aD rfl<|fu (ps:=[(_,_)]) (vs:=[(_,_)]) (Z:=[_]) (C:=[_]) rm TJ qo ⟨(.r rfl),trivial⟩ rfl rfl rfl rfl ⟨_,[_],[_],rfl,rfl,rfl,rfl,rfl⟩ fun b23=>aD rfl<|HO.kT (kr) 1 0 (fun R=>[_,R,_,_]) rm rm adJ (.r rfl) (.r rfl) rfl rfl rfl rfl rfl rfl rfl (fun _=>rfl) rfl (by have:=hk4;omega) fun p7 c7=>ah (LO.nc (.r rfl)) rfl<|VO.f GC rfl<|bU<|HO.Yc 3 (fun R=>[_,_,_,R]) (o:=1) (vs:=[_]) alV (.r rfl) (.r rfl) rfl (tF haa) rfl rfl (Nat.le_of_ble_eq_true rfl) rfl (fun _=>rfl)<|aI<|bB (ag<|aF (VO.p rfl rfl (by omega) (by omega) rfl<|VO.m rfl<|aI ?_)))
   rw[adp haa]
   refine bn fun a w ha hw=>⟨(j+1,l.set ix { aa with kp:=p7,kc:=c7,kr:=aa.kr++[kr] }),⟨by dsimp only;omega,hki.add hk haa hain (by rw[hy1];exact pY (bA _))⟩,(by dsimp only;omega),ha.sub (.c4 rfl rfl rfl rfl (.cons rfl .nil)),(by exact bM (L1:=[_,_]) [1,0] rfl rfl _ (St.sO (f:=eC.kR) (a:={ aa with kp:=p7,kc:=c7,kr:=aa.kr++[kr] }) (i:=ix) (bM (L1:=eC.kR { aa with kp:=p7,kc:=c7,kr:=aa.kr++[kr] }::[_,_]) [1,2,3] rfl rfl _ hw) (by rw[hki.len];exact hixl)))⟩
  ·
   have hje:j=y2.rs.length:=by omega
   subst hje
   refine ca (aL (aL (cD (ag<|VC.q (VO.m rfl<|VO.m rfl<|VO.a rfl<|VO.a rfl<|VO.n<|aP (dh (vs:=[_,_]) rfl ⟨rfl,rfl,trivial⟩ (fun w hw=>?_)))))))
   have hE:=hki.done hy1 hy2
   have hpxE:=hki.px
   have hkrE:∀a,a∈l→∀k,k∈a.kr→k∈y2.rs:=fun a ha k hk=>by rw[hki.kr a ha]at hk;exact List.mem_of_mem_take (bK.1 hk).1
   have hf:=hst1.call (St.fz hst2 (bM (L1:=[_,_]) [0,1] rfl rfl _ hw))
   have hll:y1.rs.length=l.length:=hki.len.symm
   exact⟨⟨l,some ⟨b7,0,none⟩,y1.rs.length,y1.rs,y1.p,y1.c,y2.rs,y2.p,y2.c,y1.po,y1.co,pF (gW g) (gH g) (yf vs lv),y2.po,y2.co⟩,⟨hE,hpxE,hkrE⟩,by rw[←hll];rfl,bM [0,1,2,3,4,5,6,7] rfl rfl _ hf⟩
theorem ag6:ef ae 109:=⟨_,Tryz.func109,by decide,rfl⟩
theorem ah4:ef ae 110:=⟨_,Tryz.func110,by decide,rfl⟩
theorem XP {W H:Nat} {S:Nat→Bool} {q:Nat} (h:q<W*H):(pF W H S)[q]? =some (lX (eU W H S) q):=by unfold pF;rw[aw,eu h];rfl
theorem Wu (g:cU) (vs:List Span) (pv:Option Addr) (cv:Nat) (lv:Int) (w:World) (hv:lP w pv vs) (hok:nF g vs lv=0):
 Calls ae 43 #[vm g pv vs.length cv,.int .i64 lv] w fun e w'=>∃y:qZ,HT (gW g) (gH g) vs lv y∧e= .returned (.tuple #[.slice y.p y.l.length y.c,.int .i64 0])∧St (bs w) (y.R (pF (gW g) (gH g) (ga vs lv))) w':=by
 obtain⟨hg,hlen,hok2,hlv1,hlv2⟩:=Co hok
 have hvl:vs.length=gW g*gH g:=abH hg hlen
 refine enter (vs:=[_,_]) (env:=[(0,_),(1,_)]) Tryz.func43 rfl rfl rfl rfl ?_
 refine VC.q (aD rfl<|cf (C:=#[_,_,_,_,_,_]) rfl rfl fun b1=>VO.a rfl<|VO.a rfl<|VO.n<|VC.q (ah (aM (vs:=[_,_,_,_,_,_]) wA (.r rfl) (ax 0 rfl ⟨_,rfl⟩) rfl) rfl<|VO.m rfl<|ah (bD (xs:=[_,_]) (vs:=[_,_]) ag6 ⟨(.r rfl),(.r rfl),trivial⟩ (fun w hw=>QY g vs pv cv lv w (hv.keep w hw) hok)) rfl<|VO.m rfl<|ah (bN (.r rfl) rfl) rfl<|ah (bN (.r rfl) rfl) rfl<|aD rfl<|bI (C:=#[_,_,_,_,_,_,_]) XM rfl fun b2=>bU<|bl 0 (vs:=[_,_,_,_,_,_,_]) (C':=[_,_,_,_,_,_,_]) (L':=[_,_]) Wa rfl rfl rfl rfl rfl rfl rfl rfl<|VO.a rfl<|VO.n<|ak ?_))
 refine VC.q (VO.m rfl<|VO.u rfl<|VO.n<|ay rfl (fun h17=>?_) (fun h17=>?_))
 · (exfalso;exact h17 rfl)
 ·
  refine aC (ag<|VC.q (ah (aM (vs:=[_,_,_,_,_,_,_]) Np (.r rfl) (ax 0 rfl ⟨_,rfl⟩) rfl) rfl<|aD rfl<|cz (xs:=[_]) (vs:=[_]) ah4 ⟨(.r rfl),trivial⟩ (fun w hw=>P2 g vs pv cv lv w hg hlen hok2 (hv.keep w hw)) fun y hy=>aD rfl<|aO (bJ (.r rfl))<|aD rfl<|aO (bN (.r rfl) rfl)<|aD rfl<|aO (bN (.r rfl) rfl)<|aD rfl<|aO (LO.as (.r rfl))<|aD rfl<|aO (LO.as (.r rfl))<|VO.n<|VC.q (VO.m rfl<|VO.a rfl<|VO.a rfl<|VO.n ?_)))
  refine aP (dh (vs:=[_,_]) rfl ⟨rfl,rfl,trivial⟩ (fun w hw=>?_))
  exact⟨y,hy,rfl,bM [0,1,2,3,4,5,6,7] rfl rfl _ hw⟩
theorem XY (g:cU) (vs:List Span) (pv:Option Addr) (cv:Nat) (lv:Int) (w:World) (hv:lP w pv vs) (hne:nF g vs lv≠0):
 Calls ae 43 #[vm g pv vs.length cv,.int .i64 lv] w fun e w'=>e= .returned (.tuple #[.slice none 0 0,.int .i64 (nF g vs lv)])∧St (bs w) [] w':=by
 refine enter (vs:=[_,_]) (env:=[(0,_),(1,_)]) Tryz.func43 rfl rfl rfl rfl ?_
 refine VC.q (aD rfl<|cf (C:=#[_,_,_,_,_,_]) rfl rfl fun b1=>VO.a rfl<|VO.a rfl<|VO.n<|VC.q (ah (aM (vs:=[_,_,_,_,_,_]) wA (.r rfl) (ax 0 rfl ⟨_,rfl⟩) rfl) rfl<|VO.m rfl<|ah (bD (xs:=[_,_]) (vs:=[_,_]) ag6 ⟨(.r rfl),(.r rfl),trivial⟩ (fun w hw=>V5 g vs pv cv lv w (hv.keep w hw) hne)) rfl<|VO.m rfl<|ah (bN (.r rfl) rfl) rfl<|ah (bN (.r rfl) rfl) rfl<|aD rfl<|bI (C:=#[_,_,_,_,_,_,_]) XM rfl fun b2=>bU<|bl 0 (vs:=[_,_,_,_,_,_,_]) (C':=[_,_,_,_,_,_,_]) (L':=[_,_]) Wa rfl rfl rfl rfl rfl rfl rfl rfl<|VO.a rfl<|VO.n<|ak ?_))
 refine VC.q (VO.m rfl<|VO.u rfl<|VO.n<|ay rfl (fun h17=>?_) (fun h17=>?_))
 ·
  refine VC.q (VO.m rfl<|VO.a rfl<|VO.a rfl<|VO.n<|aP (a8 (dh (vs:=[_,_]) rfl ⟨rfl,rfl,trivial⟩ (fun w hw=>?_))))
  exact⟨rfl,hw.nil⟩
 · (exfalso;exact hne (Classical.not_not.1 h17))
theorem ada:bV ae 160 0 0:=⟨_,_,k6,rfl,rfl,0,by kernel_rfl⟩
theorem CX {g:cU} {vs:List Span} {lv:Int} (h:fS 1073741824 ⟨g,vs⟩=0) (h1:1≤lv) (h2:lv≤1073741824):nF g vs lv=0:=by unfold nF;rw[if_neg (fun z=>z h),if_neg (by omega)]
theorem MH {W H:Nat} {vs:List Span} {lv:Int} {y:qZ} (h:HT W H vs lv y):(eU W H (ga vs lv)).length=y.l.length:=by
 have:=congrArg fT h.m
 unfold mq at this
 rw[aq,aq]at this
 exact this.symm
theorem agt:cj ae 108 (.agg #[.int .i64 0,.int .i64 0,.int .i64 0,.int .i64 0,.int .i64 0,.slice none 0 0]):=by unfold cj;kernel_rfl
theorem ahL:(ae.info? 108).map (·.size)=some 6:=by kernel_rfl
theorem Zt:Iy ae 88 5:=⟨⟨_,Tryz.underlying88,rfl⟩,by kernel_rfl,by kernel_rfl⟩
theorem aeP:cj ae 347 (.agg #[.int .i64 0,.int .i64 0,.int .i64 0,.int .i64 0,.int .i64 0,.slice none 0 0,.slice none 0 0]):=by unfold cj;kernel_rfl
theorem amv:ed ae 347 [(0,5),(5,1),(6,1)] [.int .i64 0,.int .i64 0,.int .i64 0,.int .i64 0,.int .i64 0,.slice none 0 0,.slice none 0 0]:=ed.mk fun _=>by kernel_rfl
theorem GA:(ae.info? 347).map (·.size)=some 7:=by kernel_rfl
theorem Gt:jX ae 347 7:=⟨⟨_,oI,rfl⟩,by kernel_rfl⟩
theorem oV:tG ae 401 [(0,1),(1,1),(2,1)] [.int .i64 0,.int .i64 0,.int .i64 0]:=tG.mk (z:=1) (n:=3) (fun _=>by kernel_rfl) rfl
theorem GP:tG ae 505 [(0,3),(3,3),(6,3)] [.int .i64 0,.int .i64 0,.int .i64 0,.int .i64 0,.int .i64 0,.int .i64 0,.int .i64 0,.int .i64 0,.int .i64 0]:=tG.mk (z:=3) (n:=3) (fun _=>by kernel_rfl) rfl
theorem He:jX ae 401 3:=⟨⟨_,gK,rfl⟩,by kernel_rfl⟩
theorem _root_.Go.SL.LO.Yy {P:Program} {β:Bs} {env:Env} {L:List cq} {d:Option Nat} {ty:TypeId} {pos:String} {aft:Array Edge} {g:Option (Nat×Bool)} {x i:Operand} {T E n z:Nat} {C:Array Value} {j:Nat} {k:IntKind} {e:Int} {vs:List Value} (hT:P.underlying T=some (.array n E)) (hE:jX P E z) (hx:OV env x (.agg C)) (hi:OV env i (.int k e)) (he:e=(j:Int)) (hj:j<n) (hv:(C.extract (j*z) (j*z+z)).toList=vs):
  LO P β env L ⟨d,.index T x i,ty,pos,aft,g⟩ (.agg vs.toArray):=
 .ee fun a w h hw=>⟨w,by
  subst he
  have he':C.extract (j*z) (j*z+z)=vs.toArray:=by rw[←hv]
  simp [execOp,h x (by simp [Op.operands]) _ hx,h i (by simp [Op.operands]) _ hi,Instr.index,asIntOf,run_underlying hT,jv hE.2,hj,part,v8 hE,he'],hw⟩
def Bg (g:cU):List Int:=[g.x,g.y,g.size,g.wide,g.high]
section
variable {g1 g2:cU} {v1 v2:List Span} {lv reach:Int}
end
abbrev ZO (g:cU) (y:qZ):Value:=.agg #[.int .i64 g.x,.int .i64 g.y,.int .i64 g.size,.int .i64 g.wide,.int .i64 g.high,.slice y.p y.l.length y.c,.slice y.po (gW g*gH g) y.co]
theorem min2 (a:Nat):(a=0∧min (a:Int) 2=0)∨(a=1∧min (a:Int) 2=1)∨(2≤a∧min (a:Int) 2=2):=by omega
structure Ex (w:World) (y:qZ) (of:List Int):Prop where
 ar:RO 8 eC.cells w y.p y.l
 kr:∀a,a∈y.l→RR 1 nC w a.kp a.kr
 of:RO 1 iC w y.po of
theorem Ex.keep {w0:World} {y:qZ} {of:List Int} {L:List cq} (h:Ex w0 y of):∀w,St (bs w0) L w→Ex w y of:=fun w hw=>⟨h.ar.keep w hw,fun a ha=>(h.kr a ha).keep w hw,h.of.keep w hw⟩
def wK (W H:Nat) (of:List Int) (j x y:Int) (p:Nat):Bool:=
 decide (((p%W:Nat):Int)+x<0∨(W:Int)≤((p%W:Nat):Int)+x∨((p / W:Nat):Int)+y<0∨(H:Int)≤((p / W:Nat):Int)+y)||decide (of.getD ((((p / W:Nat):Int)+y)*W+(((p%W:Nat):Int)+x)).toNat (-1)=j)
def pW (W H:Nat) (ks:List (List Nat)) (of:List Int) (j x y:Int):Bool:=ks.all fun k=>k.all (wK W H of j x y)
theorem DA {α:Type} {l:List α} {f:α→Bool} {k:Nat} {r:α} (hz:∀i a,i<k→l[i]? =some a→f a=true) (hr:l[k]? =some r) (hf:f r=true):∀i a,i<k+1→l[i]? =some a→f a=true:=fun i a hi ha=>by
 rcases Nat.lt_succ_iff_lt_or_eq.1 hi with q|rfl
 ·exact hz i a q ha
 ·rw[hr]at ha;cases ha;exact hf
theorem Pt {α:Type} {l:List α} {f:α→Bool} {k:Nat} (hz:∀i a,i<k→l[i]? =some a→f a=true) (hk:l.length≤k):l.all f=true:=by
 refine bF.2 fun a ha=>?_
 obtain⟨i,hi,rfl⟩:=List.mem_iff_getElem.1 ha
 exact hz i _ (by omega) (af hi)
theorem Mi {α:Type} {l:List α} {f:α→Bool} {k:Nat} {r:α} (hr:l[k]? =some r) (hf:¬f r=true):l.all f=false:=Bool.eq_false_iff.2 fun h=>hf (bF.1 h r (al hr))
theorem target {g:cU} (h:cF g) {x y:Int} (hx:¬(x<0∨g.wide≤x∨y<0∨g.high≤y)):∃q:Nat,y*g.wide+x=q∧q<gW g*gH g∧(y*(gW g:Int)+x).toNat=q:=by
 obtain⟨e1,e2,w1,w2,h1,h2⟩:=ME h
 obtain⟨u,rfl⟩:∃u:Nat,x=u:=⟨x.toNat,by omega⟩
 obtain⟨v,rfl⟩:∃v:Nat,y=v:=⟨y.toNat,by omega⟩
 have hu:u<gW g:=by omega
 have hv:v<gH g:=by omega
 refine⟨v*gW g+u,by rw[←e1];push_cast;rfl,?_,?_⟩
 ·have:(v+1)*gW g≤gH g*gW g:=Nat.mul_le_mul_right _ hv
  rw[Nat.add_mul,Nat.one_mul]at this
  rw[Nat.mul_comm (gW g)]
  omega
 ·have:((v:Int)*(gW g:Int)+(u:Int))=((v*gW g+u:Nat):Int):=by push_cast;rfl
  rw[this];rfl
structure Mv where
 x:Int
 y:Int
def Mv.cells (m:Mv):List Value:=[.int .i64 m.x,.int .i64 m.y]
def Mv.neg (m:Mv):Mv:=⟨-m.x, -m.y⟩
def Iw (r n:Nat):Mv:=⟨((n%(2*r+1):Nat):Int)-r,((n / (2*r+1):Nat):Int)-r⟩
def Cx (W H:Nat) (ka kb:List (List Nat)) (ofa ofb:List Int) (i j:Nat) (m:Mv):Bool:=pW W H ka ofb j m.x m.y&&pW W H kb ofa i m.neg.x m.neg.y
def lz (W H:Nat) (ka kb:List (List Nat)) (ofa ofb:List Int) (i j r n:Nat):List Mv:=((br n).map (Iw r)).filter (Cx W H ka kb ofa ofb i j)
def tL (W H:Nat) (ka kb:List (List Nat)) (ofa ofb:List Int) (i j r:Nat):List Mv:=lz W H ka kb ofa ofb i j r ((2*r+1)*(2*r+1))
section
variable {W H i j r n:Nat} {ka kb:List (List Nat)} {ofa ofb:List Int}
theorem QZ (h:Cx W H ka kb ofa ofb i j (Iw r n)=true):lz W H ka kb ofa ofb i j r (n+1)=lz W H ka kb ofa ofb i j r n++[Iw r n]:=by unfold lz;rw[fA,bj,dI];simp [h]
theorem QW (h:¬Cx W H ka kb ofa ofb i j (Iw r n)=true):lz W H ka kb ofa ofb i j r (n+1)=lz W H ka kb ofa ofb i j r n:=by unfold lz;rw[fA,bj,dI];simp [h]
theorem Jy:(lz W H ka kb ofa ofb i j r n).length≤n:=by unfold lz;refine eL (cH _ _) ?_;simp
end
theorem aes (n r:Nat):((n:Int)).tmod (2*(r:Int)+1)=((n%(2*r+1):Nat):Int):=by
 rw[show(2*(r:Int)+1)=((2*r+1:Nat):Int) by push_cast;rfl];rfl
theorem MK (n r:Nat):((n:Int)).tdiv (2*(r:Int)+1)=((n / (2*r+1):Nat):Int):=by
 rw[show(2*(r:Int)+1)=((2*r+1:Nat):Int) by push_cast;rfl];rfl
theorem aaW {n r:Nat} (h:n<(2*r+1)*(2*r+1)):n%(2*r+1)≤2*r∧n / (2*r+1)≤2*r:=⟨by have:=Nat.mod_lt n (show 0<2*r+1 by omega);omega,by have:=Nat.div_lt_of_lt_mul h;omega⟩
theorem DF (g:cU) (vs:List Span) (pv:Option Addr) (cv:Nat) (lv:Int) (w:World) (hg:cF g) (hlen:(vs.length:Int)=g.wide*g.high) (hok:∀j,j<vs.length→lH 1073741824 (vs.getD j ⟨0,0⟩)) (hv:lP w pv vs):
 Calls ae 133 #[vm g pv vs.length cv,.int .i64 lv] w fun e w'=>∃y:qZ,HT (gW g) (gH g) vs lv y∧e= .returned (ZO g y)∧St (bs w) (y.R (pF (gW g) (gH g) (ga vs lv))) w':=by
 refine enter (vs:=[_,_]) (env:=[(0,_),(1,_)]) Tryz.func133 rfl rfl rfl rfl ?_
 refine VC.q (aD rfl<|cf (C:=#[_,_,_,_,_,_]) rfl rfl fun b1=>aD rfl<|bI (C:=#[_,_,_,_,_,_,_]) aeP rfl fun b2=>VO.n<|VC.q (ah (aM (vs:=[_,_,_,_,_,_]) wA (.r rfl) (ax 1 rfl ⟨_,rfl⟩) rfl) rfl<|VO.m rfl<|ah (dC (ps:=[(_,_),(_,_)]) (vs:=[(_,_),(_,_)]) (C:=[_,_,_,_,_,_,_]) Yu ⟨(.r rfl),(.r rfl),trivial⟩ rfl ⟨_,[_,_,_,_,_,_],[_,_,_,_,_,_,_],rfl,rfl,rfl,rfl,⟨_,[_],[_,_,_,_,_,_,_],rfl,rfl,rfl,rfl,rfl⟩⟩) rfl<|aD rfl<|cz (xs:=[_]) (vs:=[_]) ah4 ⟨(.r rfl),trivial⟩ (fun w hw=>P2 g vs pv cv lv w hg hlen hok (hv.keep w hw)) fun y hy=>aD rfl<|aO (bJ (.r rfl))<|aD rfl<|aO (bN (.r rfl) rfl)<|aD rfl<|aO (bN (.r rfl) rfl)<|aD rfl<|aO (LO.as (.r rfl))<|aD rfl<|aO (LO.as (.r rfl))<|VO.n<|ak ?_))
 refine aF (VO.f (r:=0) tE rfl<|ah (aM (vs:=[_,_,_,_,_]) vS (.r rfl) (ax 9 rfl ⟨_,rfl⟩) rfl) rfl<|VO.m rfl<|VO.m rfl<|ah (dC (ps:=[(_,_),(_,_),(_,_)]) (vs:=[(_,_),(_,_),(_,_)]) (C:=[_,_,_,_,_,_,_]) amv ⟨(.r rfl),(.r rfl),(.r rfl),trivial⟩ rfl ⟨_,[_,_,_,_,_],[_,_,_,_,_,_,_],rfl,rfl,rfl,rfl,⟨_,[_],[_,_,_,_,_,_,_],rfl,rfl,rfl,rfl,⟨_,[_],[_,_,_,_,_,_,_],rfl,rfl,rfl,rfl,rfl⟩⟩⟩) rfl<|bU<|bl 8 (vs:=[_,_,_,_,_,_,_]) (C':=[_,_,_,_,_,_,_]) (L':=[_,_,_,_,_,_,_,_,_,_]) GA rfl rfl rfl rfl rfl rfl rfl rfl<|VO.n<|aP (dh (vs:=[_]) rfl ⟨RV.agg (vs:=[_,_,_,_,_,_,_]) Gt rfl (ax 8 rfl ⟨_,rfl⟩) rfl,trivial⟩ (fun w hw=>?_)))
 exact⟨y,hy,rfl,bM [0,1,2,3,4,5,6,7] rfl rfl _ hw⟩
theorem aeJ (a b:Nat) (w:World) (ha:a<1000000) (hb:b<1000000) (hab:0<a+b):
 Calls ae 203 #[.int .i64 (a:Int),.int .i64 (b:Int)] w fun e w'=>e= .returned (.int .i64 (lG a b))∧St (bs w) [] w':=by
 refine enter (vs:=[_,_]) (env:=[(0,_),(1,_)]) Tryz.func203 rfl rfl rfl rfl ?_
 refine VC.q (VO.a rfl<|VO.n<|ak ?_)
 rcases min2 a with⟨ea,ma⟩|⟨ea,ma⟩|⟨ea,ma⟩<;>rcases min2 b with⟨eb,mb⟩|⟨eb,mb⟩|⟨eb,mb⟩
 ·
  subst ea
  subst eb
  refine aF (ah (fM (ps:=[(_,_),(_,_),(_,_)]) (vs:=[(_,_),(_,_),(_,_)]) (C:=[_,_,_]) oV rfl ⟨(.r rfl),(.r rfl),(.r rfl),trivial⟩ rfl ⟨_,[_],[_,_,_],rfl,rfl,rfl,rfl,⟨_,[_],[_,_,_],rfl,rfl,rfl,rfl,⟨_,[_],[_,_,_],rfl,rfl,rfl,rfl,rfl⟩⟩⟩) rfl<|ah (fM (ps:=[(_,_),(_,_),(_,_)]) (vs:=[(_,_),(_,_),(_,_)]) (C:=[_,_,_]) oV rfl ⟨(.r rfl),(.r rfl),(.r rfl),trivial⟩ rfl ⟨_,[_],[_,_,_],rfl,rfl,rfl,rfl,⟨_,[_],[_,_,_],rfl,rfl,rfl,rfl,⟨_,[_],[_,_,_],rfl,rfl,rfl,rfl,rfl⟩⟩⟩) rfl<|ah (fM (ps:=[(_,_),(_,_),(_,_)]) (vs:=[(_,_),(_,_),(_,_)]) (C:=[_,_,_]) oV rfl ⟨(.r rfl),(.r rfl),(.r rfl),trivial⟩ rfl ⟨_,[_],[_,_,_],rfl,rfl,rfl,rfl,⟨_,[_],[_,_,_],rfl,rfl,rfl,rfl,⟨_,[_],[_,_,_],rfl,rfl,rfl,rfl,rfl⟩⟩⟩) rfl<|ah (fM (ps:=[(_,_),(_,_),(_,_)]) (vs:=[(_,_),(_,_),(_,_)]) (C:=[_,_,_,_,_,_,_,_,_]) GP rfl ⟨(.r rfl),(.r rfl),(.r rfl),trivial⟩ rfl ⟨_,[_,_,_],[_,_,_,_,_,_,_,_,_],rfl,rfl,rfl,rfl,⟨_,[_,_,_],[_,_,_,_,_,_,_,_,_],rfl,rfl,rfl,rfl,⟨_,[_,_,_],[_,_,_,_,_,_,_,_,_],rfl,rfl,rfl,rfl,rfl⟩⟩⟩) rfl<|VO.m rfl<|ah (iV (.r rfl) (.r rfl)) rfl<|ah (LO.Yy (j:=0) (vs:=[_,_,_]) iD He (.r rfl) (.r rfl) ma (by decide) rfl) rfl<|VO.m rfl<|ah (iV (.r rfl) (.r rfl)) rfl<|ah (sf (j:=0) gK O3 (.r rfl) (.r rfl) mb (by decide) rfl) rfl<|VO.a rfl<|VO.n<|aP (VE.s rfl rfl (fun w hw=>?_)))
  refine⟨?_,hw.nil⟩
  refine congrArg (fun z=>cW (.int .i64 z)) ?_
  unfold lG
  first |(exfalso;omega)|(simp [ea,eb];done)|(rw[if_neg (by omega),if_neg (by omega)];first |rw[if_pos (by omega),if_pos (by omega)]|rw[if_pos (by omega),if_neg (by omega)]|rw[if_neg (by omega),if_pos (by omega)]|rw[if_neg (by omega),if_neg (by omega)])|(rw[if_pos (by omega)])|(rw[if_neg (by omega),if_pos (by omega)])
 ·
  refine aF (ah (fM (ps:=[(_,_),(_,_),(_,_)]) (vs:=[(_,_),(_,_),(_,_)]) (C:=[_,_,_]) oV rfl ⟨(.r rfl),(.r rfl),(.r rfl),trivial⟩ rfl ⟨_,[_],[_,_,_],rfl,rfl,rfl,rfl,⟨_,[_],[_,_,_],rfl,rfl,rfl,rfl,⟨_,[_],[_,_,_],rfl,rfl,rfl,rfl,rfl⟩⟩⟩) rfl<|ah (fM (ps:=[(_,_),(_,_),(_,_)]) (vs:=[(_,_),(_,_),(_,_)]) (C:=[_,_,_]) oV rfl ⟨(.r rfl),(.r rfl),(.r rfl),trivial⟩ rfl ⟨_,[_],[_,_,_],rfl,rfl,rfl,rfl,⟨_,[_],[_,_,_],rfl,rfl,rfl,rfl,⟨_,[_],[_,_,_],rfl,rfl,rfl,rfl,rfl⟩⟩⟩) rfl<|ah (fM (ps:=[(_,_),(_,_),(_,_)]) (vs:=[(_,_),(_,_),(_,_)]) (C:=[_,_,_]) oV rfl ⟨(.r rfl),(.r rfl),(.r rfl),trivial⟩ rfl ⟨_,[_],[_,_,_],rfl,rfl,rfl,rfl,⟨_,[_],[_,_,_],rfl,rfl,rfl,rfl,⟨_,[_],[_,_,_],rfl,rfl,rfl,rfl,rfl⟩⟩⟩) rfl<|ah (fM (ps:=[(_,_),(_,_),(_,_)]) (vs:=[(_,_),(_,_),(_,_)]) (C:=[_,_,_,_,_,_,_,_,_]) GP rfl ⟨(.r rfl),(.r rfl),(.r rfl),trivial⟩ rfl ⟨_,[_,_,_],[_,_,_,_,_,_,_,_,_],rfl,rfl,rfl,rfl,⟨_,[_,_,_],[_,_,_,_,_,_,_,_,_],rfl,rfl,rfl,rfl,⟨_,[_,_,_],[_,_,_,_,_,_,_,_,_],rfl,rfl,rfl,rfl,rfl⟩⟩⟩) rfl<|VO.m rfl<|ah (iV (.r rfl) (.r rfl)) rfl<|ah (LO.Yy (j:=0) (vs:=[_,_,_]) iD He (.r rfl) (.r rfl) ma (by decide) rfl) rfl<|VO.m rfl<|ah (iV (.r rfl) (.r rfl)) rfl<|ah (sf (j:=1) gK O3 (.r rfl) (.r rfl) mb (by decide) rfl) rfl<|VO.a rfl<|VO.n<|aP (VE.s rfl rfl (fun w hw=>?_)))
  refine⟨?_,hw.nil⟩
  refine congrArg (fun z=>cW (.int .i64 z)) ?_
  unfold lG
  first |(exfalso;omega)|(simp [ea,eb];done)|(rw[if_neg (by omega),if_neg (by omega)];first |rw[if_pos (by omega),if_pos (by omega)]|rw[if_pos (by omega),if_neg (by omega)]|rw[if_neg (by omega),if_pos (by omega)]|rw[if_neg (by omega),if_neg (by omega)])|(rw[if_pos (by omega)])|(rw[if_neg (by omega),if_pos (by omega)])
 ·
  refine aF (ah (fM (ps:=[(_,_),(_,_),(_,_)]) (vs:=[(_,_),(_,_),(_,_)]) (C:=[_,_,_]) oV rfl ⟨(.r rfl),(.r rfl),(.r rfl),trivial⟩ rfl ⟨_,[_],[_,_,_],rfl,rfl,rfl,rfl,⟨_,[_],[_,_,_],rfl,rfl,rfl,rfl,⟨_,[_],[_,_,_],rfl,rfl,rfl,rfl,rfl⟩⟩⟩) rfl<|ah (fM (ps:=[(_,_),(_,_),(_,_)]) (vs:=[(_,_),(_,_),(_,_)]) (C:=[_,_,_]) oV rfl ⟨(.r rfl),(.r rfl),(.r rfl),trivial⟩ rfl ⟨_,[_],[_,_,_],rfl,rfl,rfl,rfl,⟨_,[_],[_,_,_],rfl,rfl,rfl,rfl,⟨_,[_],[_,_,_],rfl,rfl,rfl,rfl,rfl⟩⟩⟩) rfl<|ah (fM (ps:=[(_,_),(_,_),(_,_)]) (vs:=[(_,_),(_,_),(_,_)]) (C:=[_,_,_]) oV rfl ⟨(.r rfl),(.r rfl),(.r rfl),trivial⟩ rfl ⟨_,[_],[_,_,_],rfl,rfl,rfl,rfl,⟨_,[_],[_,_,_],rfl,rfl,rfl,rfl,⟨_,[_],[_,_,_],rfl,rfl,rfl,rfl,rfl⟩⟩⟩) rfl<|ah (fM (ps:=[(_,_),(_,_),(_,_)]) (vs:=[(_,_),(_,_),(_,_)]) (C:=[_,_,_,_,_,_,_,_,_]) GP rfl ⟨(.r rfl),(.r rfl),(.r rfl),trivial⟩ rfl ⟨_,[_,_,_],[_,_,_,_,_,_,_,_,_],rfl,rfl,rfl,rfl,⟨_,[_,_,_],[_,_,_,_,_,_,_,_,_],rfl,rfl,rfl,rfl,⟨_,[_,_,_],[_,_,_,_,_,_,_,_,_],rfl,rfl,rfl,rfl,rfl⟩⟩⟩) rfl<|VO.m rfl<|ah (iV (.r rfl) (.r rfl)) rfl<|ah (LO.Yy (j:=0) (vs:=[_,_,_]) iD He (.r rfl) (.r rfl) ma (by decide) rfl) rfl<|VO.m rfl<|ah (iV (.r rfl) (.r rfl)) rfl<|ah (sf (j:=2) gK O3 (.r rfl) (.r rfl) mb (by decide) rfl) rfl<|VO.a rfl<|VO.n<|aP (VE.s rfl rfl (fun w hw=>?_)))
  refine⟨?_,hw.nil⟩
  refine congrArg (fun z=>cW (.int .i64 z)) ?_
  unfold lG
  first |(exfalso;omega)|(simp [ea,eb];done)|(rw[if_neg (by omega),if_neg (by omega)];first |rw[if_pos (by omega),if_pos (by omega)]|rw[if_pos (by omega),if_neg (by omega)]|rw[if_neg (by omega),if_pos (by omega)]|rw[if_neg (by omega),if_neg (by omega)])|(rw[if_pos (by omega)])|(rw[if_neg (by omega),if_pos (by omega)])
 ·
  refine aF (ah (fM (ps:=[(_,_),(_,_),(_,_)]) (vs:=[(_,_),(_,_),(_,_)]) (C:=[_,_,_]) oV rfl ⟨(.r rfl),(.r rfl),(.r rfl),trivial⟩ rfl ⟨_,[_],[_,_,_],rfl,rfl,rfl,rfl,⟨_,[_],[_,_,_],rfl,rfl,rfl,rfl,⟨_,[_],[_,_,_],rfl,rfl,rfl,rfl,rfl⟩⟩⟩) rfl<|ah (fM (ps:=[(_,_),(_,_),(_,_)]) (vs:=[(_,_),(_,_),(_,_)]) (C:=[_,_,_]) oV rfl ⟨(.r rfl),(.r rfl),(.r rfl),trivial⟩ rfl ⟨_,[_],[_,_,_],rfl,rfl,rfl,rfl,⟨_,[_],[_,_,_],rfl,rfl,rfl,rfl,⟨_,[_],[_,_,_],rfl,rfl,rfl,rfl,rfl⟩⟩⟩) rfl<|ah (fM (ps:=[(_,_),(_,_),(_,_)]) (vs:=[(_,_),(_,_),(_,_)]) (C:=[_,_,_]) oV rfl ⟨(.r rfl),(.r rfl),(.r rfl),trivial⟩ rfl ⟨_,[_],[_,_,_],rfl,rfl,rfl,rfl,⟨_,[_],[_,_,_],rfl,rfl,rfl,rfl,⟨_,[_],[_,_,_],rfl,rfl,rfl,rfl,rfl⟩⟩⟩) rfl<|ah (fM (ps:=[(_,_),(_,_),(_,_)]) (vs:=[(_,_),(_,_),(_,_)]) (C:=[_,_,_,_,_,_,_,_,_]) GP rfl ⟨(.r rfl),(.r rfl),(.r rfl),trivial⟩ rfl ⟨_,[_,_,_],[_,_,_,_,_,_,_,_,_],rfl,rfl,rfl,rfl,⟨_,[_,_,_],[_,_,_,_,_,_,_,_,_],rfl,rfl,rfl,rfl,⟨_,[_,_,_],[_,_,_,_,_,_,_,_,_],rfl,rfl,rfl,rfl,rfl⟩⟩⟩) rfl<|VO.m rfl<|ah (iV (.r rfl) (.r rfl)) rfl<|ah (LO.Yy (j:=1) (vs:=[_,_,_]) iD He (.r rfl) (.r rfl) ma (by decide) rfl) rfl<|VO.m rfl<|ah (iV (.r rfl) (.r rfl)) rfl<|ah (sf (j:=0) gK O3 (.r rfl) (.r rfl) mb (by decide) rfl) rfl<|VO.a rfl<|VO.n<|aP (VE.s rfl rfl (fun w hw=>?_)))
  refine⟨?_,hw.nil⟩
  refine congrArg (fun z=>cW (.int .i64 z)) ?_
  unfold lG
  first |(exfalso;omega)|(simp [ea,eb];done)|(rw[if_neg (by omega),if_neg (by omega)];first |rw[if_pos (by omega),if_pos (by omega)]|rw[if_pos (by omega),if_neg (by omega)]|rw[if_neg (by omega),if_pos (by omega)]|rw[if_neg (by omega),if_neg (by omega)])|(rw[if_pos (by omega)])|(rw[if_neg (by omega),if_pos (by omega)])
 ·
  refine aF (ah (fM (ps:=[(_,_),(_,_),(_,_)]) (vs:=[(_,_),(_,_),(_,_)]) (C:=[_,_,_]) oV rfl ⟨(.r rfl),(.r rfl),(.r rfl),trivial⟩ rfl ⟨_,[_],[_,_,_],rfl,rfl,rfl,rfl,⟨_,[_],[_,_,_],rfl,rfl,rfl,rfl,⟨_,[_],[_,_,_],rfl,rfl,rfl,rfl,rfl⟩⟩⟩) rfl<|ah (fM (ps:=[(_,_),(_,_),(_,_)]) (vs:=[(_,_),(_,_),(_,_)]) (C:=[_,_,_]) oV rfl ⟨(.r rfl),(.r rfl),(.r rfl),trivial⟩ rfl ⟨_,[_],[_,_,_],rfl,rfl,rfl,rfl,⟨_,[_],[_,_,_],rfl,rfl,rfl,rfl,⟨_,[_],[_,_,_],rfl,rfl,rfl,rfl,rfl⟩⟩⟩) rfl<|ah (fM (ps:=[(_,_),(_,_),(_,_)]) (vs:=[(_,_),(_,_),(_,_)]) (C:=[_,_,_]) oV rfl ⟨(.r rfl),(.r rfl),(.r rfl),trivial⟩ rfl ⟨_,[_],[_,_,_],rfl,rfl,rfl,rfl,⟨_,[_],[_,_,_],rfl,rfl,rfl,rfl,⟨_,[_],[_,_,_],rfl,rfl,rfl,rfl,rfl⟩⟩⟩) rfl<|ah (fM (ps:=[(_,_),(_,_),(_,_)]) (vs:=[(_,_),(_,_),(_,_)]) (C:=[_,_,_,_,_,_,_,_,_]) GP rfl ⟨(.r rfl),(.r rfl),(.r rfl),trivial⟩ rfl ⟨_,[_,_,_],[_,_,_,_,_,_,_,_,_],rfl,rfl,rfl,rfl,⟨_,[_,_,_],[_,_,_,_,_,_,_,_,_],rfl,rfl,rfl,rfl,⟨_,[_,_,_],[_,_,_,_,_,_,_,_,_],rfl,rfl,rfl,rfl,rfl⟩⟩⟩) rfl<|VO.m rfl<|ah (iV (.r rfl) (.r rfl)) rfl<|ah (LO.Yy (j:=1) (vs:=[_,_,_]) iD He (.r rfl) (.r rfl) ma (by decide) rfl) rfl<|VO.m rfl<|ah (iV (.r rfl) (.r rfl)) rfl<|ah (sf (j:=1) gK O3 (.r rfl) (.r rfl) mb (by decide) rfl) rfl<|VO.a rfl<|VO.n<|aP (VE.s rfl rfl (fun w hw=>?_)))
  refine⟨?_,hw.nil⟩
  refine congrArg (fun z=>cW (.int .i64 z)) ?_
  unfold lG
  first |(exfalso;omega)|(simp [ea,eb];done)|(rw[if_neg (by omega),if_neg (by omega)];first |rw[if_pos (by omega),if_pos (by omega)]|rw[if_pos (by omega),if_neg (by omega)]|rw[if_neg (by omega),if_pos (by omega)]|rw[if_neg (by omega),if_neg (by omega)])|(rw[if_pos (by omega)])|(rw[if_neg (by omega),if_pos (by omega)])
 ·
  refine aF (ah (fM (ps:=[(_,_),(_,_),(_,_)]) (vs:=[(_,_),(_,_),(_,_)]) (C:=[_,_,_]) oV rfl ⟨(.r rfl),(.r rfl),(.r rfl),trivial⟩ rfl ⟨_,[_],[_,_,_],rfl,rfl,rfl,rfl,⟨_,[_],[_,_,_],rfl,rfl,rfl,rfl,⟨_,[_],[_,_,_],rfl,rfl,rfl,rfl,rfl⟩⟩⟩) rfl<|ah (fM (ps:=[(_,_),(_,_),(_,_)]) (vs:=[(_,_),(_,_),(_,_)]) (C:=[_,_,_]) oV rfl ⟨(.r rfl),(.r rfl),(.r rfl),trivial⟩ rfl ⟨_,[_],[_,_,_],rfl,rfl,rfl,rfl,⟨_,[_],[_,_,_],rfl,rfl,rfl,rfl,⟨_,[_],[_,_,_],rfl,rfl,rfl,rfl,rfl⟩⟩⟩) rfl<|ah (fM (ps:=[(_,_),(_,_),(_,_)]) (vs:=[(_,_),(_,_),(_,_)]) (C:=[_,_,_]) oV rfl ⟨(.r rfl),(.r rfl),(.r rfl),trivial⟩ rfl ⟨_,[_],[_,_,_],rfl,rfl,rfl,rfl,⟨_,[_],[_,_,_],rfl,rfl,rfl,rfl,⟨_,[_],[_,_,_],rfl,rfl,rfl,rfl,rfl⟩⟩⟩) rfl<|ah (fM (ps:=[(_,_),(_,_),(_,_)]) (vs:=[(_,_),(_,_),(_,_)]) (C:=[_,_,_,_,_,_,_,_,_]) GP rfl ⟨(.r rfl),(.r rfl),(.r rfl),trivial⟩ rfl ⟨_,[_,_,_],[_,_,_,_,_,_,_,_,_],rfl,rfl,rfl,rfl,⟨_,[_,_,_],[_,_,_,_,_,_,_,_,_],rfl,rfl,rfl,rfl,⟨_,[_,_,_],[_,_,_,_,_,_,_,_,_],rfl,rfl,rfl,rfl,rfl⟩⟩⟩) rfl<|VO.m rfl<|ah (iV (.r rfl) (.r rfl)) rfl<|ah (LO.Yy (j:=1) (vs:=[_,_,_]) iD He (.r rfl) (.r rfl) ma (by decide) rfl) rfl<|VO.m rfl<|ah (iV (.r rfl) (.r rfl)) rfl<|ah (sf (j:=2) gK O3 (.r rfl) (.r rfl) mb (by decide) rfl) rfl<|VO.a rfl<|VO.n<|aP (VE.s rfl rfl (fun w hw=>?_)))
  refine⟨?_,hw.nil⟩
  refine congrArg (fun z=>cW (.int .i64 z)) ?_
  unfold lG
  first |(exfalso;omega)|(simp [ea,eb];done)|(rw[if_neg (by omega),if_neg (by omega)];first |rw[if_pos (by omega),if_pos (by omega)]|rw[if_pos (by omega),if_neg (by omega)]|rw[if_neg (by omega),if_pos (by omega)]|rw[if_neg (by omega),if_neg (by omega)])|(rw[if_pos (by omega)])|(rw[if_neg (by omega),if_pos (by omega)])
 ·
  refine aF (ah (fM (ps:=[(_,_),(_,_),(_,_)]) (vs:=[(_,_),(_,_),(_,_)]) (C:=[_,_,_]) oV rfl ⟨(.r rfl),(.r rfl),(.r rfl),trivial⟩ rfl ⟨_,[_],[_,_,_],rfl,rfl,rfl,rfl,⟨_,[_],[_,_,_],rfl,rfl,rfl,rfl,⟨_,[_],[_,_,_],rfl,rfl,rfl,rfl,rfl⟩⟩⟩) rfl<|ah (fM (ps:=[(_,_),(_,_),(_,_)]) (vs:=[(_,_),(_,_),(_,_)]) (C:=[_,_,_]) oV rfl ⟨(.r rfl),(.r rfl),(.r rfl),trivial⟩ rfl ⟨_,[_],[_,_,_],rfl,rfl,rfl,rfl,⟨_,[_],[_,_,_],rfl,rfl,rfl,rfl,⟨_,[_],[_,_,_],rfl,rfl,rfl,rfl,rfl⟩⟩⟩) rfl<|ah (fM (ps:=[(_,_),(_,_),(_,_)]) (vs:=[(_,_),(_,_),(_,_)]) (C:=[_,_,_]) oV rfl ⟨(.r rfl),(.r rfl),(.r rfl),trivial⟩ rfl ⟨_,[_],[_,_,_],rfl,rfl,rfl,rfl,⟨_,[_],[_,_,_],rfl,rfl,rfl,rfl,⟨_,[_],[_,_,_],rfl,rfl,rfl,rfl,rfl⟩⟩⟩) rfl<|ah (fM (ps:=[(_,_),(_,_),(_,_)]) (vs:=[(_,_),(_,_),(_,_)]) (C:=[_,_,_,_,_,_,_,_,_]) GP rfl ⟨(.r rfl),(.r rfl),(.r rfl),trivial⟩ rfl ⟨_,[_,_,_],[_,_,_,_,_,_,_,_,_],rfl,rfl,rfl,rfl,⟨_,[_,_,_],[_,_,_,_,_,_,_,_,_],rfl,rfl,rfl,rfl,⟨_,[_,_,_],[_,_,_,_,_,_,_,_,_],rfl,rfl,rfl,rfl,rfl⟩⟩⟩) rfl<|VO.m rfl<|ah (iV (.r rfl) (.r rfl)) rfl<|ah (LO.Yy (j:=2) (vs:=[_,_,_]) iD He (.r rfl) (.r rfl) ma (by decide) rfl) rfl<|VO.m rfl<|ah (iV (.r rfl) (.r rfl)) rfl<|ah (sf (j:=0) gK O3 (.r rfl) (.r rfl) mb (by decide) rfl) rfl<|VO.a rfl<|VO.n<|aP (VE.s rfl rfl (fun w hw=>?_)))
  refine⟨?_,hw.nil⟩
  refine congrArg (fun z=>cW (.int .i64 z)) ?_
  unfold lG
  first |(exfalso;omega)|(simp [ea,eb];done)|(rw[if_neg (by omega),if_neg (by omega)];first |rw[if_pos (by omega),if_pos (by omega)]|rw[if_pos (by omega),if_neg (by omega)]|rw[if_neg (by omega),if_pos (by omega)]|rw[if_neg (by omega),if_neg (by omega)])|(rw[if_pos (by omega)])|(rw[if_neg (by omega),if_pos (by omega)])
 ·
  refine aF (ah (fM (ps:=[(_,_),(_,_),(_,_)]) (vs:=[(_,_),(_,_),(_,_)]) (C:=[_,_,_]) oV rfl ⟨(.r rfl),(.r rfl),(.r rfl),trivial⟩ rfl ⟨_,[_],[_,_,_],rfl,rfl,rfl,rfl,⟨_,[_],[_,_,_],rfl,rfl,rfl,rfl,⟨_,[_],[_,_,_],rfl,rfl,rfl,rfl,rfl⟩⟩⟩) rfl<|ah (fM (ps:=[(_,_),(_,_),(_,_)]) (vs:=[(_,_),(_,_),(_,_)]) (C:=[_,_,_]) oV rfl ⟨(.r rfl),(.r rfl),(.r rfl),trivial⟩ rfl ⟨_,[_],[_,_,_],rfl,rfl,rfl,rfl,⟨_,[_],[_,_,_],rfl,rfl,rfl,rfl,⟨_,[_],[_,_,_],rfl,rfl,rfl,rfl,rfl⟩⟩⟩) rfl<|ah (fM (ps:=[(_,_),(_,_),(_,_)]) (vs:=[(_,_),(_,_),(_,_)]) (C:=[_,_,_]) oV rfl ⟨(.r rfl),(.r rfl),(.r rfl),trivial⟩ rfl ⟨_,[_],[_,_,_],rfl,rfl,rfl,rfl,⟨_,[_],[_,_,_],rfl,rfl,rfl,rfl,⟨_,[_],[_,_,_],rfl,rfl,rfl,rfl,rfl⟩⟩⟩) rfl<|ah (fM (ps:=[(_,_),(_,_),(_,_)]) (vs:=[(_,_),(_,_),(_,_)]) (C:=[_,_,_,_,_,_,_,_,_]) GP rfl ⟨(.r rfl),(.r rfl),(.r rfl),trivial⟩ rfl ⟨_,[_,_,_],[_,_,_,_,_,_,_,_,_],rfl,rfl,rfl,rfl,⟨_,[_,_,_],[_,_,_,_,_,_,_,_,_],rfl,rfl,rfl,rfl,⟨_,[_,_,_],[_,_,_,_,_,_,_,_,_],rfl,rfl,rfl,rfl,rfl⟩⟩⟩) rfl<|VO.m rfl<|ah (iV (.r rfl) (.r rfl)) rfl<|ah (LO.Yy (j:=2) (vs:=[_,_,_]) iD He (.r rfl) (.r rfl) ma (by decide) rfl) rfl<|VO.m rfl<|ah (iV (.r rfl) (.r rfl)) rfl<|ah (sf (j:=1) gK O3 (.r rfl) (.r rfl) mb (by decide) rfl) rfl<|VO.a rfl<|VO.n<|aP (VE.s rfl rfl (fun w hw=>?_)))
  refine⟨?_,hw.nil⟩
  refine congrArg (fun z=>cW (.int .i64 z)) ?_
  unfold lG
  first |(exfalso;omega)|(simp [ea,eb];done)|(rw[if_neg (by omega),if_neg (by omega)];first |rw[if_pos (by omega),if_pos (by omega)]|rw[if_pos (by omega),if_neg (by omega)]|rw[if_neg (by omega),if_pos (by omega)]|rw[if_neg (by omega),if_neg (by omega)])|(rw[if_pos (by omega)])|(rw[if_neg (by omega),if_pos (by omega)])
 ·
  refine aF (ah (fM (ps:=[(_,_),(_,_),(_,_)]) (vs:=[(_,_),(_,_),(_,_)]) (C:=[_,_,_]) oV rfl ⟨(.r rfl),(.r rfl),(.r rfl),trivial⟩ rfl ⟨_,[_],[_,_,_],rfl,rfl,rfl,rfl,⟨_,[_],[_,_,_],rfl,rfl,rfl,rfl,⟨_,[_],[_,_,_],rfl,rfl,rfl,rfl,rfl⟩⟩⟩) rfl<|ah (fM (ps:=[(_,_),(_,_),(_,_)]) (vs:=[(_,_),(_,_),(_,_)]) (C:=[_,_,_]) oV rfl ⟨(.r rfl),(.r rfl),(.r rfl),trivial⟩ rfl ⟨_,[_],[_,_,_],rfl,rfl,rfl,rfl,⟨_,[_],[_,_,_],rfl,rfl,rfl,rfl,⟨_,[_],[_,_,_],rfl,rfl,rfl,rfl,rfl⟩⟩⟩) rfl<|ah (fM (ps:=[(_,_),(_,_),(_,_)]) (vs:=[(_,_),(_,_),(_,_)]) (C:=[_,_,_]) oV rfl ⟨(.r rfl),(.r rfl),(.r rfl),trivial⟩ rfl ⟨_,[_],[_,_,_],rfl,rfl,rfl,rfl,⟨_,[_],[_,_,_],rfl,rfl,rfl,rfl,⟨_,[_],[_,_,_],rfl,rfl,rfl,rfl,rfl⟩⟩⟩) rfl<|ah (fM (ps:=[(_,_),(_,_),(_,_)]) (vs:=[(_,_),(_,_),(_,_)]) (C:=[_,_,_,_,_,_,_,_,_]) GP rfl ⟨(.r rfl),(.r rfl),(.r rfl),trivial⟩ rfl ⟨_,[_,_,_],[_,_,_,_,_,_,_,_,_],rfl,rfl,rfl,rfl,⟨_,[_,_,_],[_,_,_,_,_,_,_,_,_],rfl,rfl,rfl,rfl,⟨_,[_,_,_],[_,_,_,_,_,_,_,_,_],rfl,rfl,rfl,rfl,rfl⟩⟩⟩) rfl<|VO.m rfl<|ah (iV (.r rfl) (.r rfl)) rfl<|ah (LO.Yy (j:=2) (vs:=[_,_,_]) iD He (.r rfl) (.r rfl) ma (by decide) rfl) rfl<|VO.m rfl<|ah (iV (.r rfl) (.r rfl)) rfl<|ah (sf (j:=2) gK O3 (.r rfl) (.r rfl) mb (by decide) rfl) rfl<|VO.a rfl<|VO.n<|aP (VE.s rfl rfl (fun w hw=>?_)))
  refine⟨?_,hw.nil⟩
  refine congrArg (fun z=>cW (.int .i64 z)) ?_
  unfold lG
  first |(exfalso;omega)|(simp [ea,eb];done)|(rw[if_neg (by omega),if_neg (by omega)];first |rw[if_pos (by omega),if_pos (by omega)]|rw[if_pos (by omega),if_neg (by omega)]|rw[if_neg (by omega),if_pos (by omega)]|rw[if_neg (by omega),if_neg (by omega)])|(rw[if_pos (by omega)])|(rw[if_neg (by omega),if_pos (by omega)])
theorem Cm:bV ae 347 1 5:=⟨_,_,oI,rfl,rfl,0,by kernel_rfl⟩
theorem TO:ig ae 155:=⟨⟨_,zh,rfl⟩,by kernel_rfl⟩
theorem sq:bV ae 347 0 0:=⟨_,_,oI,rfl,rfl,4,by kernel_rfl⟩
theorem GG:bV ae 210 0 0:=⟨_,_,jc,rfl,rfl,0,by kernel_rfl⟩
theorem Hd:bV ae 210 1 1:=⟨_,_,jc,rfl,rfl,0,by kernel_rfl⟩
theorem Mq:bV ae 347 2 6:=⟨_,_,oI,rfl,rfl,0,by kernel_rfl⟩
def Nb (W H:Nat) (ks:List (List Nat)):Prop:=ks.length≤W*H∧∀l,l∈ks→l.length≤W*H∧∀p,p∈l→p<W*H
theorem Mk {W H:Nat} {S:Nat→Bool}:Nb W H (eU W H S):=⟨lF,fun l hl=>by
 obtain⟨p,hp,hs,e⟩:=kS (p:=W*H) hl
 have hall:∀q,q∈l→q<W*H:=fun q hq=>by rw[e]at hq;exact uW hp hq
 refine⟨?_,hall⟩
 have hn:l.Nodup:=by rw[e];exact(lS hp).imp fun h=>Nat.ne_of_lt h
 have:=length_le_of_subset (m:=br (W*H)) hn (fun x hx=>List.mem_range.2 (hall x hx))
 simpa using this⟩
theorem IJ {W H:Nat} {ks:List (List Nat)} {f:List Nat→Bool} (h:Nb W H ks):Nb W H (ks.filter f):=⟨eL (cH _ _) h.1,fun l hl=>h.2 l (bK.1 hl).1⟩
theorem FK {W H:Nat} {vs:List Span} {lv:Int} {y:qZ} (h:HT W H vs lv y) {a:eC} (ha:a∈y.l):Nb W H (a.kr.map fZ):=by
 have h1:a.m∈mq W H vs lv:=by rw[←h.m];exact bE ha
 obtain⟨l,_,e⟩:=bQ.1 h1
 have h2:a.kr.map fZ=(Fa W H vs lv l).ks:=(congrArg yA.ks e).symm
 rw[h2]
 exact IJ Mk
section
variable {g:cU} {of:List Int} {j x y:Int} {p:Nat}
theorem JM (hg:cF g) (h:((p%gW g:Nat):Int)+x<0∨g.wide≤((p%gW g:Nat):Int)+x∨((p / gW g:Nat):Int)+y<0∨g.high≤((p / gW g:Nat):Int)+y):wK (gW g) (gH g) of j x y p=true:=by
 obtain⟨e1,e2,_⟩:=ME hg
 unfold wK
 rw[e1,e2,decide_eq_true h];rfl
theorem B0 (hg:cF g) (h:¬(((p%gW g:Nat):Int)+x<0∨g.wide≤((p%gW g:Nat):Int)+x∨((p / gW g:Nat):Int)+y<0∨g.high≤((p / gW g:Nat):Int)+y)) {q:Nat} (hq:((((p / gW g:Nat):Int)+y)*(gW g:Int)+(((p%gW g:Nat):Int)+x)).toNat=q):wK (gW g) (gH g) of j x y p=decide (of.getD q (-1)=j):=by
 obtain⟨e1,e2,_⟩:=ME hg
 unfold wK
 rw[hq,e1,e2,decide_eq_false h];rfl
end
theorem Uy {W H:Nat} {ks:List (eB Nat)} {of:List Int} {j x y:Int} {n:Nat} {k:eB Nat} (hk:ks[n]? =some k) (h:k.l.all (wK W H of j x y)=false):pW W H (ks.map fZ) of j x y=false:=by
 unfold pW;rw[List.all_map];exact Mi hk (by show ¬(k.l.all _)=true;rw[h];decide)
theorem OZ {W H:Nat} {ks:List (eB Nat)} {of:List Int} {j x y:Int} {n:Nat} (hz:∀i k,i<n→ks[i]? =some k→k.l.all (wK W H of j x y)=true) (h:ks.length≤n):pW W H (ks.map fZ) of j x y=true:=by
 unfold pW;rw[List.all_map];exact Pt hz h
theorem gE {α:Type} {l:List α} {n:Nat} (h:n<l.length):∃a,l[n]? =some a:=⟨_,af h⟩
theorem Gs {l:List Int} {n:Nat} (h:n<l.length):l[n]? =some (l.getD n (-1)):=by rw[av,af h];rfl
theorem Fx (g:cU) (mx my:Int) (ya yb:qZ) (ofa ofb:List Int) (i j:Nat) (a:eC) (hia:ya.l[i]? =some a) (w:World) (hg:cF g) (ha:Ex w ya ofa) (hb:Ex w yb ofb) (hlb:ofb.length=gW g*gH g) (hks:Nb (gW g) (gH g) (a.kr.map fZ)) (hx: -8≤mx∧mx≤8) (hy: -8≤my∧my≤8):
 Calls ae 206 #[ZO g ya,.int .i64 (i:Int),ZO g yb,.int .i64 (j:Int),.agg #[.int .i64 mx,.int .i64 my]] w fun e w'=>e= .returned (.bool (pW (gW g) (gH g) (a.kr.map fZ) ofb j mx my))∧St (bs w) [] w':=by
 have har:=qN hg
 have hkn:=hks.1
 rw[aq]at hkn
 obtain⟨hW,hH,hW1,hW2,hH1,hH2⟩:=ME hg
 have hkr:=ha.kr a (al hia)
 have hil:i<ya.l.length:=(aj.1 hia).1
 have hofs:nu yb.po (gW g*gH g):=by have z:=hb.of.sm;rw[hlb]at z;exact z
 refine enter (vs:=[_,_,_,_,_]) (env:=[(0,_),(1,_),(2,_),(3,_),(4,_)]) Tryz.func206 rfl rfl rfl rfl ?_
 refine VC.q (aD rfl<|cf (C:=#[_,_,_,_,_,_,_]) rfl rfl fun b1=>aD rfl<|cf (C:=#[_,_,_,_,_,_,_]) rfl rfl fun b2=>aD rfl<|cf (C:=#[_,_]) rfl rfl fun b3=>VO.a rfl<|VO.n<|ak<|VC.q (VO.f (r:=5) Cm rfl<|VO.c 2 TO rfl rfl ⟨_,rfl⟩ rfl<|VO.m rfl<|ah (cw BC Ny ha.ar.sm (.r rfl) (.r rfl) rfl (by omega)) rfl<|VO.f GC rfl<|ah (aB adI (.r rfl) (fun w hw=>bq (off:=1) ((fun w3 h3=>RO.tu (ha.ar.keep w3 h3) hia) w hw) ⟨_,rfl⟩)) rfl<|ah (bW rm (.r rfl) rfl) rfl<|VO.m rfl<|VO.n ?_))
 refine aG<|bY (α:=Nat) 0 (fun gx=>[(24,.int .i64 (gx:Nat))]) [(3,_),(5,_),(7,_),(9,_),(22,_),(23,_)] (fun gx=>[]) (fun gx=>gx≤a.kr.length∧∀i k,i<gx→a.kr[i]? =some k→k.l.all (wK (gW g) (gH g) ofb j mx my)=true) (fun gx=>a.kr.length-gx) 0 (by exact⟨bG _,fun i k h=>absurd h (Nat.not_lt_zero _)⟩) (.c4 rfl rfl rfl rfl (.cons rfl (.cons rfl (.cons rfl .nil)))) (fun _ h=>h) ?_
 rintro n ⟨hn,hz⟩
 refine VC.q (VO.t rfl<|VO.n<|ak<|ay rfl (fun h25=>?_) (fun h25=>?_))
 ·
  obtain⟨k,hk⟩:=gE (l:=a.kr) (n:=n) (by omega)
  obtain⟨hkl,hkm⟩:=hks.2 k.l (bE (al hk))
  refine aC (ag<|ak<|aG<|VC.q (ah (cw rm qo hkr.1.sm (.r rfl) (.r rfl) rfl (by omega)) rfl<|ah (aB ij (.r rfl) (fun w hw=>bq (off:=0) ((fun w3 h3=>RR.cell (RR.keep hkr w3 h3) hk) w hw) ⟨_,rfl⟩)) rfl<|VO.a rfl<|VO.n<|ak ?_))
  refine aF (VO.m rfl<|ah (bW ei (.r rfl) rfl) rfl<|VO.m rfl<|VO.n<|aG<|bY (α:=Nat) 0 (fun gx=>[(30,.int .i64 (gx:Nat))]) [(3,_),(5,_),(7,_),(9,_),(22,_),(23,_),(24,_),(28,_),(29,_)] (fun gx=>[]) (fun gx=>gx≤k.l.length∧∀i p,i<gx→k.l[i]? =some p→wK (gW g) (gH g) ofb j mx my p=true) (fun gx=>k.l.length-gx) 0 (by exact⟨bG _,fun i k h=>absurd h (Nat.not_lt_zero _)⟩) (.c4 rfl rfl rfl rfl (.c4 rfl rfl rfl rfl (.cons rfl (.cons rfl .nil)))) (fun _ h=>h) ?_)
  rintro m ⟨hm,hzm⟩
  refine VC.q (VO.t rfl<|VO.n<|ak<|ay rfl (fun h31=>?_) (fun h31=>?_))
  ·
   obtain⟨p,hp⟩:=gE (l:=k.l) (n:=m) (by omega)
   have hpm:=hkm p (al hp)
   have hpd:=Et hg hpm
   have hpr:p%gW g<gW g:=Nat.mod_lt _ (by omega)
   refine aC (ag<|ak<|aG<|VC.q (ah (cw ei N3 (RR.row hkr hk).sm (.r rfl) (.r rfl) rfl (by omega)) rfl<|ah (aB O3 (.r rfl) (fun w hw=>bq (off:=0) ((fun w3 h3=>RO.tu (RR.row (RR.keep hkr w3 h3) hk) hp) w hw) ⟨_,rfl⟩)) rfl<|VO.a rfl<|VO.n<|ak ?_))
   refine VC.draw mixed (LL.m rfl<|aV (aE (r:=0) sq (.r rfl) rfl) rfl<|aV (aE (r:=3) jD (.r rfl) rfl) rfl<|aV (aB O3 (.r rfl) (ax 2 rfl ⟨_,rfl⟩)) rfl<|aV (dy (LO.rem (.r rfl) (.r rfl) (by omega)) (congrArg (bX .i64) (Ik hg p))) rfl<|aV (aE (r:=0) GG (.r rfl) rfl) rfl<|aV (aB O3 (.r rfl) (ax 0 rfl ⟨_,rfl⟩)) rfl<|aV (LO.add (.r rfl) (.r rfl) (wi (by omega) (by omega))) rfl<|LL.m rfl<|aV (aE (r:=0) sq (.r rfl) rfl) rfl<|aV (aE (r:=3) jD (.r rfl) rfl) rfl<|aV (aB O3 (.r rfl) (ax 2 rfl ⟨_,rfl⟩)) rfl<|aV (dy (LO.quo (.r rfl) (.r rfl) (by omega) (wi (by rw[rf hg];have:=Et hg (p:=p) (by omega);omega) (by rw[rf hg];have:=Et hg (p:=p) (by omega);omega))) (congrArg (bX .i64) (rf hg p))) rfl<|aV (aE (r:=1) Hd (.r rfl) rfl) rfl<|aV (aB O3 (.r rfl) (ax 0 rfl ⟨_,rfl⟩)) rfl<|aV (LO.add (.r rfl) (.r rfl) (wi (by omega) (by omega))) rfl<|aV (LO.as (.r rfl)) rfl<|aV (LO.as (.r rfl)) rfl<|LL.nil) (by kernel_rfl)<|ag<|ak<|VC.q (VO.m rfl<|VO.t rfl<|VO.m rfl<|VO.gf rfl (fun hg=>bJ (.r rfl))<|VO.gf rfl (fun hg=>aE (r:=0) sq (.r rfl) rfl)<|VO.gf rfl (fun hg=>aE (r:=3) jD (.g hg rfl) rfl)<|VO.gf rfl (fun hg=>aB O3 (.g hg rfl) (ax 2 rfl ⟨_,rfl⟩))<|VO.gf rfl (fun hg=>LO.ge (.g hg rfl) (.g hg rfl))<|ah (LO.qh (.r rfl) (.r rfl) rfl rfl) rfl<|VO.m rfl<|VO.gf rfl (fun hg=>bJ (.r rfl))<|VO.gf rfl (fun hg=>LO.lt (.g hg rfl) (.r rfl))<|ah (LO.qh (.r rfl) (.r rfl) rfl rfl) rfl<|VO.m rfl<|VO.gf rfl (fun hg=>bJ (.r rfl))<|VO.gf rfl (fun hg=>aE (r:=0) sq (.r rfl) rfl)<|VO.gf rfl (fun hg=>aE (r:=4) qH (.g hg rfl) rfl)<|VO.gf rfl (fun hg=>aB O3 (.g hg rfl) (ax 2 rfl ⟨_,rfl⟩))<|VO.gf rfl (fun hg=>LO.ge (.g hg rfl) (.g hg rfl))<|ah (LO.qh (.r rfl) (.r rfl) rfl rfl) rfl<|VO.n<|ay rfl (fun h69=>?_) (fun h69=>?_))
   ·
    refine ca (aL (cD (ag<|aF (VO.p rfl rfl (by omega) (by omega) rfl<|VO.m rfl<|aI<|bn fun a w ha hw=>⟨m+1,⟨by omega,DA hzm hp (by first |exact JM hg (by omega)|(rw[B0 hg (by omega) hq3];simpa using h82))⟩,(by omega),ha.sub (.c4 rfl rfl rfl rfl (.c4 rfl rfl rfl rfl (.cons rfl (.cons rfl .nil)))),hw⟩))))
   ·
    obtain⟨q,hq1,hq2,hq3⟩:=target hg (x:=((p%gW g:Nat):Int)+mx) (y:=((p / gW g:Nat):Int)+my) (by omega)
    refine aC (ag<|VC.q (VO.f (r:=6) Mq rfl<|VO.c 1 ij rfl rfl ⟨_,rfl⟩ rfl<|VO.m rfl<|VO.f (r:=0) sq rfl<|VO.f (r:=3) jD rfl<|VO.c 2 O3 rfl rfl ⟨_,rfl⟩ rfl<|ah (gG (.r rfl) (.r rfl) (wi (by omega) (by omega))) rfl<|VO.m rfl<|VO.p rfl rfl (by omega) (by omega) rfl<|ah (cw ei N3 hofs (.r rfl) (.r rfl) hq1 hq2) rfl<|ah (aB O3 (.r rfl) (fun w hw=>bq (off:=0) ((fun w3 h3=>RO.tu (hb.of.keep w3 h3) (Gs (n:=q) (by omega))) w hw) ⟨_,rfl⟩)) rfl<|VO.m rfl<|VO.u rfl<|VO.n<|ay rfl (fun h82=>?_) (fun h82=>?_)))
    ·
     refine VC.q (VO.a rfl<|VO.n<|aP (cI (a8 (a8 (cI (cI (a8 (a8 (cI (a8 (VE.s rfl rfl (fun w hw=>?_))))))))))))
     refine⟨?_,hw.nil⟩
     refine congrArg (fun z=>cW (.bool z)) ?_
     first |exact(OZ hz (by omega)).symm|exact(Uy hk (Mi hp (by rw[B0 hg (by omega) hq3];simpa using h82))).symm
    ·
     refine aC (bB (ag<|aF (VO.p rfl rfl (by omega) (by omega) rfl<|VO.m rfl<|aI<|bn fun a w ha hw=>⟨m+1,⟨by omega,DA hzm hp (by first |exact JM hg (by omega)|(rw[B0 hg (by omega) hq3];simpa using h82))⟩,(by omega),ha.sub (.c4 rfl rfl rfl rfl (.c4 rfl rfl rfl rfl (.cons rfl (.cons rfl .nil)))),hw⟩)))
  ·
   refine ca (aL (aL (cD (bB (ag<|aF (VO.p rfl rfl (by omega) (by omega) rfl<|VO.m rfl<|aI<|bn fun a w ha hw=>⟨n+1,⟨by omega,DA hz hk (Pt hzm (by omega))⟩,(by omega),ha.sub (.c4 rfl rfl rfl rfl (.cons rfl (.cons rfl (.cons rfl .nil)))),hw⟩))))))
 ·
  refine ca (aL (aL (cD (ag<|VC.q (VO.a rfl<|VO.n<|aP (VE.s rfl rfl (fun w hw=>?_)))))))
  refine⟨?_,hw.nil⟩
  refine congrArg (fun z=>cW (.bool z)) ?_
  first |exact(OZ hz (by omega)).symm|exact(Uy hk (Mi hp (by rw[B0 hg (by omega) hq3];simpa using h82))).symm
theorem aeA:ed ae 210 [(0,1),(1,1)] [.int .i64 0,.int .i64 0]:=ed.mk fun _=>by kernel_rfl
theorem Ra:cj ae 210 (.agg #[.int .i64 0,.int .i64 0]):=by unfold cj;kernel_rfl
theorem xn:(ae.info? 210).map (·.size)=some 2:=by kernel_rfl
theorem xH:jX ae 210 2:=⟨⟨_,jc,rfl⟩,by kernel_rfl⟩
theorem ag0:ef ae 206:=⟨_,Tryz.func206,by decide,rfl⟩
theorem wx:dF ae 208 210:=Tryz.underlying208
theorem amX:jW ae 210 2 16 (.agg #[.int .i64 0,.int .i64 0]):=⟨by kernel_rfl,by kernel_rfl,by unfold cj;kernel_rfl,rfl,by decide⟩
theorem Vw (r:Nat):(2*(r:Int)+1)*(2*(r:Int)+1)=(((2*r+1)*(2*r+1):Nat):Int):=by push_cast;rfl
theorem ahT {r:Nat} (h:r≤8):(2*r+1)*(2*r+1)≤289:=by have:=Nat.mul_le_mul (show 2*r+1≤17 by omega) (show 2*r+1≤17 by omega);omega
structure SlY where
 p:Option Addr
 c:Nat
theorem Zq (g:cU) (ya yb:qZ) (ofa ofb:List Int) (i j r:Nat) (aa b:eC) (hia:ya.l[i]? =some aa) (hjb:yb.l[j]? =some b) (w:World) (hg:cF g) (ha:Ex w ya ofa) (hb:Ex w yb ofb) (hla:ofa.length=gW g*gH g) (hlb:ofb.length=gW g*gH g) (hka:Nb (gW g) (gH g) (aa.kr.map fZ)) (hkb:Nb (gW g) (gH g) (b.kr.map fZ)) (hr:r≤8):
 Calls ae 139 #[ZO g ya,.int .i64 (i:Int),ZO g yb,.int .i64 (j:Int),.int .i64 (r:Int)] w fun e w'=>∃y:SlY,True∧e= .returned (.slice y.p (tL (gW g) (gH g) (aa.kr.map fZ) (b.kr.map fZ) ofa ofb i j r).length y.c)∧St (bs w) [own 210 2 y.p y.c ((tL (gW g) (gH g) (aa.kr.map fZ) (b.kr.map fZ) ofa ofb i j r).map Mv.cells)] w':=by
 have hgr:=hg
 have hN:=ahT hr
 have hln:=fun n=>Jy (W:=gW g) (H:=gH g) (ka:=aa.kr.map fZ) (kb:=b.kr.map fZ) (ofa:=ofa) (ofb:=ofb) (i:=i) (j:=j) (r:=r) (n:=n)
 refine enter (vs:=[_,_,_,_,_]) (env:=[(0,_),(1,_),(2,_),(3,_),(4,_)]) Tryz.func139 rfl rfl rfl rfl ?_
 refine VC.q (aD rfl<|cf (C:=#[_,_,_,_,_,_,_]) rfl rfl fun b1=>aD rfl<|cf (C:=#[_,_,_,_,_,_,_]) rfl rfl fun b2=>VO.a rfl<|VO.n<|VC.q (VO.a rfl<|VO.n<|ak ?_))
 refine VC.q (VO.m rfl<|ah (gG (.r rfl) (.r rfl) (wi (by omega) (by omega))) rfl<|VO.p rfl rfl (by omega) (by omega) rfl<|VO.m rfl<|ah (gG (.r rfl) (.r rfl) (wi (by omega) (by omega))) rfl<|VO.p rfl rfl (by omega) (by omega) rfl<|ah (dy (gG (.r rfl) (.r rfl) (wi (by rw[Vw];omega) (by rw[Vw];omega))) (congrArg (bX .i64) (Vw r))) rfl<|VO.m rfl<|VO.n<|aG<|bY (α:=Nat×(Option Addr)×Nat) 0 (fun gx=>[(11,.slice gx.2.1 (lz (gW g) (gH g) (aa.kr.map fZ) (b.kr.map fZ) ofa ofb i j r gx.1).length gx.2.2),(21,.int .i64 (gx.1:Nat))]) [(1,_),(3,_),(4,_),(5,_),(7,_),(20,_)] (fun gx=>[own 210 2 gx.2.1 gx.2.2 ((lz (gW g) (gH g) (aa.kr.map fZ) (b.kr.map fZ) ofa ofb i j r gx.1).map Mv.cells)]) (fun gx=>gx.1≤(2*r+1)*(2*r+1)) (fun gx=>(2*r+1)*(2*r+1)-gx.1) (0,none,0) (by exact bG _) (.c4 rfl rfl rfl rfl (.c4 rfl rfl rfl rfl .nil)) (fun _ h=>(h.fX 210 2)) ?_)
 rintro ⟨n,po,co⟩ hn
 show VC _ _ _ _ _ ([(11,.slice po (lz (gW g) (gH g) (aa.kr.map fZ) (b.kr.map fZ) ofa ofb i j r n).length co),(21,.int .i64 (n:Nat))]++_) ([own 210 2 po co ((lz (gW g) (gH g) (aa.kr.map fZ) (b.kr.map fZ) ofa ofb i j r n).map Mv.cells)]++_) _ _
 dsimp only at hn
 refine VC.q (VO.t rfl<|VO.n<|ak<|ay rfl (fun h22=>?_) (fun h22=>?_))
 ·
  obtain⟨hm1,hm2⟩:=aaW (n:=n) (r:=r) (by omega)
  have hm3:(0:Int)≤((n / (2*r+1):Nat):Int):=dD _
  have hm4:(0:Int)≤((n%(2*r+1):Nat):Int):=dD _
  refine aC (ag<|ak<|aG<|VC.q (VO.m rfl<|VO.a rfl<|VO.n<|ak ?_))
  refine cP [[0,1,2],[0,1,2],[0,1,2]] [some 1,some 1,some 1,some 1,some 1,some 1,some 1,some 1,some 1,some 1,some 1,some 1,some 1,some 1,some 1,none,none] mixed (by kernel_rfl) rfl (LX.m rfl<|LX.m rfl<|aA (fun _ hJ=>gG (.r rfl) (.r rfl) (wi (by omega) (by omega))) rfl<|aA (fun _ hJ=>LO.add (.r rfl) (.r rfl) (wi (by omega) (by omega))) rfl<|aA (fun _ hJ=>dy (LO.rem (.r rfl) (.r rfl) (by omega)) (congrArg (bX .i64) (aes n r))) rfl<|LX.m rfl<|aA (fun _ hJ=>LO.sub (.r rfl) (.r rfl) (wi (by omega) (by omega))) rfl<|LX.m rfl<|LX.m rfl<|aA (fun _ hJ=>gG (.r rfl) (.r rfl) (wi (by omega) (by omega))) rfl<|aA (fun _ hJ=>LO.add (.r rfl) (.r rfl) (wi (by omega) (by omega))) rfl<|aA (fun _ hJ=>dy (LO.quo (.r rfl) (.r rfl) (by omega) (wi (by rw[MK];omega) (by rw[MK];omega))) (congrArg (bX .i64) (MK n r))) rfl<|LX.m rfl<|aA (fun _ hJ=>LO.sub (.r rfl) (.r rfl) (wi (by omega) (by omega))) rfl<|aA (fun _ hJ=>dC (ps:=[(_,_),(_,_)]) (vs:=[(_,_),(_,_)]) (C:=[_,_]) aeA ⟨(.r rfl),(.r rfl),trivial⟩ rfl ⟨_,[_],[_,_],rfl,rfl,rfl,rfl,⟨_,[_],[_,_],rfl,rfl,rfl,rfl,rfl⟩⟩) rfl<|cn<|cn<|dw) (au<|au<|au<|au<|au<|au<|au<|au<|au<|au<|au<|au<|au<|au<|au<|HX.h rfl<|bI (C:=#[_,_]) Ra rfl fun b6=>⟨fun _ hw=>hw.fO [1,2,3] rfl,eW<|bl 0 (vs:=[_,_]) (C':=[_,_]) (L':=[_,_,_,_]) xn rfl rfl rfl rfl rfl rfl rfl rfl<|⟨fun _ hw=>hw.fO [1,2,3] rfl,dS ?_⟩⟩)
  refine ag<|VC.q (ah (aM (vs:=[_,_,_,_,_,_,_]) Gt (.r rfl) (ax 3 rfl ⟨_,rfl⟩) rfl) rfl<|VO.m rfl<|ah (aM (vs:=[_,_,_,_,_,_,_]) Gt (.r rfl) (ax 2 rfl ⟨_,rfl⟩) rfl) rfl<|VO.m rfl<|ah (aM (vs:=[_,_]) xH (.r rfl) (ax 0 rfl ⟨_,rfl⟩) rfl) rfl<|ah (bD (xs:=[_,_,_,_,_]) (vs:=[_,_,_,_,_]) ag0 ⟨(.r rfl),(.r rfl),(.r rfl),(.r rfl),(.r rfl),trivial⟩ (fun w2 hw=>Fx g _ _ ya yb ofa ofb i j aa hia w2 hgr (ha.keep w2 hw) (hb.keep w2 hw) hlb hka (by omega) (by omega))) rfl<|VO.m rfl<|VO.gt rfl (fun hg=>aM (vs:=[_,_,_,_,_,_,_]) Gt (.r rfl) (ax 2 rfl ⟨_,rfl⟩) rfl)<|VO.gt rfl (fun hg=>bJ (.r rfl))<|VO.gt rfl (fun hg=>aM (vs:=[_,_,_,_,_,_,_]) Gt (.r rfl) (ax 3 rfl ⟨_,rfl⟩) rfl)<|VO.gt rfl (fun hg=>bJ (.r rfl))<|VO.gt rfl (fun hg=>aE (r:=0) GG (.r rfl) rfl)<|VO.gt rfl (fun hg=>aB O3 (.g hg rfl) (ax 0 rfl ⟨_,rfl⟩))<|VO.gt rfl (fun hg=>LO.neg (.g hg rfl) (wi (by omega) (by omega)))<|VO.gt rfl (fun hg=>aE (r:=1) Hd (.r rfl) rfl)<|VO.gt rfl (fun hg=>aB O3 (.g hg rfl) (ax 0 rfl ⟨_,rfl⟩))<|VO.gt rfl (fun hg=>LO.neg (.g hg rfl) (wi (by omega) (by omega)))<|VO.gt rfl (fun hg=>dC (ps:=[(_,_),(_,_)]) (vs:=[(_,_),(_,_)]) (C:=[_,_]) aeA ⟨(.g hg rfl),(.g hg rfl),trivial⟩ rfl ⟨_,[_],[_,_],rfl,rfl,rfl,rfl,⟨_,[_],[_,_],rfl,rfl,rfl,rfl,rfl⟩⟩)<|VO.gt rfl (fun hg=>bD (xs:=[_,_,_,_,_]) (vs:=[_,_,_,_,_]) ag0 ⟨(.g hg rfl),(.g hg rfl),(.g hg rfl),(.g hg rfl),(.g hg rfl),trivial⟩ (fun w2 hw=>Fx g _ _ yb ya ofb ofa j i b hjb w2 hgr (hb.keep w2 hw) (ha.keep w2 hw) hla hkb (by omega) (by omega)))<|ah (LO.pE (.r rfl) rfl rfl (.r rfl)) rfl<|VO.n<|ay rfl (fun h58=>?_) (fun h58=>?_))
  ·
   refine aF (VO.m rfl<|ah (aM (vs:=[_,_]) xH (.r rfl) (ax 0 rfl ⟨_,rfl⟩) rfl) rfl<|aD rfl<|fu (ps:=[(_,_)]) (vs:=[(_,_)]) (Z:=[_,_]) (C:=[_,_]) wx Ra xn ⟨(.r rfl),trivial⟩ rfl rfl rfl rfl ⟨_,[_,_],[_,_],rfl,rfl,rfl,rfl,rfl⟩ fun b8=>aD rfl<|HO.kT (Iw r n) (f:=Mv.cells) 2 0 (fun R=>[_,_,R,_,_]) wx wx amX (.r rfl) (.r rfl) rfl rfl rfl rfl rfl rfl rfl (fun _=>rfl) rfl (by have:=hln n;omega) fun p3 c3=>aD rfl<|aO (LO.as (.r rfl))<|aI<|bB (ag<|aF (VO.p rfl rfl (by omega) (by omega) rfl<|VO.m rfl<|aI ?_)))
   have hmt:=QZ (by show(_&&_)=true;rw[aQ];exact h58)
   refine bn fun a w ha hw=>⟨(n+1,p3,c3),(by dsimp only;omega),(by dsimp only;omega),ha.sub (.cons (congrArg (fun l:List Mv=>some (mn _ l.length _)) hmt.symm) (.c4 rfl rfl rfl rfl (.cons rfl (.cons rfl (.cons rfl .nil))))),(by rw[hmt];exact hw.fO [2,3,4] rfl)⟩
  ·
   refine aC (bB (ag<|aF (VO.p rfl rfl (by omega) (by omega) rfl<|VO.m rfl<|aI ?_)))
   have hmt:=QW (by show ¬(_&&_)=true;rw[aQ];exact h58)
   refine bn fun a w ha hw=>⟨(n+1,po,co),(by dsimp only;omega),(by dsimp only;omega),ha.sub (.cons (congrArg (fun l:List Mv=>some (mn _ l.length _)) hmt.symm) (.c4 rfl rfl rfl rfl (.cons rfl (.cons rfl (.cons rfl .nil))))),(by rw[hmt];exact hw.fO [1,2,3] rfl)⟩
 ·
  have hne:n=(2*r+1)*(2*r+1):=by omega
  subst hne
  refine ca (aL (aL (cD (ag<|VC.q (VO.m rfl<|VO.a rfl<|VO.n<|aP (VE.s rfl rfl (fun w hw=>?_)))))))
  exact⟨⟨po,co⟩,trivial,rfl,bM [0] rfl rfl _ hw⟩
theorem agI:ef ae 133:=⟨_,Tryz.func133,by decide,rfl⟩
theorem alW:ef ae 139:=⟨_,Tryz.func139,by decide,rfl⟩
def nP (g:cU) (vs:List Span) (lv:Int):Nat:=(eU (gW g) (gH g) (ga vs lv)).length
def vl (W H:Nat) (vs:List Span) (lv:Int) (i:Nat):List (List Nat):=(((mq W H vs lv)[i]?).map yA.ks).getD []
def jy (g:cU) (v1 v2:List Span) (lv:Int) (i j r:Nat):List Mv:=tL (gW g) (gH g) (vl (gW g) (gH g) v1 lv i) (vl (gW g) (gH g) v2 lv j) (pF (gW g) (gH g) (ga v1 lv)) (pF (gW g) (gH g) (ga v2 lv)) i j r
theorem Pq {W H:Nat} {vs:List Span} {lv:Int} {y:qZ} (h:HT W H vs lv y) {i:Nat} {a:eC} (ha:y.l[i]? =some a):vl W H vs lv i=a.kr.map fZ:=by
 unfold vl;rw[←h.m,aw,ha];rfl
theorem Ex.afl {β:Bs} {L:List cq} {w:World} {y:qZ} {of:List Int} {W H:Nat} {vs:List Span} {lv:Int} (hw:St β L w) (hp:HT W H vs lv y) (i0 i1 i3 i7:Nat) (h0:L[i0]? =some (own 160 8 y.p y.c (y.l.map eC.cells))) (h1:L[i1]? =some (bS (y.l.map eC.kR))) (h3:L[i3]? =some (ri 3 1 nC y.ks)) (h7:L[i7]? =some (own 3 1 y.po y.co (of.map iC))):Ex w y of:=
 ⟨RO.kg hw i0 h0,fun a ha=>⟨eI ((hw.inv i1 _ h1).1 _ (bE (f:=eC.kR) ha)),fun x hx=>by
  have h:=hw.inv i3 _ h3 _ (bE (f:=fun x:eB Nat=>own 3 1 x.p x.c (x.l.map nC)) (hp.kr a ha x hx))
  refine⟨?_,eI h⟩
  have:=h.1
  rwa [aq]at this⟩,RO.kg hw i7 h7⟩
section
variable {g1 g2:cU} {v1 v2:List Span} {lv reach i j:Int}
end
theorem O4:ig ae 4:=⟨⟨_,gS,rfl⟩,by kernel_rfl⟩
theorem YO:cj ae 445 (.agg #[.bool false,.int .i64 0]):=by unfold cj;kernel_rfl
theorem UL:bV ae 442 0 0:=⟨_,_,zj,rfl,rfl,0,by kernel_rfl⟩
theorem ai2:ig ae 440:=⟨⟨_,zk,rfl⟩,by kernel_rfl⟩
theorem Ai:jX ae 445 2:=⟨⟨_,sg,rfl⟩,by kernel_rfl⟩
theorem Q0:(ae.info? 445).map (·.size)=some 2:=by kernel_rfl
theorem Zb:jX ae 442 1:=⟨⟨_,zj,rfl⟩,by kernel_rfl⟩
theorem aeE:ef ae 202:=⟨_,Tryz.func202,by decide,rfl⟩
abbrev Nd:=Bool×Int
abbrev nV:Nd→Value:=sS Value.bool fB
abbrev Ey (n:Nat):Value:=.int .i64 (n:Int)
theorem KN:TW ae 445 nV:=Jo (Dk gS O4) (wb cM O3) ⟨_,_,sg,by decide,by decide,rfl,rfl,rfl,rfl,by kernel_rfl⟩
theorem alJ:Wg ae 445 4 3:=⟨_,_,sg,by decide,by decide,rfl,rfl,rfl,rfl,by kernel_rfl⟩
theorem anc:ae.eqGuardType ae.depth 445=false:=by kernel_rfl
theorem ah1:u7 ae 440 nV nV (false,0):=⟨445,445,zk,KN,YO⟩
theorem agZ:u7 ae 446 nV Ey 0:=⟨445,3,zl,KN,Z3⟩
theorem sQ {α δ:Type} {kE:α→Value} {vE:δ→Value} {b:Nat} {M:α→Option δ} {w0:World} {L:List cq} (h:(kM kE vE b M).inv w0):∀w,St (bs w0) L w→(kM kE vE b M).inv w:=fun w hw=>by
 obtain⟨es,c,h1,h2⟩:=h
 refine⟨es,c,?_,h2⟩
 have hb:b<w0.heap.size:=by
  rcases Nat.lt_or_ge b w0.heap.size with q|q
  ·exact q
  ·rw[Array.getElem?_eq_none q]at h1;cases h1
 exact(hw.fr b hb (fun f=>f)).trans h1
structure dQ where
 kd:Int
 fp:Option Addr
 fc:Nat
 f:List Nat
 tp:Option Addr
 tc:Nat
 t:List Nat
def dQ.z:dQ:=⟨0,none,0,[],none,0,[]⟩
def dQ.cells (e:dQ):List Value:=[.int .i64 e.kd,.slice e.fp e.f.length e.fc,.slice e.tp e.t.length e.tc]
def dQ.fR (e:dQ):cq:=own 3 1 e.fp e.fc (e.f.map nC)
def dQ.tR (e:dQ):cq:=own 3 1 e.tp e.tc (e.t.map nC)
def dQ.m (e:dQ):jS:=⟨e.kd,e.f,e.t⟩
def mA {α:Type} (A:α→Option Nat) (q:α) (l:List dQ):List dQ:=if(A q).isSome=true then l else l++[dQ.z]
theorem IA {α:Type} [DecidableEq α] {M:α→Option α} {ld:α→α} {x y:α} (h:¬ld x=ld y):mo M (ld y) (ld x)=Bn M ld x y:=(if_neg h).symm
theorem IZ {α:Type} [DecidableEq α] {M:α→Option α} {ld:α→α} {x y:α} (h:ld x=ld y):M=Bn M ld x y:=(if_pos h).symm
theorem Mr (M:Nd→Option Nd) (ld:Nd→Nd) (x:Nd) (b:Nat) (w:World) (hM:(kM nV nV b M).inv w) (hF:O2 M ld):
 Calls ae 202 #[.agg #[.map (some b)],nV x] w fun e w'=>e= .returned (nV (ld x))∧St (bs w) [] w':=by
 obtain⟨r,hr⟩:=hF.jZ
 refine enter (vs:=[_,_]) (env:=[(0,_),(1,_)]) Tryz.func202 rfl rfl rfl rfl ?_
 refine VC.q (aD rfl<|cf (C:=#[_]) rfl rfl fun b1=>aD rfl<|cf (C:=#[_,_]) rfl rfl fun b2=>aD rfl<|bI (C:=#[_,_]) YO rfl fun b3=>VO.n<|aG<|ik [1,0,2] rfl<|bY (α:=Nd) 1 (fun gx=>[]) [(2,_),(3,_),(4,_)] (fun gx=>[de b2 (.cells #[.bool gx.1,.int .i64 gx.2] 445)]) (fun gx=>ld gx=ld x) (fun gx=>r gx) x (by rfl) (.cons rfl (.cons rfl (.cons rfl .nil))) (fun _ h=>h) ?_)
 rintro y hI
 refine aG<|VC.q (VO.f (r:=0) UL rfl<|VO.c 2 ai2 rfl rfl ⟨_,rfl⟩ rfl<|ah (aM (vs:=[_,_]) Ai (.r rfl) (ax 0 rfl ⟨_,rfl⟩) rfl) rfl<|ah (LO.lkG (n:=y) ah1 (.r rfl) (.r rfl) (sQ hM)) rfl<|VO.m rfl<|ah (bN (.r rfl) rfl) rfl<|ah (bN (.r rfl) rfl) rfl<|aD rfl<|bI (C:=#[_,_]) YO rfl fun b4=>bU<|bl 0 (vs:=[_,_]) (C':=[_,_]) (L':=[_,_,_,_]) Q0 rfl rfl rfl rfl rfl rfl rfl rfl<|VO.a rfl<|VO.n<|ak<|VC.q (VO.m rfl<|ah (LO.not (.r rfl)) rfl<|aI ?_))
 refine ag<|ay rfl (fun h15=>?_) (fun h15=>?_)
 ·
  refine VC.q (ah (aM (vs:=[_,_]) Ai (.r rfl) (ax 1 rfl ⟨_,rfl⟩) rfl) rfl<|bU<|bl 2 (vs:=[_,_]) (C':=[_,_]) (L':=[_,_,_,_]) Q0 rfl rfl rfl rfl rfl rfl rfl rfl<|VO.n<|aP (a8 (cI (a8 (cI (dh (vs:=[_]) rfl ⟨RV.agg (vs:=[_,_]) Ai rfl (ax 2 rfl ⟨_,rfl⟩) rfl,trivial⟩ (fun w hw=>?_)))))))
  have hy:ld x=y:=by rw[←hI];exact hF.stay y (by simpa using h15)
  exact⟨by rw[hy];rfl,hw.nil⟩
 ·
  obtain⟨v,hv⟩:∃v,M y=some v:=om.1 (by simpa using h15)
  refine aC (ag<|aF (ah (aM (vs:=[_,_]) Ai (.r rfl) (ax 0 rfl ⟨_,rfl⟩) rfl) rfl<|bU<|bl 1 (vs:=[_,_]) (C':=[_,_]) (L':=[_,_,_,_]) Q0 rfl rfl rfl rfl rfl rfl rfl rfl<|aI<|bB<|bn fun a w ha hw=>⟨((M y).getD (false,0)),(by rw[hv,dk,hF.go y v hv];exact hI),(by rw[hv,dk];exact hr y v hv),ha.sub (.cons rfl (.cons rfl (.cons rfl .nil))),hw.fO [1,2,3] rfl⟩))
theorem adN (M:Nd→Option Nd) (ld:Nd→Nd) (x y:Nd) (b:Nat) (w:World) (hh:Has w [kM nV nV b M]) (hF:O2 M ld):
 Calls ae 200 #[.agg #[.map (some b)],nV x,nV y] w fun e w'=>e= .returned (.tuple #[])∧St ⟨w,lu [kM nV nV b M]⟩ [kM nV nV b (Bn M ld x y)] w':=by
 refine mG (vs:=[_,_,_]) (env:=[(0,_),(1,_),(2,_)]) hh.enter Tryz.func200 rfl rfl rfl rfl ?_
 refine VC.q (aD rfl<|cf (C:=#[_]) rfl rfl fun b2=>aD rfl<|cf (C:=#[_,_]) rfl rfl fun b3=>aD rfl<|cf (C:=#[_,_]) rfl rfl fun b4=>VO.n<|ak<|cP [[0,1,2,3],[0,2,3],[2,3]] [some 0,some 0,some 0,some 0,some 0,some 0,none,none] mixed (by kernel_rfl) rfl (aA (fun _ hJ=>aM (vs:=[_]) Zb (.r rfl) (fun _ hw=>aX (hJ _ hw) 2 rfl ⟨_,rfl⟩) rfl) rfl<|aA (fun _ hJ=>aM (vs:=[_,_]) Ai (.r rfl) (fun _ hw=>aX (hJ _ hw) 1 rfl ⟨_,rfl⟩) rfl) rfl<|aA (fun _ hJ=>bD (xs:=[_,_]) (vs:=[_,_]) aeE ⟨(.r rfl),(.r rfl),trivial⟩ (fun w2 hw=>Mr M ld x b w2 ((hJ _ hw).inv 3 _ rfl) hF)) rfl<|aA (fun _ hJ=>aM (vs:=[_]) Zb (.r rfl) (fun _ hw=>aX (hJ _ hw) 2 rfl ⟨_,rfl⟩) rfl) rfl<|aA (fun _ hJ=>aM (vs:=[_,_]) Ai (.r rfl) (fun _ hw=>aX (hJ _ hw) 0 rfl ⟨_,rfl⟩) rfl) rfl<|aA (fun _ hJ=>bD (xs:=[_,_]) (vs:=[_,_]) aeE ⟨(.r rfl),(.r rfl),trivial⟩ (fun w2 hw=>Mr M ld y b w2 ((hJ _ hw).inv 3 _ rfl) hF)) rfl<|cn<|cn<|dw) (au<|au<|au<|au<|au<|au<|eW<|bl 1 (vs:=[_,_]) (C':=[_,_]) (L':=[_,_,_,_]) Q0 rfl rfl rfl rfl rfl rfl rfl rfl<|⟨fun _ hw=>hw.fO [0,2,3] rfl,eW<|bl 0 (vs:=[_,_]) (C':=[_,_]) (L':=[_,_,_,_]) Q0 rfl rfl rfl rfl rfl rfl rfl rfl<|⟨fun _ hw=>hw.fO [2,3] rfl,dS ?_⟩⟩))
 refine ag<|VC.q (ah (aM (vs:=[_,_]) Ai (.r rfl) (ax 1 rfl ⟨_,rfl⟩) rfl) rfl<|ah (aM (vs:=[_,_]) Ai (.r rfl) (ax 0 rfl ⟨_,rfl⟩) rfl) rfl<|ah (LO.neP (a:=ld x) (b:=ld y) (Dk gS O4) (wb cM O3) alJ anc (.r rfl) (.r rfl)) rfl<|VO.n<|ay rfl (fun h14=>?_) (fun h14=>?_))
 ·
  refine aF (VO.f (r:=0) UL rfl<|VO.c 2 ai2 rfl rfl ⟨_,rfl⟩ rfl<|ah (aM (vs:=[_,_]) Ai (.r rfl) (ax 0 rfl ⟨_,rfl⟩) rfl) rfl<|ah (aM (vs:=[_,_]) Ai (.r rfl) (ax 1 rfl ⟨_,rfl⟩) rfl) rfl<|bU<|HO.Ve 3 (fun R=>[_,_,_,R]) (ld y) (ld x) ah1 (.r rfl) (.r rfl) (.r rfl) rfl (fun _=>rfl)<|aI<|VE.xf (vs:=[]) rfl trivial (fun w hw=>?_))
  have hs:=bM [3] rfl rfl _ hw
  refine⟨rfl,?_⟩
  first |(rw[←IA (by simpa using h14)];exact hs)|(rw[←IZ (by simpa using h14)];exact hs)
 ·
  refine aC (VE.xf (vs:=[]) rfl trivial (fun w hw=>?_))
  have hs:=bM [3] rfl rfl _ hw
  refine⟨rfl,?_⟩
  first |(rw[←IA (by simpa using h14)];exact hs)|(rw[←IZ (by simpa using h14)];exact hs)
theorem ahu:ef ae 201:=⟨_,Tryz.func201,by decide,rfl⟩
theorem aid:ig ae 446:=⟨⟨_,zl,rfl⟩,by kernel_rfl⟩
theorem M9:ig ae 197:=⟨⟨_,zo,rfl⟩,by kernel_rfl⟩
theorem xk:dF ae 197 351:=zo
theorem amP:ed ae 351 [(0,1),(1,1),(2,1)] [.int .i64 0,.slice none 0 0,.slice none 0 0]:=ed.mk fun _=>by kernel_rfl
theorem MQ:cj ae 351 (.agg #[.int .i64 0,.slice none 0 0,.slice none 0 0]):=by unfold cj;kernel_rfl
theorem BD:(ae.info? 351).map (·.size)=some 3:=by kernel_rfl
theorem amp:jW ae 351 3 56 (.agg #[.int .i64 0,.slice none 0 0,.slice none 0 0]):=⟨by kernel_rfl,by kernel_rfl,by unfold cj;kernel_rfl,rfl,by decide⟩
theorem amD:(ae.info? 197).map (·.size)=some 1:=by kernel_rfl
abbrev wV (ba:Nat) (A:Nd→Option Nat) (bo:Nat) (po:Option Addr) (co:Nat) (l:List dQ):List cq:=[kM nV Ey ba A,de bo (.cells #[.slice po l.length co] 197),own 351 3 po co (l.map dQ.cells)]
theorem aeQ {A:Nd→Option Nat} {q:Nd} {l:List dQ} (h:A q=none):mo A q l.length=wJ A q l.length∧l++[dQ.z]=mA A q l∧oy A q l.length=l.length:=by unfold wJ mA oy;rw[h];exact⟨rfl,rfl,rfl⟩
theorem ae2 {A:Nd→Option Nat} {q:Nd} {l:List dQ} (h:¬A q=none):A=wJ A q l.length∧l=mA A q l∧oy A q l.length=(A q).getD 0:=by
 unfold wJ mA oy
 obtain⟨p,hp⟩:=om.1 h
 rw[hp];exact⟨rfl,rfl,rfl⟩
theorem TZ (M:Nd→Option Nd) (ld:Nd→Nd) (x:Nd) (bm bg ba bt bo:Nat) (A:Nd→Option Nat) (l:List dQ) (po:Option Addr) (co:Nat) (w:World) (hh:Has w (wV ba A bo po co l)) (hcap:∀{L:List cq} {v:World},St ⟨w,lu (wV ba A bo po co l)⟩ L v→fk v ⟨bg,0,none⟩ [.map (some bm)]∧(kM nV nV bm M).inv v∧fk v ⟨bt,0,none⟩ [.map (some ba)]) (hF:O2 M ld) (hA:∀p,A (ld x)=some p→p<l.length) (hl:l.length≤1000000):
 Calls ae 201 #[nV x,.pointer (some ⟨bg,0,none⟩),.pointer (some ⟨bt,0,none⟩),.pointer (some ⟨bo,0,none⟩)] w fun e w'=>∃y:SlY,True∧e= .returned (.pointer (some ⟨pb y.p,Go.SL.po y.p+oy A (ld x) l.length*3,none⟩))∧St ⟨w,lu (wV ba A bo po co l)⟩ (wV ba (wJ A (ld x) l.length) bo y.p y.c (mA A (ld x) l)) w':=by
 refine mG (vs:=[_,_,_,_]) (env:=[(0,_),(1,_),(2,_),(3,_)]) hh.enter Tryz.func201 rfl rfl rfl rfl ?_
 refine VC.q (aD rfl<|cf (C:=#[_,_]) rfl rfl fun b4=>VO.a rfl<|VO.n<|VC.q (ah (aM (vs:=[_]) Zb (.r rfl) (fun _ hw=>aU (off:=0) (hcap hw).1 ⟨_,rfl⟩) rfl) rfl<|ah (aM (vs:=[_,_]) Ai (.r rfl) (ax 0 rfl ⟨_,rfl⟩) rfl) rfl<|ah (bD (xs:=[_,_]) (vs:=[_,_]) aeE ⟨(.r rfl),(.r rfl),trivial⟩ (fun w2 hw=>Mr M ld x bm w2 (hcap hw).2.1 hF)) rfl<|aD rfl<|bI (C:=#[_,_]) YO rfl fun b5=>bU<|bl 0 (vs:=[_,_]) (C':=[_,_]) (L':=[_,_,_,_,_]) Q0 rfl rfl rfl rfl rfl rfl rfl rfl<|VO.n<|ak ?_))
 refine aF (ah (aB aid (.r rfl) (fun _ hw=>aU (off:=0) (hcap hw).2.2 ⟨_,rfl⟩)) rfl<|ah (aM (vs:=[_,_]) Ai (.r rfl) (ax 0 rfl ⟨_,rfl⟩) rfl) rfl<|ah (LO.lkG (n:=(ld x)) agZ (.r rfl) (.r rfl) (fun _ hw=>hw.inv 2 _ rfl)) rfl<|VO.m rfl<|ah (bN (.r rfl) rfl) rfl<|ah (bN (.r rfl) rfl) rfl<|VO.a rfl<|VO.a rfl<|VO.n<|ak<|VC.q (VO.m rfl<|ah (LO.not (.r rfl)) rfl<|VO.n<|ay rfl (fun h19=>?_) (fun h19=>?_)))
 ·
  obtain⟨e1,e2,e3⟩:=aeQ (l:=l) (q:=ld x) (A:=A) (by simpa using h19)
  have hkl:l.length<(l++[dQ.z]).length:=by simp
  refine VC.q (VO.c 3 M9 rfl rfl ⟨_,rfl⟩ rfl<|ah (bW xk (.r rfl) rfl) rfl<|VO.a rfl<|VO.n<|VC.q (ah (aB aid (.r rfl) (fun _ hw=>aU (off:=0) (hcap hw).2.2 ⟨_,rfl⟩)) rfl<|ah (aM (vs:=[_,_]) Ai (.r rfl) (ax 0 rfl ⟨_,rfl⟩) rfl) rfl<|VO.m rfl<|bU<|HO.Ve 2 (fun R=>[_,_,R,_,_]) (ld x) l.length agZ (.r rfl) (.r rfl) (.r rfl) rfl (fun _=>rfl)<|VO.n<|aF (VO.c 3 M9 rfl rfl ⟨_,rfl⟩ rfl<|ah (dC (ps:=[]) (vs:=[]) (C:=[_,_,_]) amP trivial rfl rfl) rfl<|aD rfl<|fu (ps:=[(_,_)]) (vs:=[(_,_)]) (Z:=[_,_,_]) (C:=[_,_,_]) xk MQ BD ⟨(.r rfl),trivial⟩ rfl rfl rfl rfl ⟨_,[_,_,_],[_,_,_],rfl,rfl,rfl,rfl,rfl⟩ fun b7=>aD rfl<|HO.kT (dQ.z) 5 0 (fun R=>[_,_,_,_,_,R]) xk xk amp (.r rfl) (.r rfl) rfl rfl rfl rfl rfl rfl rfl (fun _=>rfl) rfl (by omega) fun p3 c3=>bU<|bl 4 (vs:=[_]) (C':=[_]) (L':=[_,_,_,_,_,_]) amD rfl rfl rfl rfl rfl rfl rfl rfl<|aI ?_)))
  refine ag<|VC.q (VO.c 4 M9 rfl rfl ⟨_,rfl⟩ rfl<|VO.m rfl<|ah (gp xk BD (fun _ hw=>(dE hw 5 rfl).some (by rw[aq])) (.r rfl) (.r rfl) (j:=oy A (ld x) l.length) (by rw[e3]) (by rw[e3];omega)) rfl<|VO.a rfl<|VO.n<|aP (VE.s rfl rfl (fun w hw=>?_)))
  have hs:=bM [3,4,5] rfl rfl _ hw
  refine⟨⟨p3,c3⟩,trivial,?_,?_⟩
  ·rw[e3];rfl
  ·rw[←e1, ←e2];exact hs
 ·
  obtain⟨e1,e2,e3⟩:=ae2 (l:=l) (q:=ld x) (A:=A) (by simpa using h19)
  obtain⟨pk,hpk⟩:=om.1 (show ¬A (ld x)=none by simpa using h19)
  have hkl:=hA pk hpk
  rw[show pk=(A (ld x)).getD 0 by rw[hpk];rfl]at hkl
  refine aC (ag<|VC.q (VO.c 3 M9 rfl rfl ⟨_,rfl⟩ rfl<|VO.m rfl<|ah (gp xk BD (fun _ hw=>(dE hw 4 rfl).some (by rw[aq])) (.r rfl) (.r rfl) (j:=oy A (ld x) l.length) (by rw[e3]) (by rw[e3];omega)) rfl<|VO.a rfl<|VO.n<|aP (VE.s rfl rfl (fun w hw=>?_))))
  have hs:=bM [2,3,4] rfl rfl _ hw
  refine⟨⟨po,co⟩,trivial,?_,?_⟩
  ·rw[e3];rfl
  ·rw[←e1, ←e2];exact hs
end Go.Proofs.YtffbohecdocajaaGreat
