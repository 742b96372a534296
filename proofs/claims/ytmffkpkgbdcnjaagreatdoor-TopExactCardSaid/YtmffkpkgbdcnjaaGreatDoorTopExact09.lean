/-
  Texts of this proof, joined.
-/
import Derived.Shelf.SlGeneric
import Derived.Shelf.SlSortCmp.WholeK
import Derived.Ground.SlsfProg
import Derived.Test.YtmffkpkgbdcnjaaGreatDoorTopExact07
import Derived.Shelf.SlSortCmp.NoneTotal
import Derived.Lib.Strings
import Derived.Deep.Grids
set_option linter.unusedVariables false
set_option linter.unusedSimpArgs false
set_option maxRecDepth 100000
set_option maxHeartbeats 20000000
namespace Go.Proofs.YtmffkpkgbdcnjaaGreatDoor
section
open Go.Shelf
def Kw: Go.Shelf.Ren:=⟨fun | 6=>328 | 15=>191 | 14=>362 | 28=>281 | 29=>282 | 20=>320 | 21=>383 | 22=>384 | 23=>385 | 24=>386 | 25=>387 | 26=>388 | 27=>389 | 46=>401 | 47=>336 | 48=>337 | 49=>402 | 50=>403 | 57=>405 | n=>n,fun | 22=>190 | 24=>197 | 25=>296 | 3=>3 | 39=>49 | 0=>0 | 53=>335 | 55=>50 | 4=>4 | 46=>409 | 45=>408 | 50=>65 | 5=>5 | 9=>9 | 66=>474 | 70=>478 | 76=>501 | 77=>213 | n=>n,fun | n=>n⟩
theorem MW: Go.Proofs.SlLaysF0.n6 Tryz.prog Kw:={
 mixed:=by kernel_rfl
 f6:=⟨Tryz.f328.name,by decide,Tryz.func328.trans (congrArg some (by kernel_rfl))⟩
 f14:=⟨Tryz.f362.name,by decide,Tryz.func362.trans (congrArg some (by kernel_rfl))⟩
 f15:=Tryz.func191.trans (congrArg some (by kernel_rfl))
 f20:=⟨Tryz.f320.name,by decide,Tryz.func320.trans (congrArg some (by kernel_rfl))⟩
 f21:=⟨Tryz.f383.name,by decide,Tryz.func383.trans (congrArg some (by kernel_rfl))⟩
 f22:=⟨Tryz.f384.name,by decide,Tryz.func384.trans (congrArg some (by kernel_rfl))⟩
 f23:=⟨Tryz.f385.name,by decide,Tryz.func385.trans (congrArg some (by kernel_rfl))⟩
 f24:=⟨Tryz.f386.name,by decide,Tryz.func386.trans (congrArg some (by kernel_rfl))⟩
 f25:=⟨Tryz.f387.name,by decide,Tryz.func387.trans (congrArg some (by kernel_rfl))⟩
 f26:=⟨Tryz.f388.name,by decide,Tryz.func388.trans (congrArg some (by kernel_rfl))⟩
 f27:=⟨Tryz.f389.name,by decide,Tryz.func389.trans (congrArg some (by kernel_rfl))⟩
 f28:=Tryz.func281.trans (congrArg some (by kernel_rfl))
 f29:=Tryz.func282.trans (congrArg some (by kernel_rfl))
 f46:=⟨Tryz.f401.name,by decide,Tryz.func401.trans (congrArg some (by kernel_rfl))⟩
 f47:=Tryz.func336.trans (congrArg some (by kernel_rfl))
 f48:=Tryz.func337.trans (congrArg some (by kernel_rfl))
 f49:=⟨Tryz.f402.name,by decide,Tryz.func402.trans (congrArg some (by kernel_rfl))⟩
 f50:=⟨Tryz.f403.name,by decide,Tryz.func403.trans (congrArg some (by kernel_rfl))⟩
 f57:=⟨Tryz.f405.name,by decide,Tryz.func405.trans (congrArg some (by kernel_rfl))⟩
 t0:=Tryz.underlying0
 a0:=Tryz.isAgg0
 z0:=Tryz.sizeOf0
 v0:=Tryz.zeroValue0
 t3:=Tryz.underlying3
 a3:=Tryz.isAgg3
 z3:=Tryz.sizeOf3
 v3:=Tryz.zeroValue3
 t4:=Tryz.underlying4
 a4:=Tryz.isAgg4
 z4:=Tryz.sizeOf4
 v4:=Tryz.zeroValue4
 t5:=Tryz.underlying5
 a5:=Tryz.isAgg5
 z5:=Tryz.sizeOf5
 v5:=Tryz.zeroValue5
 t9:=Tryz.underlying9
 a9:=Tryz.isAgg9
 z9:=Tryz.sizeOf9
 v9:=Tryz.zeroValue9
 t22:=Tryz.underlying190
 a22:=Tryz.isAgg190
 z22:=Tryz.sizeOf190
 v22:=Tryz.zeroValue190
 t25:=Tryz.underlying296
 a25:=Tryz.isAgg296
 z25:=Tryz.sizeOf296
 v25:=Tryz.zeroValue296
 t39:=Tryz.underlying49
 a39:=Tryz.isAgg49
 z39:=Tryz.sizeOf49
 v39:=Tryz.zeroValue49
 t45:=Tryz.underlying408
 a45:=Tryz.isAgg408
 z45:=Tryz.sizeOf408
 v45:=Tryz.zeroValue408
 t46:=Tryz.underlying409
 a46:=Tryz.isAgg409
 z46:=Tryz.sizeOf409
 v46:=Tryz.zeroValue409
 t50:=Tryz.underlying65
 a50:=Tryz.isAgg65
 z50:=Tryz.sizeOf65
 v50:=Tryz.zeroValue65
 t53:=Tryz.underlying335
 a53:=Tryz.isAgg335
 z53:=Tryz.sizeOf335
 v53:=Tryz.zeroValue335
 t55:=Tryz.underlying50
 a55:=Tryz.isAgg50
 z55:=Tryz.sizeOf50
 v55:=Tryz.zeroValue50
 t66:=Tryz.underlying474
 a66:=Tryz.isAgg474
 z66:=Tryz.sizeOf474
 v66:=Tryz.zeroValue474
 t70:=Tryz.underlying478
 a70:=Tryz.isAgg478
 z70:=Tryz.sizeOf478
 v70:=Tryz.zeroValue478
 t76:=Tryz.underlying501
 a76:=Tryz.isAgg501
 z76:=Tryz.sizeOf501
 v76:=Tryz.zeroValue501
 t77:=Tryz.underlying213
 a77:=Tryz.isAgg213
 z77:=Tryz.sizeOf213
 v77:=Tryz.zeroValue213 }
end
section
open Go.RowKit Go.Sort
section
variable {α:Type} [Inhabited α] {enc:α->List Value} {k:Nat}
theorem iy(d:Array α): (flatK enc k d).toList.length=d.size*k:=by simp
theorem xZ(d:Array α)(i j:Nat)(hi:i < d.size)(hj:j < k): (flatK enc k d).toList[i*k+j]? = some ((enc d[i]!)[j]!):=by
 have h:i*k+j < d.size*k:=by
  have:=Nat.mul_le_mul_right k (show i+1<=d.size by omega);rw[Nat.add_mul,Nat.one_mul] at this
  omega
 have e1:(i*k+j) / k=i:=by rw[Nat.mul_comm,Nat.mul_add_div J,Nat.div_eq_of_lt hj,Nat.add_zero]
 have e2:(i*k+j)%k=j:=by rw[Nat.mul_comm,Nat.mul_add_mod,Nat.mod_eq_of_lt hj]
 have:=get_flatK enc k d _ h;rw[e1,e2] at this
 rw[List.getElem?_eq_getElem (by simpa using h)];rw[getElem!_pos _ _ (by simpa using h)] at this
 rw[<-this];simp
theorem yT(hk:∀ x,(enc x).length=k)(d:Array α)(x:α): (flatK enc k (d.push x)).toList=(flatK enc k d).toList ++ enc x:=by
 apply List.ext_getElem?;intro t;rcases Nat.eq_zero_or_pos k with h0 | h0
 ·subst h0
  have:=hk x;rw[List.getElem?_eq_none (by rw[iy];omega),List.getElem?_eq_none (by rw[List.length_append,iy,this];omega)]
 have hd:=Nat.div_add_mod t k;have hm:=Nat.mod_lt t h0;have ht:t=t / k*k+t%k:=by rw[Nat.mul_comm];omega
 by_cases h1:t / k < d.size
 ·have hl:t < (flatK enc k d).toList.length:=by
   rw[iy];have:=Nat.mul_le_mul_right k (show t / k+1<=d.size by omega);rw[Nat.add_mul,Nat.one_mul] at this
   omega
  rw[List.getElem?_append_left hl];have e1:=xZ (enc:=enc) d (t / k) (t%k) h1 hm;have e2:=xZ (enc:=enc) (d.push x) (t / k) (t%k) (by rw[Array.size_push];omega) hm;rw[<-ht] at e1 e2
  rw[e1,e2];have:(d.push x)[t / k]! = d[t / k]!:=by
   rw[getElem!_pos _ _ (by rw[Array.size_push];omega),getElem!_pos d _ h1,Array.getElem_push_lt h1]
  rw[this]
 ·have hl:(flatK enc k d).toList.length<=t:=by
   rw[iy];have:=Nat.mul_le_mul_right k (show d.size<=t / k by omega);omega
  rw[List.getElem?_append_right hl,iy]
  by_cases h2:t / k=d.size
  ·have e2:=xZ (enc:=enc) (d.push x) (t / k) (t%k) (by rw[Array.size_push];omega) hm
   rw[<-ht] at e2
   rw[e2,h2];have e3:(d.push x)[d.size]! = x:=by
    rw[getElem!_pos _ _ (by rw[Array.size_push];omega),Array.getElem_push_eq]
   have e4:t-d.size*k=t%k:=by rw[h2] at ht;omega
   rw[e3,e4,List.getElem?_eq_getElem (by rw[hk];exact hm),getElem!_pos _ _ (by rw[hk];exact hm)]
  ·have h3:d.size+1<=t / k:=J
   have h4:=Nat.mul_le_mul_right k h3;rw[Nat.add_mul,Nat.one_mul] at h4
   rw[List.getElem?_eq_none (by rw[iy,Array.size_push,Nat.add_mul,Nat.one_mul];omega),List.getElem?_eq_none (by rw[hk];omega)]
theorem LB{w:World}{base:Nat}{e:TypeId}{g c:Nat}{d:Array α}(h:w.ownsRow base e k (.slice (some ⟨g,0,none⟩) d.size c) d.size (flatK enc k d).toList): HoldsK enc k w g 0 d:=by
 intro j hj;have hj':j < (flatK enc k d).toList.length:=by simpa using hj
 have hc:=h.cells (g:=g) rfl j _ (List.getElem?_eq_getElem hj');have ha:(⟨g,0,none⟩:Addr).add j=⟨g,j,none⟩:=by unfold Addr.add;split<;>simp_all
 rw[ha] at hc
 rw[Nat.zero_add];refine⟨?_,?_⟩
 ·rw[hc,getElem!_pos (flatK enc k d) j hj]
  simp
 ·rcases h.2 with ⟨hv,-⟩ | ⟨g',cap,cur,hv,-,hh,-⟩
  ·cases hv
  ·injection hv with hv
   injection hv with hv
   injection hv with hv
   subst hv;exact ay.frozen (t:=e) hh j
theorem Km{w:World}{base:Nat}{e:TypeId}{g c:Nat}{d d':Array α}(h:w.ownsRow base e k (.slice (some ⟨g,0,none⟩) d.size c) d.size (flatK enc k d).toList)(hs:d'.size=d.size)(n:Nat)(os:Array Obj):
  (sortWorldK enc k w g 0 n d' os).ownsRow base e k (.slice (some ⟨g,0,none⟩) d.size c) d.size (flatK enc k d').toList/\Keeps (fun q=>q=g) w (sortWorldK enc k w g 0 n d' os):=by
 rcases h.2 with ⟨hv,-⟩ | ⟨g',cap,cur,hv,hB,hh,hnc,hcm,hcs,htk⟩
 ·cases hv
 injection hv with hv hv2 hv3
 injection hv with hv
 injection hv with hv
 subst hv;subst hv3;have hlt:g < w.heap.size:=(Array.getElem?_eq_some_iff.1 hh).1;have hF:(flatK enc k d').size=d.size*k:=by simp[hs]
 have hge:∀ q,q < w.heap.size->(sortWorldK enc k w g 0 n d' os).heap[q]? = (w.heap.modify g (onCells (putCells id 0 (flatK enc k d'))))[q]?:=fun q hq=>by
  show ((w.heap.modify g _) ++ os)[q]? = _
  rw[Array.getElem?_append_left (by simpa using hq)]
 refine⟨⟨by rw[iy,hs],.inr ⟨g,c,putCells id 0 (flatK enc k d') cur,rfl,hB,?_,hnc,hcm,?_,?_⟩⟩,?_⟩
 ·rw[hge g hlt,Array.getElem?_modify,if_pos rfl,hh]
  rfl
 ·unfold putCells
  simp[hcs]
 ·apply List.ext_getElem?
  intro t
  by_cases ht:t < d.size*k
  ·rw[List.getElem?_take_of_lt ht]
   have hc:t < cur.size:=by
    rw[hcs];have:=Nat.mul_le_mul_right k hnc;omega
   unfold putCells;rw[Array.getElem?_toList,Array.getElem?_mapIdx,Array.getElem?_eq_getElem hc];simp only[Option.map_some];rw[if_pos ⟨Nat.zero_le _,J⟩,Nat.sub_zero,getElem!_pos _ _ J,Array.getElem?_toList,Array.getElem?_eq_getElem J];rfl
  ·rw[List.getElem?_eq_none (by rw[List.length_take];omega),List.getElem?_eq_none (by rw[iy,hs];omega)]
 ·refine ⟨rfl,rfl,rfl,?_,fun q hq hne=>?_⟩
  ·show w.heap.size<=((w.heap.modify g _) ++ os).size
   simp
  ·rw[hge q hq,Array.getElem?_modify,if_neg (fun e=>hne e.symm)]
end
end
section
open Go.RowKit Go.Maps A
instance:Inhabited Ag:=⟨aQ⟩
def oJ(W:Int)(x:Int × Ag): List Value:=[Z x.1,Z (x.1+W),Z x.2.n,Z (aj x.2.s),.int .u64 (au x.2.s),Z x.2.lo,Z x.2.hi,Z x.2.f.t,Z x.2.f.v,Z x.2.f.s,Z x.2.l.t,Z x.2.l.v,Z x.2.l.s]
theorem xY(W:Int)(x:Int × Ag): (oJ W x).length=13:=rfl
theorem NU(W:Int)(x:Int × Ag): ∀ v ∈ oJ W x,v.oneCell'=true:=List.all_eq_true.1 rfl
theorem lM: (Tryz.prog.info? 197).map (fun i=>(i.zero,i.size,i.bytes))=some (some (.agg #[Z 0,Z 0,Z 0,Z 0,.int .u64 0,Z 0,Z 0,Z 0,Z 0,Z 0,Z 0,Z 0,Z 0]),13,104):=by kernel_rfl
theorem LH(W:Int)(x y:Int × Ag)(w:World): Calls Tryz.prog 329 #[.agg (oJ W x).toArray,.agg (oJ W y).toArray] w fun e w'=>e=.returned (Z (A.bL x.1 y.1))/\∃ q os',w'=Sort.grow (w.drewN q) os':=by
 obtain⟨x1,a⟩:=x;obtain⟨y1,b⟩:=y;have hcon:=fun W'=>A.wQ x1 y1 W'
 show Calls Tryz.prog _ _ _ fun e w'=>e=.returned (Z (A.bL x1 y1))/\_
 generalize A.bL x1 y1=r at hcon ⊢
 unfold oJ
 go_enter Tryz.func329,Tryz.ntmps329
 go_wp2_with (go_at_call 319;refine (hcon _).mono ?_;rintro e w' ⟨rfl,rfl⟩);go_ret;exact⟨rfl,0,_,by rw[Sort.alloc_eq_grow,Sort.alloc_eq_grow,Sort.grow_grow];rfl⟩
theorem nV{H:Type}{P:Program}{k:TypeId}{R:Value->Option (DataW H × List MemPlace)}{b r n cnt:Nat}{D:DataW H}{left:Lit->Bool}{w w':World}{S:Nat->Prop}(h:w.ranges P k R b r n D left cnt)(hk:Keeps S w w')(hb:¬ S b)(hr:¬ S r): w'.ranges P k R b r n D left cnt:=by
 have hlr:=World.ranges.lt h;have hlb:=World.ownsMap.lt (World.ranges.owns h);obtain⟨es,clock,since,seen,c0,h1,h2,h3,h4,h5,h6⟩:=h;exact⟨es,clock,since,seen,c0,by rw[hk.block b hlb hb];exact h1,h2,h3,h4,by rw[hk.block r hlr hr];exact h5,h6⟩
theorem xH{H:Type}{P:Program}{k:TypeId}{R:Value->Option (DataW H × List MemPlace)}{b r n cnt:Nat}{D:DataW H}{left:Lit->Bool}{w:World}{t:TypeId}{cs:Array Value}(h:w.ranges P k R b r n D left cnt): ¬ ay w r t cs:=fun hb=>by
 obtain⟨es,clock,since,seen,c0,h1,h2,h3,h4,h5,h6⟩:=h;unfold ay at hb
 rw[h5] at hb
 injection hb with hb
 cases hb
theorem Ob{s:Int->Option Ag}{x:Int}{v:Value}(h:(s x).map ql=some v): ∃ a,s x=some a/\v=.agg #[Z a.n,Z (aj a.s),.int .u64 (au a.s),Z a.lo,Z a.hi,Z a.f.t,Z a.f.v,Z a.f.s,Z a.l.t,Z a.l.v,Z a.l.s]:=by
 cases hsx:s x with
 | none=>rw[hsx] at h;cases h
 | some a=>
  rw[hsx] at h
  injection h with h
  exact⟨a,rfl,h.symm⟩
theorem vW(x y:Int): decide (A.bL x y < 0)=decide (x < y):=by
 unfold A.bL
 by_cases h:x < y
 ·simp[h]
 ·by_cases h2:y < x<;>simp[h,h2]
theorem TR: Sort.SWO (ltOf fun x y:Int × Ag=>A.bL x.1 y.1) where
 irrefl x:=by unfold ltOf;rw[vW];simp
 trans x y z h1 h2:=by unfold ltOf at *;rw[vW] at *;simp at *;omega
 ntrans x y z h1 h2:=by unfold ltOf at *;rw[vW] at *;simp at *;omega
theorem MH{α:Type}[Inhabited α]{d d':Array α}(h:Sort.PermIn 0 d.size d d'): d'.toList.Perm d.toList:=by
 have h1:=h.2.2;rw[<-h.1,Array.extract_size] at h1
 rw[h.1,Array.extract_size] at h1
 exact h1
structure jG(s:Int->Option Ag)(d:Array (Int × Ag)): Prop where
 val:∀ p ∈ d.toList,s p.1=some p.2
 all:∀ x,(s x).isSome=true->∃ p ∈ d.toList,p.1=x
 inc:d.toList.Pairwise (fun p q=>p.1 < q.1)
theorem G8{s:Int->Option Ag}{d d':Array (Int × Ag)}(hv:∀ p ∈ d.toList,s p.1=some p.2)(hnd:(d.toList.map (·.1)).Nodup)(hall:∀ x,(s x).isSome=true->x ∈ d.toList.map (·.1))(hp:d'.toList.Perm d.toList)(hs:Sort.SortedIn (ltOf fun x y:Int × Ag=>A.bL x.1 y.1) 0 d.size d')(hsz:d'.size=d.size): jG s d':=by
 refine⟨fun p h=>hv p (hp.mem_iff.1 h),fun x hx=>?_,?_⟩
 ·obtain ⟨p,h1,h2⟩:=List.mem_map.1 (hall x hx)
  exact⟨p,hp.mem_iff.2 h1,h2⟩
 ·have hn:(d'.toList.map (·.1)).Nodup:=(hp.map _).nodup_iff.2 hnd
  rw[List.pairwise_iff_getElem];intro i j hi hj hij;have h1:=hs i j (Nat.zero_le _) hij (by rw[<-hsz];simpa using hj);unfold ltOf at h1
  rw[vW] at h1
  have e1:d'[i]! = d'.toList[i]:=by rw[getElem!_pos d' i (by simpa using hi)];simp
  have e2:d'[j]! = d'.toList[j]:=by rw[getElem!_pos d' j (by simpa using hj)];simp
  rw[e1,e2] at h1
  have h2:¬ (d'.toList[j]).1 < (d'.toList[i]).1:=by simpa using h1
  have h3:(d'.toList[i]).1≠(d'.toList[j]).1:=fun e=>by
   have:=List.pairwise_iff_getElem.1 hn i j (by simpa using hi) (by simpa using hj) hij;simp only[List.getElem_map] at this
   exact this e
  omega
def Qm(w:World)(W:Int)(s:Int->Option Ag)(e:Ending)(w':World): Prop:=
 ∃ (d:Array (Int × Ag)) (A:Option Addr) (c:Nat),e=.returned (.slice A d.size c)/\w'.ownsRow w.heap.size 197 13 (.slice A d.size c) d.size (Sort.flatK (oJ W) 13 d).toList/\Below w.heap.size w w'/\jG s d
theorem uI(w:World)(B:Nat)(w0:World)(g M:Nat)(W O:Int)(s:Int->Option Ag)(U:Nat)(hG:eT B w0 g M W O s U w)(hk:bP W O)(hs:∀ x,(s x).isSome=true->-2305843009213693952<=x/\x<=2305843009213693952)(hU:U<=1000):
  Calls Tryz.prog 264 #[.pointer (some ⟨g,0,none⟩)] w (Qm w W s):=by
 obtain⟨nM,D,hown,hn,hF⟩:=hG.map;have c3:=hG.blk.cell 3;have hw1:=hk.w1;have hw2:=hk.w2;have hMg:=hG.lt;have HD:=zh (zN hG (zN hF (zN hs hown)));clear hG hF hs hk
 go_enter Tryz.func264,Tryz.ntmps264
 go_wp2_with (at_range;refine wpList_range_own _ rfl _ 392 rfl 3 195 J6 Tryz.underlying392 eO M nM D rfl hown ?_;intro w1 hrg1 hg1 hs1)
 go_frame
 clear hown c3;have hb1:Below w.heap.size w w1:=(Below.refl _ _).grown hg1 (Nat.le_refl _) (fun k e=>by cases e);have HR1:=zh (zN hrg1 hb1);clear hrg1 hb1 hg1
 go_loopw [3] (fun sl wr=>∃ (d:Array (Int × Ag)) (A:Option Addr) (c:Nat) (left:Lit->Bool) (cnt:Nat),sl=.slice A d.size c/\wr.ownsRow w.heap.size 197 13 (.slice A d.size c) d.size (Sort.flatK (oJ W) 13 d).toList/\Below w.heap.size w wr/\
  wr.ranges Tryz.prog 3 eO M w.heap.size nM D left cnt/\kI uX (fun x=>(s x).map ql) (d.toList.map (·.1)) left/\d.size+cnt<=U/\(∀ p ∈ d.toList,s p.1=some p.2)/\(d.toList.map (·.1)).Nodup) (fun _ wr=>wr.rangeLeft M w.heap.size)
 case atStart=>
  refine⟨#[],none,0,_,_,rfl,⟨iy _,.inl ⟨rfl,rfl⟩⟩,HR1.out.2,HR1.out.1,kI.start HD.out.2.1,?_,(fun p hp=>by cases hp),List.nodup_nil⟩;have:=HD.out.2.1.sz;show 0+_<=U
  omega
 case round=>
  obtain⟨d,A,c,left,cnt,rfl,hr,hb,hrg,hL,hcn,hv,hnd⟩:=hrel;have HW:=zh (zN hr (zN hb (zN hv (zN hnd hcn))));have HN:=zh (zN hrg hL);clear hr hb hv hnd hcn;have hint:∀ key k,keyOf Tryz.prog 3 key=some k->∃ x,key=Z x:=fun key k h=>by
   obtain⟨x,hx,-⟩:=Maps.keyOf_int_inv Tryz.underlying3 h;exact⟨x,hx⟩
  have hkey:∀ x k,keyOf Tryz.prog 3 (Z x)=some k->k=uX x:=fun x k h=>by
   obtain⟨y,hy,hk,-⟩:=Maps.keyOf_int_inv Tryz.underlying3 h;injection hy with _ hy
   subst hy;exact hk
  go_wp2_with (at_next;refine EW J6 (Z) hint hkey Ov rfl _ rfl HD.out.2.1 w.heap.size (d.toList.map (·.1)) left cnt HN.out.2 rfl HN.out.1 (fun hdone=>?_) ?_;rotate_left;(intro x v w2 left2 cnt2 hx hnx hL2 hrg2 hlt2 hg2 hs2 hen2;obtain ⟨a,hxa,rfl⟩:=Ob hx;clear hx);rotate_left)
  ·have hkeys:=hdone
   have hall:∀ x,(s x).isSome=true->x ∈ d.toList.map (·.1):=fun x hx=>hdone x (by rw[Option.isSome_map];exact hx)
   clear hdone hkeys;rcases Nat.eq_zero_or_pos d.size with h0 | h0
   ·have hcon:=fun wx=>Go.Proofs.AnyF.slices_SortFunc_none MW A c (.func (.func 329) #[] #[]) wx
    change ∀ wx,Calls Tryz.prog 328 _ _ _ at hcon
    rw[h0];refine(hcon wr).mono ?_;rintro e w2 ⟨rfl,rfl⟩;have HA:=zh hall;clear hall hcon;have hd0:d=#[]:=Array.eq_empty_of_size_eq_zero h0
    have HH:=zh (zN h0 hd0);clear h0 hd0;go_wp2_with fail;go_ret;refine⟨d,A,c,by rw[HH.out.1];rfl,HW.out.1,HW.out.2.1,G8 HW.out.2.2.1 HW.out.2.2.2.1 HA.out (List.Perm.refl _) (fun i j _ h1 h2=>?_) rfl⟩;have:=HH.out.1;omega
   ·obtain ⟨A',c',e1,-,hg'⟩:=aH HW.out.1
    obtain⟨gd,hgd,hgd1,hgd2⟩:=hg' h0;injection e1 with e1 _ e2
    subst e1;subst e2;subst hgd;have eg:∀ args w,(callFunc 329 args).run Tryz.prog w=.ok (.enter 329 args) w:=enters_of Tryz.func329 (by kernel_rfl) rfl
    have hcon:=Go.Proofs.AnyQ.slices_SortFunc MW 13 Tryz.isAgg197 Tryz.sizeOf197 (oJ W) (xY W) (NU W) (fun x y=>A.bL x.1 y.1) TR 329 #[] gd 0 c d wr eg (fun _ _ _ _ x y=>LH W x y _) (LB HW.out.1) hgd2 (by have:=HW.out.2.2.2.2;omega)
    change Calls Tryz.prog 328 _ _ _ at hcon
    refine hcon.mono ?_;rintro e w2 ⟨rfl,d',n,os,hp,hs,hw2⟩;obtain⟨hr2,k2⟩:=Km HW.out.1 hp.1 n os;rw[<-hw2] at hr2 k2
    have hbk:=G8 HW.out.2.2.1 HW.out.2.2.2.1 hall (MH hp) hs hp.1;have HF:=zh (zN hr2 (zN (HW.out.2.1.trans (k2.below HW.out.2.1.size fun k hk hs=>J)) (zN hbk hp.1)));clear hr2 k2 hbk hp hs hw2 hcon eg hall;go_wp2_with fail;go_ret;refine⟨d',some ⟨gd,0,none⟩,c,by rw[HF.out.2.2.2];rfl,?_,HF.out.2.1,HF.out.2.2.1⟩;rw[HF.out.2.2.2];exact HF.out.1
  ·have k2:Keeps (fun q=>q=w.heap.size) wr w2:=(Keeps.refl _ _).grown hg2 (fun k e _=>by injection e with e;exact e.symm)
   have hne:∀ q,(Value.slice A d.size c).ownBlock=some q->q≠w.heap.size:=fun q hq e=>by
    obtain⟨A',c',e1,-,hg'⟩:=aH HW.out.1;rcases HW.out.1.2 with ⟨hv,-⟩ | ⟨g',cap,cur,hv,-,hh,-⟩
    ·rw[hv] at hq;cases hq
    ·rw[hv] at hq
     have:g'=q:=by simpa [Value.ownBlock] using hq
     subst this;rw[e] at hh
     exact xH HN.out.1 (t:=197) hh
   have hr2:=aG HW.out.1 k2 hne;have hb2:Below w.heap.size w w2:=HW.out.2.1.trans (k2.below HW.out.2.1.size fun k hk hs=>J);have hG2:=HD.out.1.call hb2;have hxb:=HD.out.2.2.1 x (by rw[hxa];rfl);have dW:IntKind.i64.wrap (x+W)=x+W:=by simp only[IntKind.wrap_i64];omega
   obtain⟨z,hz⟩:∃ z,z=wr.heap.size:=⟨_,rfl⟩
   have oz:=Own.bn w2 (hz.trans hs2.symm) 195 #[Z a.n,Z (aj a.s),.int .u64 (au a.s),Z a.lo,Z a.hi,Z a.f.t,Z a.f.v,Z a.f.s,Z a.l.t,Z a.l.v,Z a.l.s]
   rw[<-hz];have HZ:=zh (zN hr2 (zN hb2 (zN hG2 (zN hxa (zN hnx (zN hL2 (zN hrg2 (zN hlt2 (zN hne hz)))))))));clear k2 hne hr2 hb2 hG2 hxa hnx hL2 hrg2 hlt2 hg2 hs2 hen2 hz;refine aC (Own w2 [(z,195,#[Z a.n,Z (aj a.s),.int .u64 (au a.s),Z a.lo,Z a.hi,Z a.f.t,Z a.f.v,Z a.f.s,Z a.l.t,Z a.l.v,Z a.l.s])]) oz ?_;clear oz;intro w3 h3;have hS:ay w3.drew g 394 #[Z W,Z W,Z O,.map (some M)]/\ay w3.drew z 195 #[Z a.n,Z (aj a.s),.int .u64 (au a.s),Z a.lo,Z a.hi,Z a.f.t,Z a.f.v,Z a.f.s,Z a.l.t,Z a.l.v,Z a.l.s]:=⟨(HZ.out.2.2.1.call h3.av).blk.drew,(h3.get 0 rfl).drew⟩
   have hsz:=HW.out.2.2.2.2;have hr3:=aG HZ.out.1 (S:=fun _=>False) (Keeps.of_below h3.drew.av) (fun _ _ h=>h);have hsz3:w.heap.size<=w3.drew.heap.size:=Nat.le_trans HZ.out.2.1.size h3.av.size;obtain⟨A5,c5,w5,hrun,hap⟩:=iO (P:=Tryz.prog) (w:=w3.drew) (t:=190) (ty:=190) (cs:=#[Z x,Z (x+W),Z a.n,Z (aj a.s),.int .u64 (au a.s),Z a.lo,Z a.hi,Z a.f.t,Z a.f.v,Z a.f.s,Z a.l.t,Z a.l.v,Z a.l.s]) Tryz.underlying190 lM rfl J hr3 rfl (List.all_eq_true.1 rfl) J J hsz3;have hrun':(Builtin.append_ #[190,190] 190 #[.slice A d.size c,.slice (some ⟨w3.heap.size,0,none⟩) 1 1]).run Tryz.prog ((w3.alloc (.cells #[Z x,Z (x+W),Z a.n,Z (aj a.s),.int .u64 (au a.s),Z a.lo,Z a.hi,Z a.f.t,Z a.f.v,Z a.f.s,Z a.l.t,Z a.l.v,Z a.l.s] 197)).drew)=.ok (.slice A5 (d.size+1) c5) w5:=hrun;have H3:=zh (zN h3 (zN hap (zN hr3 hsz3)));clear h3 hap hr3 hsz3 hrun hsz;have hS:(fun wx=>ay wx g 394 #[Z W,Z W,Z O,.map (some M)]/\ay wx z 195 #[Z a.n,Z (aj a.s),.int .u64 (au a.s),Z a.lo,Z a.hi,Z a.f.t,Z a.f.v,Z a.f.s,Z a.l.t,Z a.l.v,Z a.l.s]) (w3.drew):=hS;refine aA (fun wx=>ay wx g 394 #[Z W,Z W,Z O,.map (some M)]/\ay wx z 195 #[Z a.n,Z (aj a.s),.int .u64 (au a.s),Z a.lo,Z a.hi,Z a.f.t,Z a.f.v,Z a.f.s,Z a.l.t,Z a.l.v,Z a.l.s]) (by kernel_rfl) hS ?_;refine zB [0,1,2,3,4,5,6,7,8,9] ?_;iterate 10 (refine zV ?_ ?_ hS ?_;rotate_left;(intro w' hSw;have u0:=hSw.1.cell 0;go_simp<;>with_reducible rfl);try simp only[zP])
   refine zE ?_;refine zB [10,11] ?_;iterate 2 (refine zV ?_ ?_ hS ?_;rotate_left;(intro w' hSw;have hx':=hSw.2;have v0:=hx'.cell 0;have v1:=hx'.cell 1;have v2:=hx'.cell 2;have v3:=hx'.cell 3;have v4:=hx'.cell 4;have v5:=hx'.cell 5;have v6:=hx'.cell 6;have v7:=hx'.cell 7;have v8:=hx'.cell 8;have v9:=hx'.cell 9;have v10:=hx'.cell 10;go_simp<;>with_reducible rfl);try simp only[zP])
   refine zE ?_;refine zC 12 fun K HK=>?_
   go_simp;obtain⟨w4,hw4⟩:∃ w4,w4=(w3.alloc (.cells #[Z x,Z (x+W),Z a.n,Z (aj a.s),.int .u64 (au a.s),Z a.lo,Z a.hi,Z a.f.t,Z a.f.v,Z a.f.s,Z a.l.t,Z a.l.v,Z a.l.s] 197)).drew:=⟨_,rfl⟩
   rw[<-hw4] at hrun' ⊢
   have b4:Below w3.heap.size w3 w4:=by rw[hw4];exact ((Below.refl _ _).alloc (Nat.le_refl _) _).drew
   have hS4:ay w4 g 394 #[Z W,Z W,Z O,.map (some M)]/\ay w4 z 195 #[Z a.n,Z (aj a.s),.int .u64 (au a.s),Z a.lo,Z a.hi,Z a.f.t,Z a.f.v,Z a.f.s,Z a.l.t,Z a.l.v,Z a.l.s]:=⟨(HZ.out.2.2.1.call (H3.out.1.call b4).av).blk,(H3.out.1.call b4).get 0 rfl⟩
   clear hw4 b4;go_wp2_with fail;refine HK.out.zt (fun wx=>ay wx g 394 #[Z W,Z W,Z O,.map (some M)]/\ay wx z 195 #[Z a.n,Z (aj a.s),.int .u64 (au a.s),Z a.lo,Z a.hi,Z a.f.t,Z a.f.v,Z a.f.s,Z a.l.t,Z a.l.v,Z a.l.s]) (fun _ h=>h) (hS4) ?_;clear HK hS;intro hS;try simp only[zP]
   refine zC 13 fun K HK=>?_
   refine dA rfl (.tmp 16) (.tmp 28) rfl rfl rfl hrun' ?_;clear hrun';have hg3:=HZ.out.2.2.1.call H3.out.1.drew.av;have k5:=H3.out.2.1.keeps;have ng:=own_ne H3.out.2.2.1 hg3.blk (show 197≠394 by decide);have nz:=own_ne H3.out.2.2.1 (H3.out.1.drew.get 0 rfl) (show 197≠195 by decide);refine HK.out.zt (fun wx=>ay wx g 394 #[Z W,Z W,Z O,.map (some M)]/\ay wx z 195 #[Z a.n,Z (aj a.s),.int .u64 (au a.s),Z a.lo,Z a.hi,Z a.f.t,Z a.f.v,Z a.f.s,Z a.l.t,Z a.l.v,Z a.l.s]) (fun _ h=>h) (⟨hg3.blk.keeps k5 ng,(H3.out.1.drew.get 0 rfl).keeps k5 nz⟩) ?_;clear HK hS;intro hS;try simp only[zP]
   refine zt 14 hS ?_;try simp only[zP]
   refine zD ?_;try simp only[zP]
   clear hS hg3 k5 ng nz hS4;go_wp2_with fail
   go_roundw
   case rel=>
    have hge:∀ q,(Value.slice A d.size c).ownBlock=some q->w.heap.size<=q:=fun q hq=>by
     rcases HW.out.1.2 with ⟨hv,-⟩ | ⟨g',cap,cur,hv,hB',-⟩
     ·rw[hv] at hq;cases hq
     ·rw[hv] at hq
      have:g'=q:=by simpa [Value.ownBlock] using hq
      omega
    have hrg5:=nV (nV HZ.out.2.2.2.2.2.2.1 (S:=fun _=>False) (Keeps.of_below H3.out.1.drew.av) (fun h=>h) (fun h=>h)) H3.out.2.1.keeps (fun e=>by have:=hge _ e;omega) (fun e=>HZ.out.2.2.2.2.2.2.2.2.1 _ e rfl);have hmap:(d.push (x,a)).toList.map (·.1)=d.toList.map (·.1) ++ [x]:=by simp
    refine⟨d.push (x,a),A5,c5,left2,cnt2,by rw[Array.size_push],?_,H3.out.2.1.av H3.out.2.2.1 (HZ.out.2.1.trans (H3.out.1.drew.av.mono HZ.out.2.1.size)) H3.out.2.2.2,hrg5,?_,?_,?_,?_⟩
    ·rw[Array.size_push,yT (xY W)]
     exact H3.out.2.1.row
    ·rw[hmap];exact HZ.out.2.2.2.2.2.1
    ·have h1:=HZ.out.2.2.2.2.2.2.2.1
     have h2:=HW.out.2.2.2.2;rw[Array.size_push];omega
    ·intro p hp
     rw[Array.toList_push] at hp
     rcases List.mem_append.1 hp with hp | hp
     ·exact HW.out.2.2.1 p hp
     ·obtain rfl:=List.mem_singleton.1 hp
      exact HZ.out.2.2.2.1
    ·rw[hmap]
     refine List.nodup_append.2 ⟨HW.out.2.2.2.1,by simp,fun p hp q hq e=>?_⟩;obtain rfl:=List.mem_singleton.1 hq;exact HZ.out.2.2.2.2.1 (e ▸ hp)
   case measure=>
    have hrg5:=nV (nV HZ.out.2.2.2.2.2.2.1 (S:=fun _=>False) (Keeps.of_below H3.out.1.drew.av) (fun h=>h) (fun h=>h)) H3.out.2.1.keeps (fun e=>by
     rcases HW.out.1.2 with ⟨hv,-⟩ | ⟨g',cap,cur,hv,hB',-⟩
     ·rw[hv] at e;cases e
     ·rw[hv] at e
      have:g'=M:=by simpa [Value.ownBlock] using e
      omega) (fun e=>HZ.out.2.2.2.2.2.2.2.2.1 _ e rfl)
    rw[hrg5.left_eq,HN.out.1.left_eq];exact HZ.out.2.2.2.2.2.2.2.1
theorem mK(w:World)(t:Int)(ht:aP t): Calls Tryz.prog 261 #[Z t] w fun e w'=>e=.returned (.bool true)/\Below w.heap.size w w':=by
 have d1:decide (-1152921504606846976<=t)=true:=by simp;exact ht.1
 have d2:decide (t<=1152921504606846976)=true:=by simp;exact ht.2
 clear ht
 go_enter Tryz.func261,Tryz.ntmps261
 go_wp2_with fail;go_ret;exact⟨rfl,Below.refl _ _⟩
theorem LK(w:World)(p:Pt)(ht:aP p.t): Calls Tryz.prog 310 #[.agg #[Z p.t,Z p.v,Z p.s]] w fun e w'=>e=.returned (.bool false)/\Below w.heap.size w w':=by
 obtain⟨x,hx⟩:∃ x,x=w.heap.size:=⟨_,rfl⟩
 have o0:=Own.bn w hx 149 #[Z p.t,Z p.v,Z p.s]
 have HD:=zh (zN o0 ht);clear o0 ht;have nt:∀ w:World,(Op.unary .not (.bool true)).run Tryz.prog w=.ok (.bool false) w:=bJ
 go_enter Tryz.func310,Tryz.ntmps310
 go_upto_region 1 with (fail)
 rw[<-hx];clear hx;refine aC (Own w [(x,149,#[Z p.t,Z p.v,Z p.s])]) HD.out.1 ?_;intro w1 h1;have H1:=zh h1;have z0_0:=h1.c3 0;clear h1;go_wp2_with fail;refine(mK w1 p.t HD.out.2).mono ?_;rintro e w2 ⟨rfl,hb⟩;have H2:=zh (H1.out.call hb);clear hb z0_0;go_wp2_with fail;go_ret;exact⟨rfl,H2.out.av⟩
theorem F6(w:World)(A:Option Addr)(n c:Nat)(f:Nat->Pt)(D:Nat->Prop)(hsl:dN w D A n f)(hn:n<=1000000)(ht:∀ j,j < n->aP (f j).t):
  Calls Tryz.prog 354 #[.slice A n c,.func (.func 310) #[] #[]] w fun e w'=>e=.returned (Z (-1))/\Below w.heap.size w w':=by
 have HS:=zh (zN hsl ht);clear hsl ht
 go_enter Tryz.func354,Tryz.ntmps354
 go_wp2_with fail
 go_loopw [8] (fun i wr=>∃ k:Nat,k<=n/\i=Z (k:Nat)/\Below w.heap.size w wr) (fun i _=>n-(intOf i).toNat)
 case atStart=>exact ⟨0,Nat.zero_le _,rfl,Below.refl _ _⟩
 case round=>
  obtain⟨k,hk,rfl,hb⟩:=hrel
  by_cases hlt:k < n
  ·have hki:(k:Int) < (n:Int):=J
   obtain⟨bb,off,rfl,-,hc⟩:=(HS.out.1.below hb) J;obtain⟨u0,u1,u2⟩:=hc k hlt;have hp:=HS.out.2 k hlt;obtain⟨p,hpe⟩:∃ p,p=f k:=⟨_,rfl⟩
   rw[<-hpe] at u0 u1 u2 hp
   have HB:=zh (zN hb hp);clear hb hc hp hpe;go_wp2_with fail;refine(LK wr p HB.out.2).mono ?_;rintro e w2 ⟨rfl,hb2⟩;have H2:=zh (HB.out.1.trans (hb2.mono HB.out.1.size));clear hb2 u0 u1 u2;go_wp2_with fail
   go_roundw
   case rel=>exact ⟨k+1,J,by go_num,H2.out⟩
   case measure=>simp[intOf]<;>omega
  ·obtain rfl:k=n:=J
   have HB:=zh hb;clear hb;go_wp2_with fail;go_ret;exact⟨rfl,HB.out⟩
theorem AB(w:World)(A:Option Addr)(n c:Nat)(f:Nat->Pt)(D:Nat->Prop)(hsl:dN w D A n f)(hn:n<=1000000)(ht:∀ j,j < n->aP (f j).t):
  Calls Tryz.prog 311 #[.slice A n c,.func (.func 310) #[] #[]] w fun e w'=>e=.returned (.bool false)/\Below w.heap.size w w':=by
 have HC:=zh (F6 w A n c f D hsl hn ht);clear hsl ht
 go_enter Tryz.func311,Tryz.ntmps311
 go_wp2_with fail;refine HC.out.mono ?_;rintro e w2 ⟨rfl,hb2⟩;have H2:=zh hb2;clear hb2;go_wp2_with fail;go_ret;exact⟨rfl,H2.out⟩
def dS(W O:Int)(f:Nat->Pt): Nat->Int->Option Ag
 | 0=>fun _=>none
 | k+1=>dR (dS W O f k) (aD W O (f k).t) (bE ((dS W O f k (aD W O (f k).t)).getD aQ) (bR (f k))).1
theorem Bl: iq aQ 0:=⟨rfl,by simp[aQ],by unfold bI aQ;simp,by unfold bI aQ;simp⟩
theorem uV(W O:Int)(f:Nat->Pt)(hf:∀ j,eU (f j)): ∀ k,k<=1000000->∀ x,∃ m,m<=k/\iq ((dS W O f k x).getD aQ) m/\((dS W O f k x).isSome=true->1<=m)
 | 0,_,x=>⟨0,Nat.le_refl _,Bl,fun h=>by cases h⟩
 | k+1,hk,x=>by
  obtain⟨m,h1,h2,h3⟩:=uV W O f hf k J x
  by_cases e:x=aD W O (f k).t
  ·subst e
   refine⟨m+1,J,?_,fun _=>J⟩;have:dS W O f (k+1) (aD W O (f k).t)=some (bE ((dS W O f k (aD W O (f k).t)).getD aQ) (bR (f k))).1:=by show dR _ _ _ _=_;unfold dR;rw[if_pos rfl]
   rw[this];exact h2.step (hf k) J
  ·have:dS W O f (k+1) x=dS W O f k x:=by show dR _ _ _ _=_;unfold dR;rw[if_neg e]
   rw[this];exact⟨m,J,h2,h3⟩
theorem Lx(W O:Int)(f:Nat->Pt)(hf:∀ j,eU (f j))(k:Nat)(hk:k < 1000000): kU ((dS W O f k (aD W O (f k).t)).getD aQ)/\bE ((dS W O f k (aD W O (f k).t)).getD aQ) (bR (f k))=((bE ((dS W O f k (aD W O (f k).t)).getD aQ) (bR (f k))).1,0):=by
 obtain⟨m,h1,h2,-⟩:=uV W O f hf k J (aD W O (f k).t);refine⟨h2.ok J,?_⟩;rw[qE h2 (hf k) J]
theorem wC(W O:Int)(f:Nat->Pt): ∀ k x,(dS W O f k x).isSome=true->∃ j,j < k/\x=aD W O (f j).t
 | 0,x,h=>by cases h
 | k+1,x,h=>by
  by_cases e:x=aD W O (f k).t
  ·exact ⟨k,J,e⟩
  ·have:dS W O f (k+1) x=dS W O f k x:=by show dR _ _ _ _=_;unfold dR;rw[if_neg e]
   rw[this] at h
   obtain⟨j,h1,h2⟩:=wC W O f k x h;exact⟨j,J,h2⟩
theorem MB{p:Pt}(h:eU p): kU (bR p):=by
 obtain⟨h1,h2,h3⟩:=h;refine⟨by unfold bR bI;simp,?_,h2,h2⟩;unfold bI at h2
 unfold bR dK;simp only;omega
end
section
open Go.RowKit Go.Maps
theorem gT.g{D:DataW Value}{s:ByteArray->Option Value}{c:Nat}(h:gT D s c): mE fV D s c:=⟨h.im,h.ti,h.has,h.val,h.sz⟩
theorem Ep(y x:ByteArray): (fV y).sameKey (fV x)=decide (y=x):=by
 by_cases e:y=x
 ·subst e
  rw[decide_eq_true rfl];exact WideAt.sameKey_self (sI y)
 ·rw[decide_eq_false e]
  unfold fV;simp[Lit.sameKey,e];exact fun h=>e (ByteArray.ext h)
theorem Gf(s p:ByteArray)(w:World): Calls Tryz.prog 120 #[.string s,.string p] w fun e w'=>e=.returned (.bool (Lib.hasPrefix s.data.toList p.data.toList))/\w'=w:=by
 rw[<-Lib.hasPrefix_of_take,<-Lib.size_eq,<-Lib.size_eq]
 go_enter Tryz.func120,Tryz.ntmps120
 go_wp2
 ·rename_i h
  go_ret;refine⟨?_,rfl⟩;show Ending.returned (Value.bool ((s.extract 0 p.size).toList == p.toList))=_
  rw[Lib.extract_toList,Lib.toList_data];simp[h]
 ·rename_i h
  go_ret;refine⟨?_,rfl⟩;show Ending.returned (Value.bool false)=_
  simp[h]
def O7(b:Bool)(nm:ByteArray): List Value:=if b then [.string nm] else []
def Nq(w:World)(b:Bool)(nm:ByteArray)(e:Ending)(w':World): Prop:=
 ∃ (A1:Option Addr) (c1:Nat),e=.returned (.slice A1 b.toNat c1)/\w'.ownsRow w.heap.size 9 1 (.slice A1 b.toNat c1) b.toNat (O7 b nm)/\Below w.heap.size w w'/\(b=false->A1=none/\c1=0)
theorem BQ(w:World)(d M:Nat)(s nm:ByteArray)(p:ByteArray->Option FS)(room:Nat)(used:Int)(ops c:Nat)(hD:aS w d M p room used ops c)(hin:∀ t,(p t).isSome=true->(Lib.hasPrefix t.data.toList s.data.toList=decide (t=nm))):
  Calls Tryz.prog 54 #[.pointer (some ⟨d,0,none⟩),.string s] w (Nq w (p nm).isSome nm):=by
 have HD:=zh (zN hD hin);clear hD hin
 go_enter Tryz.func54,Tryz.ntmps54
 go_wp2_with fail;refine(oo w d M (HD.out.1.blk.cell 0)).mono ?_;rintro e w1 ⟨rfl,hb1⟩;have h1:=HD.out.1.call hb1;have u0:=h1.blk.cell 0;obtain⟨N,D,hown,hN,hF⟩:=h1.map;have H1:=zh (zN hb1 hF);clear hb1 h1 hF hN;go_wp2_with (at_range;refine wpList_range_own _ rfl _ 69 rfl 9 112 law Tryz.underlying69 _ M N _ rfl hown ?_;intro w3 hrg0 hg0 hs0)
 try go_frame
 obtain⟨r,hr⟩:∃ r,r=w1.heap.size:=⟨_,rfl⟩
 rw[<-hr] at hrg0 ⊢
 have hl3:Below w.heap.size w w3:=H1.out.1.grown hg0 H1.out.1.size (fun k hk=>by cases hk);have hM:M < w1.heap.size:=World.ownsMap.lt hown;have hrw:w.heap.size<=r:=by rw[hr];exact H1.out.1.size
 have HR:=zh (zN hrg0 (zN hl3 (zN hrw (show M≠r from by omega))));clear hrg0 hl3 hr hg0 hs0 hown u0 hM hrw
 go_loopw [5] (fun out wr=>∃ (L:List ByteArray) (left:Lit->Bool) (cnt:Nat) (b:Bool) (A1:Option Addr) (c1:Nat),out=.slice A1 b.toNat c1/\wr.ranges Tryz.prog 9 eO M r N D left cnt/\kI fV (dG p) L left/\Below w.heap.size w wr/\wr.ownsRow w.heap.size 9 1 (.slice A1 b.toNat c1) b.toNat (O7 b nm)/\(b=true↔nm ∈ L)/\(∀ x ∈ L,(p x).isSome=true)/\(b=false->A1=none/\c1=0)) (fun _ wr=>wr.rangeLeft M r)
 case atStart=>exact ⟨[],_,_,false,none,0,rfl,HR.out.1,kI.start H1.out.2.g,HR.out.2.1,World.ownsRow_nil _ _ _ _,⟨(fun h=>nomatch h),(fun h=>nomatch h)⟩,(fun x hx=>by cases hx),fun _=>⟨rfl,rfl⟩⟩
 case round=>
  obtain⟨L,left,cnt,b,A1,c1,rfl,hrg,hL,hb,hrow,hbL,hsub,h0⟩:=hrel;have HW:=zh (zN hb (zN hrow (zN hbL (zN hsub h0))));have HN:=zh (zN hrg hL);clear hb hrow hbL hsub hrg hL h0;go_wp2_with (at_next;refine EW law Value.string (fun key kl h=>(lX h).imp fun _ h=>h.1) (fun x k h=>by obtain ⟨s',e1,rfl⟩:=lX h;injection e1 with e1;rw[e1]) Ep rfl _ rfl H1.out.2.g r L left cnt HN.out.2 rfl HN.out.1 (fun hdone=>?_) ?_;rotate_left;(intro x v w2 left2 cnt2 hx hnx hL2 hrg2 hlt2 hg2 hs2 hen2);rotate_left)
  ·have hb1:b=(p nm).isSome:=by
    cases hc:(p nm).isSome with
    | true=>exact HW.out.2.2.1.2 (hdone nm (by unfold dG;rw[Option.isSome_map];exact hc))
    | false=>
     cases b with
     | false=>rfl
     | true=>
      have:=HW.out.2.2.2.1 nm (HW.out.2.2.1.1 rfl);rw[hc] at this
      cases this
   have HB:=zh hb1;clear hb1 hdone;refine(pW wr b.toNat c1 A1 (by cases b<;>decide)).mono ?_;rintro e w5 ⟨rfl,hb5⟩;have H5:=zh (zN (V.cO HW.out.2.1 hb5) (V.aB HW.out.1 hb5));clear hb5;go_wp2_with fail;go_ret;refine⟨A1,c1,?_,?_,H5.out.2,?_⟩
   ·rw[<-HB.out];rfl
   ·rw[<-HB.out];exact H5.out.1
   ·rw[<-HB.out];exact HW.out.2.2.2.2
  ·have hxs:(p x).isSome=true:=by
    unfold dG at hx
    cases hp:p x with
    | none=>rw[hp] at hx;cases hx
    | some a=>rfl
   have hpre:=HD.out.2 x hxs;have hl2:Below w.heap.size w w2:=HW.out.1.grown hg2 HW.out.1.size (fun k hk=>by injection hk with hk;rw[<-hk];exact HR.out.2.2.1);have hne:∀ g,(Value.slice A1 b.toNat c1).ownBlock=some g->g≠r:=fun g hg e=>by
    rcases HW.out.2.1.2 with ⟨hv,-⟩ | ⟨g',cap,cur,hv,-,hh,-⟩
    ·rw[hv] at hg;cases hg
    ·rw[hv] at hg
     have:g'=g:=by simpa [Value.ownBlock] using hg
     subst this;rw[e] at hh
     exact xH HN.out.1 (t:=9) hh
   have hrow2:=aG HW.out.2.1 ((Keeps.refl (fun q=>q=r) wr).grown hg2 (fun k e _=>by injection e with e;exact e.symm)) hne;have H2:=zh (zN hl2 (zN hrow2 (zN hrg2 (zN hL2 (zN hlt2 (zN hg2 (zN hxs (zN hnx hpre))))))));clear hl2 hrow2 hrg2 hL2 hlt2 hg2 hs2 hx hnx hne hpre hxs;go_wp2_with fail;refine(Gf x s w2).mono ?_;rintro e w3 ⟨rfl,rfl⟩;rw[H2.out.2.2.2.2.2.2.2.2]
   by_cases hxn:x=nm
   ·subst hxn
    rw[decide_eq_true rfl];obtain rfl:b=false:=by
     cases b with
     | false=>rfl
     | true=>exact absurd (HW.out.2.2.1.1 rfl) H2.out.2.2.2.2.2.2.2.1
    obtain⟨rfl,rfl⟩:=HW.out.2.2.2.2 rfl;go_wp2_with (at_builtin;refine bW (f:=fun _=>.string x) (D:=fun q=>q=w3.heap.size) (base:=w.heap.size) (n:=0) (xs:=[]) Bf rfl (.tmp 21) (.tmp 23) rfl rfl rfl ?hown ?hsl ?h1 ?h63 ?hby ?hbase ?_)
    case hown=>exact V.cO H2.out.2.1 ((Below.refl _ _).alloc (Nat.le_refl _) _)
    case hsl=>exact oF w3 _ _
    case h1=>intro j _;rfl
    case h63=>unfold maxLen;omega
    case hby=>omega
    case hbase=>have:=H2.out.1.size;simp;omega
    intro v5 w5 ho5 hg5 hx5;obtain⟨A5,c5,hv5,hc5,-⟩:=aH ho5;subst hv5;have hb5:Below w.heap.size w w5:=(H2.out.1.alloc H2.out.1.size _).grown hg5 (Nat.le_trans H2.out.1.size (by simp)) (fun k hk=>by
     have:=(World.ownsRow.lt H2.out.2.1 k hk).1;omega)
    have hr5:=(H2.out.2.2.1.alloc (.cells #[.string x] 9)).kept hg5 (by simp[Value.ownBlock]) (by simp[Value.ownBlock]);have H5:=zh (zN ho5 (zN hr5 hb5));clear ho5 hg5 hx5 hb5 hr5;go_wp2_with fail
    go_roundw
    case rel=>
     refine⟨L ++ [x],left2,cnt2,true,A5,c5,rfl,H5.out.2.1,H2.out.2.2.2.1,H5.out.2.2,H5.out.1,?_,?_,fun h=>by cases h⟩
     ·simp
     ·intro y hy
      rcases List.mem_append.1 hy with hy | hy
      ·exact HW.out.2.2.2.1 y hy
      ·rw[List.mem_singleton.1 hy]
       exact H2.out.2.2.2.2.2.2.1
    case measure=>
     rw[H5.out.2.1.left_eq,HN.out.1.left_eq];exact H2.out.2.2.2.2.1
   ·rw[decide_eq_false hxn]
    go_wp2_with fail
    go_roundw
    case rel=>
     refine⟨L ++ [x],left2,cnt2,b,A1,c1,rfl,H2.out.2.2.1,H2.out.2.2.2.1,H2.out.1,H2.out.2.1,?_,?_,HW.out.2.2.2.2⟩
     ·rw[HW.out.2.2.1,List.mem_append,List.mem_singleton]
      exact⟨.inl,fun h=>h.resolve_right (fun e=>hxn e.symm)⟩
     ·intro y hy
      rcases List.mem_append.1 hy with hy | hy
      ·exact HW.out.2.2.2.1 y hy
      ·rw[List.mem_singleton.1 hy]
       exact H2.out.2.2.2.2.2.2.1
    case measure=>
     rw[H2.out.2.2.1.left_eq,HN.out.1.left_eq];exact H2.out.2.2.2.2.1
end
section
open Go.RowKit Go.Maps A
def Af(w:World)(W:Int)(s:Int->Option Ag)(e:Ending)(w':World): Prop:=
 ∃ (d:Array (Int × Ag)) (A:Option Addr) (c:Nat),e=.returned (.tuple #[.slice A d.size c,Z 0])/\w'.ownsRow w.heap.size 197 13 (.slice A d.size c) d.size (Sort.flatK (oJ W) 13 d).toList/\Below w.heap.size w w'/\jG s d
theorem CJ(w:World)(A:Option Addr)(n c:Nat)(f:Nat->Pt)(W O:Int)(hsl:dN w (fun q=>q < w.heap.size) A n f)(hn:n<=900)(hf:∀ j,eU (f j))(ht:∀ j,j < n->aP (f j).t)(hk:bP W O):
  Calls Tryz.prog 242 #[.slice A n c,.agg (bX W O)] w (Af w W (dS W O f n)):=by
 obtain⟨x,hx⟩:∃ x,x=w.heap.size:=⟨_,rfl⟩
 have o0:=Own.bn w hx 211 (bX W O);have hmm:=@run_makeMap Tryz.prog;have HD:=zh (zN o0 (zN hsl (zN hf (zN ht hk))));have nt:∀ w:World,(Op.unary .not (.bool true)).run Tryz.prog w=.ok (.bool false) w:=bJ
 clear o0 hsl hf ht hk;unfold bX
 go_enter Tryz.func242,Tryz.ntmps242
 go_upto_region 1 with (fail)
 rw[<-hx];clear hx;refine aC (Own w [(x,211,bX W O)]) HD.out.1 ?_;intro w1 h1;have H1:=zh h1;have z0_0:=h1.c3 0;clear h1;go_wp2_with fail;refine(gH w1 W O HD.out.2.2.2.2).mono ?_;rintro e w2 ⟨rfl,hb2⟩;have H2:=zh (H1.out.call hb2);clear hb2 z0_0;go_wp2_with fail;refine(AB w2 A n c f _ (HD.out.2.1.below H2.out.av) J HD.out.2.2.2.1).mono ?_;rintro e w3 ⟨rfl,hb3⟩;have h3:=H2.out.call hb3;have H3:=zh h3;have z0_0:=h3.c3 0;clear hb3 h3;go_upto_region 5 with (fail)
 clear z0_0;obtain⟨M,hM⟩:∃ M,M=w3.heap.size:=⟨_,rfl⟩
 have hG0:eT w.heap.size w (M+1) M W O (dS W O f 0) 0 ((w3.alloc (.map #[] 0)).alloc (.cells #[Z W,Z W,Z O,.map (some M)] 394)):=by
  have hsz:=H3.out.av.size;refine⟨?_,⟨0,.map [],?_,Nat.le_refl _,mE.nil⟩,?_,J,J,Nat.le_refl _⟩
  ·have h:=ay.fresh (w3.alloc (.map #[] 0)) 394 #[Z W,Z W,Z O,.map (some M)]
   rw[show (w3.alloc (.map #[] 0)).heap.size=M+1 by rw[hM];simp] at h
   exact h
  ·rw[hM]
   exact(World.ownsMap_made _ _ _ _:World.ownsMap _ _ _ _ _ _ _).alloc _
  ·exact (H3.out.av.alloc hsz _).alloc (by simp;omega) _
 rw[<-hM];refine aC (eT w.heap.size w (M+1) M W O (dS W O f 0) 0) hG0 ?_;clear hG0 hM;intro w4 h4;have H4:=zh h4;clear h4;go_wp2_with fail
 go_loopw [25] (fun i wr=>∃ k:Nat,k<=n/\i=Z (k:Nat)/\eT w.heap.size w (M+1) M W O (dS W O f k) k wr) (fun i _=>n-(intOf i).toNat)
 case atStart=>exact ⟨0,Nat.zero_le _,rfl,H4.out⟩
 case round=>
  obtain⟨k,hk,rfl,hG⟩:=hrel
  by_cases hlt:k < n
  ·have hki:(k:Int) < (n:Int):=J
   obtain⟨bb,off,rfl,-,hc⟩:=(HD.out.2.1.below hG.av) J;obtain⟨u0,u1,u2⟩:=hc k hlt;have hp:=HD.out.2.2.2.1 k hlt;have hpo:=HD.out.2.2.1 k;have hgm:=Lx W O f HD.out.2.2.1 k J;have hgs:dS W O f (k+1)=dR (dS W O f k) (aD W O (f k).t) (bE ((dS W O f k (aD W O (f k).t)).getD aQ) (bR (f k))).1:=rfl;obtain⟨p,hpe⟩:∃ p,p=f k:=⟨_,rfl⟩
   rw[<-hpe] at u0 u1 u2 hp hpo hgm hgs
   have HB:=zh (zN hG (zN hp (zN hpo (zN hgm hgs))));clear hc hp hpe hG hpo hgm hgs;go_upto_region 8 with (fail)
   obtain⟨y,hy⟩:∃ y,y=wr.heap.size:=⟨_,rfl⟩
   have oy:=Own.bn wr hy 149 #[Z p.t,Z p.v,Z p.s]
   rw[<-hy];refine aC (Own wr [(y,149,#[Z p.t,Z p.v,Z p.s])]) oy ?_;clear oy u0 u1 u2;intro w5 h5;have hS:=(h5.drew).get 0 rfl;have hof:=A.Bt p HB.out.2.2.1.v w5.drew;unfold A.qh at hof
   obtain⟨b,hbe⟩:∃ b,b=bR p:=⟨_,rfl⟩
   have hbok:=MB HB.out.2.2.1;have hgm:=HB.out.2.2.2.1;have hgs:=HB.out.2.2.2.2;rw[<-hbe] at hof hbok hgm hgs
   have hyM:y≠M:=by have:=HB.out.1.lt.2;omega
   have H5:=zh (zN h5 (zN hof (zN hbok (zN hgm (zN hgs hyM)))));clear h5 hof hbe hbok hgm hgs hy;have hS:(fun wx=>ay wx y 149 #[Z p.t,Z p.v,Z p.s]) (w5.drew):=hS;refine aA (fun wx=>ay wx y 149 #[Z p.t,Z p.v,Z p.s]) (by kernel_rfl) hS ?_;refine zB [0,1,2,3] ?_;iterate 4 (refine zV ?_ ?_ hS ?_;rotate_left;(intro w' hSw;have v0:=hSw.cell 0;have v1:=hSw.cell 1;have v2:=hSw.cell 2;go_simp<;>with_reducible rfl);try simp only[zP])
   refine zE ?_;refine zC 4 fun K HK=>?_
   go_simp;refine(H5.out.2.1).mono ?_;rintro e w6 ⟨rfl,hb⟩;have h6:=H5.out.1.drew.call hb;have hS6:=h6.get 0 rfl;have hG6:=HB.out.1.call h6.av;have H6:=zh (zN hG6 hS6);clear hb h6 hS6 hG6;go_wp2_with fail;refine HK.out.zt (fun wx=>ay wx y 149 #[Z p.t,Z p.v,Z p.s]) (fun _ h=>h) (H6.out.2) ?_;clear HK hS;intro hS;try simp only[zP]
   refine zC 5 fun K HK=>?_
   go_simp;refine(BO w6 w.heap.size w (M+1) M W O (dS W O f k) k p.t b _ _ H6.out.1 HD.out.2.2.2.2 HB.out.2.1 H5.out.2.2.1 rfl H5.out.2.2.2.1.1 H5.out.2.2.2.1.2 J).mono ?_;rintro e w7 ⟨rfl,hG7,k7⟩;rw[<-H5.out.2.2.2.2.1] at hG7
   have H7:=zh (zN hG7 (H6.out.2.keeps k7 H5.out.2.2.2.2.2));clear hG7 k7;go_wp2_with fail;refine HK.out.zt (fun wx=>ay wx y 149 #[Z p.t,Z p.v,Z p.s]) (fun _ h=>h) (H7.out.2) ?_;clear HK hS;intro hS;try simp only[zP]
   refine zt 6 hS ?_;try simp only[zP]
   refine zD ?_;try simp only[zP]
   clear hS;go_wp2_with fail
   go_roundw
   case rel=>exact ⟨k+1,J,by go_num,H7.out.1⟩
   case measure=>simp[intOf]<;>omega
  ·obtain rfl:k=n:=J
   have HB:=zh hG;clear hG;have hkb:∀ q,(dS W O f k q).isSome=true->-2305843009213693952<=q/\q<=2305843009213693952:=fun q hq=>by
    obtain⟨j,hj,rfl⟩:=wC W O f k q hq;have h1:=dD HD.out.2.2.2.2 (t:=(f j).t);have h2:=HD.out.2.2.2.1 j hj;have h3:=HD.out.2.2.2.2.w2;have h4:=h2.1;have h5:=h2.2;omega
   have HK:=zh hkb;clear hkb;go_wp2_with fail;refine(uI wr w.heap.size w (M+1) M W O (dS W O f k) k HB.out HD.out.2.2.2.2 HK.out J).mono ?_;rintro e w5 ⟨d,A',c',rfl,hr,hb,hbk⟩;have H5:=zh (zN (aN hr HB.out.av.size) (zN (HB.out.av.trans (hb.mono HB.out.av.size)) hbk));clear hr hb hbk;go_wp2_with fail;go_ret2;exact⟨d,A',c',rfl,H5.out⟩
theorem FC{w:World}{B:Nat}{A:Option Addr}{c:Nat}{a b:Value}(h:w.ownsRow B 277 2 (.slice A 1 c) 1 [a,b]): ∃ g,A=some ⟨g,0,none⟩/\g < w.heap.size/\w.cell? ⟨g,0,none⟩=some a/\w.cell? ⟨g,1,none⟩=some b:=by
 obtain⟨A',c',e1,-,hg⟩:=aH h;injection e1 with e1 _ e2
 subst e1;subst e2;obtain⟨g,rfl,-,h2⟩:=hg J;have r0:=h.cells (g:=g) rfl 0 _ rfl;have r1:=h.cells (g:=g) rfl 1 _ rfl;rw[iE] at r0 r1
 exact⟨g,rfl,h2,r0,r1⟩
theorem Mc(w:World)(B B':Nat)(A A':Option Addr)(c c':Nat)(l r:Int)(h1:w.ownsRow B 277 2 (.slice A 1 c) 1 [Z l,Z r])(h2:w.ownsRow B' 277 2 (.slice A' 1 c') 1 [Z l,Z r]):
  Calls Tryz.prog 327 #[.slice A 1 c,.slice A' 1 c'] w fun e w'=>e=.returned (.bool true)/\Below w.heap.size w w':=by
 obtain⟨g,rfl,hg,p0,p1⟩:=FC h1;obtain⟨g',rfl,hg',q0,q1⟩:=FC h2;have HD:=zh (zN (zN hg (zN p0 p1)) (zN hg' (zN q0 q1)));clear h1 h2 p0 p1 q0 q1
 go_enter Tryz.func327,Tryz.ntmps327
 go_wp2_with fail
 go_loopw [13] (fun i wr=>(i=Z 0\/i=Z 1)/\Below w.heap.size w wr) (fun i _=>1-(intOf i).toNat)
 case atStart=>exact ⟨.inl rfl,Below.refl _ _⟩
 case round=>
  obtain⟨hi,hb⟩:=hrel;rcases hi with rfl | rfl
  ·have HB:=zh hb
   clear hb;go_upto_region 6 with (fail)
   have hS:=HB.out.drew;have hS:(fun wx=>Below w.heap.size w wx) (wr.drew):=hS;refine aA (fun wx=>Below w.heap.size w wx) (by kernel_rfl) hS ?_;refine zB [0,1,2,3,4,5,6,7,8] ?_;iterate 9 (refine zV ?_ ?_ hS ?_;rotate_left;(intro w' hSw;have u0:=hSw.cell (p:=⟨g,0,none⟩) hg |>.trans HD.out.1.2.1;have u1:=hSw.cell (p:=⟨g,1,none⟩) hg |>.trans HD.out.1.2.2;have u2:=hSw.cell (p:=⟨g',0,none⟩) hg' |>.trans HD.out.2.2.1;have u3:=hSw.cell (p:=⟨g',1,none⟩) hg' |>.trans HD.out.2.2.2;go_simp<;>with_reducible rfl);try simp only[zP])
   refine zE ?_;refine zD ?_;try simp only[zP]
   clear hS;go_wp2_with fail
   go_roundw
   case rel=>exact ⟨.inr rfl,HB.out.drew⟩
   case measure=>simp[intOf]
  ·have HB:=zh hb
   clear hb;go_wp2_with fail;go_ret;exact⟨rfl,HB.out⟩
structure P6(W O a b:Int): Prop where
 ta:aP a
 tb:aP (b-1)
 one:aD W O a=aD W O (b-1)
theorem yX(w:World)(W O a b:Int)(x:Ag)(hk:bP W O)(h:P6 W O a b):
  Calls Tryz.prog 262 #[.agg #[Z a,Z b,Z x.n,Z (aj x.s),.int .u64 (au x.s),Z x.lo,Z x.hi,Z x.f.t,Z x.f.v,Z x.f.s,Z x.l.t,Z x.l.v,Z x.l.s],.agg (bX W O)] w fun e w'=>e=.returned (.bool true)/\Below w.heap.size w w':=by
 obtain⟨z,hz⟩:∃ z,z=w.heap.size:=⟨_,rfl⟩
 have o0:=Own.eD w hz 197 #[Z a,Z b,Z x.n,Z (aj x.s),.int .u64 (au x.s),Z x.lo,Z x.hi,Z x.f.t,Z x.f.v,Z x.f.s,Z x.l.t,Z x.l.v,Z x.l.s] 211 (bX W O)
 have db:IntKind.i64.wrap (b-1)=b-1:=by
  have h1:=h.tb.1;have h2:=h.tb.2;simp only[IntKind.wrap_i64];omega
 have h1:=fun wx=>yc wx W O a hk h.ta
 have h2:=fun wx=>yc wx W O (b-1) hk h.tb
 unfold qh at h1 h2
 rw[<-h.one] at h2
 obtain⟨L,hL⟩:∃ y,y=aD W O a:=⟨_,rfl⟩
 rw[<-hL] at h1 h2
 have HD:=zh (zN o0 (zN h1 h2));clear o0 h1 h2 hL h;unfold bX
 go_enter Tryz.func262,Tryz.ntmps262
 go_upto_region 1 with (fail)
 rw[<-hz];clear hz;refine aC (Own w [(z,197,#[Z a,Z b,Z x.n,Z (aj x.s),.int .u64 (au x.s),Z x.lo,Z x.hi,Z x.f.t,Z x.f.v,Z x.f.s,Z x.l.t,Z x.l.v,Z x.l.s]),(z+1,211,bX W O)]) HD.out.1 ?_;intro w1 o1;have H1:=zh o1;have p0:=o1.c2 0;have z1_0:=o1.c3 1;clear o1;go_wp2_with fail;refine(HD.out.2.1 w1).mono ?_;rintro e w2 ⟨⟨A,c,rfl,hr⟩,hb⟩;have o2:=H1.out.call hb;have H2:=zh (zN o2 hr);clear hb p0 z1_0 hr;have p0:=o2.c2 0;have z1_0:=o2.c3 1;clear o2;go_wp2_with fail;refine(HD.out.2.2 w2).mono ?_;rintro e w3 ⟨⟨A',c',rfl,hr'⟩,hb⟩;have H3:=zh (zN (H2.out.1.call hb) (zN (aG H2.out.2 (S:=fun _=>False) (Keeps.of_below hb) (fun _ _ h=>h)) hr'));clear hb p0 z1_0 hr';go_wp2_with fail;refine(Mc w3 _ _ A A' c c' L (L+W) H3.out.2.1 H3.out.2.2).mono ?_;rintro e w4 ⟨rfl,hb⟩;have H4:=zh (H3.out.1.call hb);clear hb;go_wp2_with fail;go_ret;exact⟨rfl,H4.out.av⟩
structure bC where
 a: Int
 b:Int
 x:Ag
instance:Inhabited bC:=⟨⟨0,0,aQ⟩⟩
def mI(q:bC): List Value:=[Z q.a,Z q.b,Z q.x.n,Z (aj q.x.s),.int .u64 (au q.x.s),Z q.x.lo,Z q.x.hi,Z q.x.f.t,Z q.x.f.v,Z q.x.f.s,Z q.x.l.t,Z q.x.l.v,Z q.x.l.s]
theorem D7(q:bC): (mI q).length=13:=rfl
theorem NV(q:bC): ∀ v ∈ mI q,v.oneCell'=true:=List.all_eq_true.1 rfl
def jw(w:World)(A:Option Addr)(n:Nat)(q:Nat->bC): Prop:=0 < n->∃ bb,A=some ⟨bb,0,none⟩/\bb < w.heap.size/\∀ j,j < n->∀ i v,(mI (q j))[i]? = some v->w.cell? ⟨bb,j*13+i,none⟩=some v
theorem jw.below{w w':World}{A:Option Addr}{n:Nat}{q:Nat->bC}(h:jw w A n q)(hb:Below w.heap.size w w'): jw w' A n q:=fun hn=>by
 obtain⟨bb,h1,h2,h3⟩:=h hn;exact⟨bb,h1,Nat.lt_of_lt_of_le h2 hb.size,fun j hj i v hv=>(hb.cell (p:=⟨bb,j*13+i,none⟩) h2).trans (h3 j hj i v hv)⟩
structure mq(W O:Int)(n:Nat)(q:Nat->bC)(m:Nat->Nat): Prop where
 one:∀ j,j < n->P6 W O (q j).a (q j).b
 tb:∀ j,j < n->aP (q j).b
 lt:∀ j,j < n->(q j).a < (q j).b
 ord:∀ j,j+1 < n->(q j).b<=(q (j+1)).a
 valid:∀ j,j < n->dM (q j).x=true
 pos:∀ j,j < n->0 < m j
 is:∀ j,j < n->iq (q j).x (m j)
 max:∀ j,j < n->m j<=1000
theorem yg{a b:Ag}{k m:Nat}(h:iq a k)(hb:iq b m)(hm:0 < m)(hk:k+m<=1000000): bE a b=((bE a b).1,0)/\iq (bE a b).1 (k+m):=by
 have h1:=h.n;have h2:=h.s;have g1:=hb.n;have g2:=hb.s;rcases Nat.eq_zero_or_pos k with h0 | h0
 ·subst h0
  have e:bE a b=(b,0):=by
   unfold bE;rw[if_neg J,if_neg J,if_pos J]
  rw[e,Nat.zero_add];exact⟨rfl,hb⟩
 ·have e:bE a b=(iH a b,0):=by
   unfold bE;rw[if_neg J,if_neg J,if_neg J,if_neg J,if_neg];rintro (hh | hh | hh)
   ·apply hh
    unfold dK;omega
   ·omega
   ·omega
  rw[e];refine⟨rfl,?_,?_,wD hb.lo h.lo,wD hb.hi h.hi⟩
  ·simp only[iH];omega
  ·simp only[iH];omega
def gQ(W O:Int)(q:Nat->bC): Nat->Int->Option Ag
 | 0=>fun _=>none
 | k+1=>dR (gQ W O q k) (aD W O (q k).a) (bE ((gQ W O q k (aD W O (q k).a)).getD aQ) (q k).x).1
theorem Ei{W O:Int}{n:Nat}{q:Nat->bC}{m:Nat->Nat}(h:mq W O n q m)(hn:n<=900): ∀ k,k<=n->∀ x,∃ c,c<=1000*k/\iq ((gQ W O q k x).getD aQ) c
 | 0,_,x=>⟨0,Nat.zero_le _,Bl⟩
 | k+1,hk,x=>by
  obtain⟨c,h1,h2⟩:=Ei h hn k J x
  by_cases e:x=aD W O (q k).a
  ·subst e
   have:gQ W O q (k+1) (aD W O (q k).a)=some (bE ((gQ W O q k (aD W O (q k).a)).getD aQ) (q k).x).1:=by show dR _ _ _ _=_;unfold dR;rw[if_pos rfl]
   rw[this];have hm:=h.max k J;exact⟨c+m k,J,(yg h2 (h.is k J) (h.pos k J) J).2⟩
  ·have:gQ W O q (k+1) x=gQ W O q k x:=by show dR _ _ _ _=_;unfold dR;rw[if_neg e]
   rw[this];exact⟨c,J,h2⟩
theorem LD{W O:Int}{n:Nat}{q:Nat->bC}{m:Nat->Nat}(h:mq W O n q m)(hn:n<=900)(k:Nat)(hk:k < n): kU ((gQ W O q k (aD W O (q k).a)).getD aQ)/\bE ((gQ W O q k (aD W O (q k).a)).getD aQ) (q k).x=((bE ((gQ W O q k (aD W O (q k).a)).getD aQ) (q k).x).1,0):=by
 obtain⟨c,h1,h2⟩:=Ei h hn k J (aD W O (q k).a);have hm:=h.max k hk;exact⟨h2.ok J,(yg h2 (h.is k hk) (h.pos k hk) J).1⟩
theorem Ht(W O:Int)(q:Nat->bC): ∀ k x,(gQ W O q k x).isSome=true->∃ j,j < k/\x=aD W O (q j).a
 | 0,x,h=>by cases h
 | k+1,x,h=>by
  by_cases e:x=aD W O (q k).a
  ·exact ⟨k,J,e⟩
  ·have:gQ W O q (k+1) x=gQ W O q k x:=by show dR _ _ _ _=_;unfold dR;rw[if_neg e]
   rw[this] at h
   obtain⟨j,h1,h2⟩:=Ht W O q k x h;exact⟨j,J,h2⟩
theorem mQ(w:World)(t:Int)(ht:aP t): Calls Tryz.prog 241 #[Z t] w fun e w'=>e=.returned (.bool true)/\Below w.heap.size w w':=by
 have d1:decide (-1152921504606846976<=t)=true:=by simp;exact ht.1
 have d2:decide (t<=1152921504606846976)=true:=by simp;exact ht.2
 clear ht
 go_enter Tryz.func241,Tryz.ntmps241
 go_wp2_with fail;go_ret;exact⟨rfl,Below.refl _ _⟩
theorem pF(w:World)(W O:Int): Calls Tryz.prog 240 #[.agg #[Z W,Z O]] w fun e w'=>e=.returned (.agg (bX W O))/\Below w.heap.size w w':=by
 obtain⟨x,hx⟩:∃ x,x=w.heap.size:=⟨_,rfl⟩
 have o0:=(Own.eD w hx 364 #[Z W,Z O] 211 #[Z 0,Z 0,Z 0])
 have HD:=zh o0;clear o0;unfold bX
 go_enter Tryz.func240,Tryz.ntmps240
 go_upto_region 1 with (fail)
 rw[<-hx];clear hx;refine aC (Own w [(x,364,#[Z W,Z O]),(x+1,211,#[Z 0,Z 0,Z 0])]) HD.out ?_;intro w1 h1;have H1:=zh h1;have z0_0:=h1.c2 0;have z1_0:=h1.c3 1;have zf:=h1.free 1 rfl;clear h1;go_wp2_with fail;have h2:=(((H1.out.set 1 0 rfl (Z W)).set 1 1 rfl (Z W)).set 1 2 rfl (Z O))
 have y0:=h2.c3 1;refine bodyPost_ret (v:=.agg #[Z W,Z W,Z O]) (by simp[results,Tryz.results240,go_sem,y0]) rfl ?_;exact⟨rfl,h2.av⟩
structure vS(W O:Int)(q:bC): Prop where
 ta:aP q.a
 tb:aP q.b
 wd:q.b=q.a+W
 off:(q.a-O).tmod W=0
 valid:dM q.x=true
 ok:kU q.x
 pos:0 < q.x.n
 fi:q.a<=q.x.f.t/\q.x.f.t < q.b
 la:q.a<=q.x.l.t/\q.x.l.t < q.b
theorem Ew(w:World)(x:Nat)(a b t:Int)(h0:w.cell? ⟨x,0,none⟩=some (Z a))(h1:w.cell? ⟨x,1,none⟩=some (Z b))(h:a<=t/\t < b): Calls Tryz.prog 356 #[Z t,.pointer (some ⟨x,0,none⟩)] w fun e w'=>e=.returned (.bool true)/\Below w.heap.size w w':=by
 have d1:decide (a<=t)=true:=decide_eq_true h.1;have d2:decide (t < b)=true:=decide_eq_true h.2;clear h
 go_enter Tryz.func356,Tryz.ntmps356
 go_wp2_with fail;go_ret;exact⟨rfl,Below.refl _ _⟩
theorem mP(w:World)(W O:Int)(q:bC)(hk:bP W O)(h:vS W O q):
  Calls Tryz.prog 314 #[.agg #[Z q.a,Z q.b,Z q.x.n,Z (aj q.x.s),.int .u64 (au q.x.s),Z q.x.lo,Z q.x.hi,Z q.x.f.t,Z q.x.f.v,Z q.x.f.s,Z q.x.l.t,Z q.x.l.v,Z q.x.l.s],.agg #[Z W,Z O]] w fun e w'=>e=.returned (.bool true)/\Below w.heap.size w w':=by
 obtain⟨a,b,y⟩:=q;obtain⟨h1,h2,h3,h4,h5,h6,h7,h8,h9⟩:=h;have hv:=A.vO y h6;rw[show dM y=true from h5] at hv
 unfold A.qb at hv
 have ha1:=h1.1;have ha2:=h1.2;have hb1:=h2.1;have hb2:=h2.2;have hw1:=hk.w1;have hw2:=hk.w2;have ho1:=hk.o1;have ho2:=hk.o2;simp only at ha1 ha2 hb1 hb2 h3 h4 h7
 have dba:IntKind.i64.wrap (b-a)=W:=by simp only[IntKind.wrap_i64];omega
 have dao:IntKind.i64.wrap (a-O)=a-O:=by simp only[IntKind.wrap_i64];omega
 have hW0:W≠0:=J;have dn:decide (0 < y.n)=true:=decide_eq_true h7;obtain⟨x,hx⟩:∃ x,x=w.heap.size:=⟨_,rfl⟩
 have o0:=Own.eD w hx 453 #[Z a,Z b,Z y.n,Z (aj y.s),.int .u64 (au y.s),Z y.lo,Z y.hi,Z y.f.t,Z y.f.v,Z y.f.s,Z y.l.t,Z y.l.v,Z y.l.s] 364 #[Z W,Z O]
 have HD:=zh (zN o0 (zN (show aP a from h1) (zN (show aP b from h2) (zN hv (zN (show a<=y.f.t/\y.f.t < b from h8) (show a<=y.l.t/\y.l.t < b from h9))))));clear o0 h1 h2 h5 h6 h8 h9 hv h7 h3
 go_enter Tryz.func314,Tryz.ntmps314
 go_upto_region 1 with (fail)
 rw[<-hx];clear hx;refine aC (Own w [(x,453,#[Z a,Z b,Z y.n,Z (aj y.s),.int .u64 (au y.s),Z y.lo,Z y.hi,Z y.f.t,Z y.f.v,Z y.f.s,Z y.l.t,Z y.l.v,Z y.l.s]),(x+1,364,#[Z W,Z O])]) HD.out.1 ?_;intro w1 h1;have H1:=zh h1;obtain⟨z0_0,z0_1,z0_2,z0_3,z0_4,z0_5,z0_6,z0_7,z0_8,z0_9,z0_10,z0_11,z0_12⟩:=h1.c13 0;have z1_0:=h1.c2 1;clear h1;go_wp2_with fail;clear z0_0 z0_1 z0_2 z0_3 z0_4 z0_5 z0_6 z0_7 z0_8 z0_9 z0_10 z0_11 z0_12 z1_0;refine(mQ w1 a HD.out.2.1).mono ?_;rintro e w2 ⟨rfl,hb⟩;have h2:=H1.out.call hb;clear hb;have H2:=zh h2;obtain⟨z0_0,z0_1,z0_2,z0_3,z0_4,z0_5,z0_6,z0_7,z0_8,z0_9,z0_10,z0_11,z0_12⟩:=h2.c13 0;have z1_0:=h2.c2 1;clear h2;go_wp2_with fail;clear z0_0 z0_1 z0_2 z0_3 z0_4 z0_5 z0_6 z0_7 z0_8 z0_9 z0_10 z0_11 z0_12 z1_0;refine(mQ w2 b HD.out.2.2.1).mono ?_;rintro e w3 ⟨rfl,hb⟩;have h3':=H2.out.call hb;clear hb;have h3:=h3';clear h3';have H3:=zh h3;obtain⟨z0_0,z0_1,z0_2,z0_3,z0_4,z0_5,z0_6,z0_7,z0_8,z0_9,z0_10,z0_11,z0_12⟩:=h3.c13 0;have z1_0:=h3.c2 1;clear h3;go_wp2_with fail;clear z0_0 z0_1 z0_2 z0_3 z0_4 z0_5 z0_6 z0_7 z0_8 z0_9 z0_10 z0_11 z0_12 z1_0;refine(HD.out.2.2.2.1 w3).mono ?_;rintro e w4 ⟨rfl,hb⟩;have h4':=H3.out.call hb;clear hb;have H4:=zh h4';obtain⟨z0_0,z0_1,z0_2,z0_3,z0_4,z0_5,z0_6,z0_7,z0_8,z0_9,z0_10,z0_11,z0_12⟩:=h4'.c13 0;have z1_0:=h4'.c2 1;clear h4';go_wp2_with fail;refine(Ew w4 x a b y.f.t z0_0 z0_1 HD.out.2.2.2.2.1).mono ?_;clear z0_0 z0_1 z0_2 z0_3 z0_4 z0_5 z0_6 z0_7 z0_8 z0_9 z0_10 z0_11 z0_12 z1_0;rintro e w5 ⟨rfl,hb⟩;have h5:=H4.out.call hb;have H5:=zh h5;obtain⟨z0_0,z0_1,z0_2,z0_3,z0_4,z0_5,z0_6,z0_7,z0_8,z0_9,z0_10,z0_11,z0_12⟩:=h5.c13 0;have z1_0:=h5.c2 1;clear h5 hb;go_wp2_with fail;refine(Ew w5 x a b y.l.t z0_0 z0_1 HD.out.2.2.2.2.2).mono ?_;clear z0_0 z0_1 z0_2 z0_3 z0_4 z0_5 z0_6 z0_7 z0_8 z0_9 z0_10 z0_11 z0_12 z1_0;rintro e w6 ⟨rfl,hb⟩;have H6:=zh (H5.out.call hb);clear hb;go_wp2_with fail;go_ret;exact⟨rfl,H6.out.av⟩
def GR(w:World)(A:Option Addr)(n:Nat)(nm:Nat->ByteArray)(At:Nat->Option Addr)(ct nn:Nat->Nat)(q:Nat->Nat->bC): Prop:=
 (0 < n->∃ bb,A=some ⟨bb,0,none⟩/\bb < w.heap.size/\∀ j,j < n->w.cell? ⟨bb,j*2,none⟩=some (.string (nm j))/\w.cell? ⟨bb,j*2+1,none⟩=some (.slice (At j) (nn j) (ct j)))/\∀ j,j < n->jw w (At j) (nn j) (q j)
theorem GR.below{w w':World}{A:Option Addr}{n:Nat}{nm:Nat->ByteArray}{At:Nat->Option Addr}{ct nn:Nat->Nat}{q:Nat->Nat->bC}(h:GR w A n nm At ct nn q)(hb:Below w.heap.size w w'): GR w' A n nm At ct nn q:=
 ⟨fun hn=>by
  obtain⟨bb,h1,h2,h3⟩:=h.1 hn;exact⟨bb,h1,Nat.lt_of_lt_of_le h2 hb.size,fun j hj=>⟨(hb.cell (p:=⟨bb,j*2,none⟩) h2).trans (h3 j hj).1,(hb.cell (p:=⟨bb,j*2+1,none⟩) h2).trans (h3 j hj).2⟩⟩,fun j hj=>(h.2 j hj).below hb⟩
theorem jw.blk{w:World}{A:Option Addr}{n:Nat}{q:Nat->bC}(h:jw w A n q){bb:Nat}(hA:A=some ⟨bb,0,none⟩)(hn:0 < n): bb < w.heap.size:=by
 obtain⟨b',h1,h2,-⟩:=h hn;rw[hA] at h1
 injection h1 with h1
 injection h1 with h1
 rw[h1];exact h2
def vL(nn:Nat->Nat): Nat->Nat
 | 0=>0
 | k+1=>vL nn k+nn k
theorem Cw(nn:Nat->Nat){i k:Nat}(h:i<=k): vL nn i<=vL nn k:=by
 induction h with
 | refl=>exact Nat.le_refl _
 | step _ ih=>exact Nat.le_trans ih (Nat.le_add_right _ _)
structure sD(W O:Int)(n:Nat)(nm:Nat->ByteArray)(nn:Nat->Nat)(q:Nat->Nat->bC): Prop where
 name:∀ j,j < n->fZ (nm j)=true
 size:∀ j,j < n->(nm j).size<=64
 rise:∀ j,j+1 < n->EJ (nm (j+1)) (nm j)=false
 pos:∀ j,j < n->0 < nn j
 tot:vL nn n<=65536
 cn:n<=1024
 bkt:∀ j,j < n->∀ i,i < nn j->vS W O (q j i)
 inc:∀ j,j < n->∀ i,i+1 < nn j->(q j i).a < (q j (i+1)).a
theorem rT(w:World)(A:Option Addr)(n c:Nat)(nm:Nat->ByteArray)(At:Nat->Option Addr)(ct nn:Nat->Nat)(q:Nat->Nat->bC)(W O:Int)(hsl:GR w A n nm At ct nn q)(hj:sD W O n nm nn q)(hk:bP W O):
  Calls Tryz.prog 245 #[.agg #[.int .i64 W,.int .i64 O],.slice A n c] w fun e w'=>e=.returned (.bool true)/\Below w.heap.size w w':=by
 obtain⟨x,hx⟩:∃ x,x=w.heap.size:=⟨_,rfl⟩
 have o0:=Own.bn w hx 364 #[.int .i64 W,.int .i64 O]
 have hn:=hj.cn;have HD:=zh (zN o0 (zN hsl (zN hj hk)));have nt:∀ w:World,(Op.unary .not (.bool true)).run Tryz.prog w=.ok (.bool false) w:=bJ
 clear o0 hsl hj hk
 go_enter Tryz.func245,Tryz.ntmps245
 go_upto_region 1 with (fail)
 rw[<-hx];clear hx;refine aC (Own w [(x,364,#[.int .i64 W,.int .i64 O])]) HD.out.1 ?_;intro w1 h1;have H1:=zh h1;clear h1;go_wp2_with fail
 go_loopw [5,12] (fun t i wr=>∃ k:Nat,k<=n/\i=.int .i64 (k:Nat)/\t=.int .i64 (vL nn k:Nat)/\Own w [(x,364,#[.int .i64 W,.int .i64 O])] wr) (fun _ i _=>n-(intOf i).toNat)
 case atStart=>exact ⟨0,Nat.zero_le _,rfl,rfl,H1.out⟩
 case round=>
  obtain⟨k,hk,rfl,rfl,hO⟩:=hrel;obtain⟨wo,rfl⟩:∃ wo,wo=wr:=⟨wr,rfl⟩
  by_cases hlt:k < n
  ·have hki:(k:Int) < (n:Int):=J
   have hsl:=HD.out.2.1.below hO.av;obtain⟨bb,rfl,hbl,hc⟩:=hsl.1 J;obtain⟨u0,u1⟩:=hc k hlt;have hq:=hsl.2 k hlt;have hv:=mZ (nm k) (by have:=HD.out.2.2.1.size k hlt;omega);rw[HD.out.2.2.1.name k hlt] at hv
   have hpr:∀ k',k=k'+1->EJ (nm k) (nm k')=false/\wo.cell? ⟨bb,k'*2,none⟩=some (.string (nm k')):=fun k' e=>by
    subst e;exact⟨HD.out.2.2.1.rise k' hlt,(hc k' J).1⟩
   have hpos:=HD.out.2.2.1.pos k hlt;have htot:vL nn k+nn k<=65536:=Nat.le_trans (Cw nn (show k+1<=n by omega)) HD.out.2.2.1.tot;have hbk:=HD.out.2.2.1.bkt k hlt;have hin:=HD.out.2.2.1.inc k hlt;obtain⟨T,hT⟩:∃ T,T=vL nn k:=⟨_,rfl⟩
   have hT2:vL nn (k+1)=T+nn k:=by rw[hT];rfl
   obtain⟨s,hs⟩:∃ s,s=nm k:=⟨_,rfl⟩
   obtain⟨Aj,hAj⟩:∃ s,s=At k:=⟨_,rfl⟩
   obtain⟨cj,hcj⟩:∃ s,s=ct k:=⟨_,rfl⟩
   obtain⟨nj,hnj⟩:∃ s,s=nn k:=⟨_,rfl⟩
   rw[<-hs] at u0 hv hpr
   rw[<-hAj,<-hnj,<-hcj] at u1
   rw[<-hnj] at hpos htot hbk hin hT2
   rw[<-hAj,<-hnj] at hq
   rw[<-hT] at htot ⊢
   have dT:IntKind.i64.wrap ((T:Int)+(nj:Int))=((T+nj:Nat):Int):=by simp only[IntKind.wrap_i64];omega
   have dT2:decide ((65536:Int) < ((T+nj:Nat):Int))=false:=decide_eq_false J;have HB:=zh (zN hO (zN hq (zN hv (zN hpr (zN hbk (zN hin (zN hT2 hbl)))))));clear hO hsl hc hq hv hpr hbk hin hT2 hbl hs hAj hcj hnj hT;go_upto_region 6 with (fail)
   obtain⟨y,hy⟩:∃ y,y=wo.heap.size:=⟨_,rfl⟩
   have oy:=Own.bn wo hy 266 #[.string s,.slice Aj nj cj]
   rw[<-hy];refine aC (Own wo [(y,266,#[.string s,.slice Aj nj cj])]) oy ?_;clear oy u0 u1 hy;intro w5 h5;have hS:=h5.drew;have H5:=zh h5;clear h5;have dnj:¬ nj=0:=J;have dnj2:((nj:Int) == 0)=false:=by simp;omega
   cases k with
   | zero=>
    have hS:(Own wo [(y,266,#[.string s,.slice Aj nj cj])]) (w5.drew):=hS;refine aA (Own wo [(y,266,#[.string s,.slice Aj nj cj])]) (by kernel_rfl) hS ?_;refine zB [0,1] ?_;iterate 2 (refine zV ?_ ?_ hS ?_;rotate_left;(intro w' hSw;have v0:=hSw.c 0 0;go_simp<;>with_reducible rfl);try simp only[zP])
    refine zE ?_;refine zC 2 fun K HK=>?_
    go_simp;refine(HB.out.2.2.1 w5.drew).mono ?_;rintro e w6 ⟨rfl,hb⟩;have H6:=zh (H5.out.drew.call hb);clear hb;go_wp2_with fail;refine HK.out.zt (Own wo [(y,266,#[.string s,.slice Aj nj cj])]) (fun _ h=>h) (H6.out) ?_;clear HK hS;intro hS;try simp only[zP]
    refine zB [3,4,5,6,7] ?_;iterate 5 (refine zv hS ?_;try simp only[zP])
    refine zE ?_;refine zB [8,9,10,11,12,13,14,15,16] ?_;iterate 9 (refine zW hS ?_;try simp only[zP])
    refine zE ?_;refine zB [17,18,19,20,21,22,23,24,25,26,27,28] ?_;iterate 12 (refine zV ?_ ?_ hS ?_;rotate_left;(intro w' hSw;have v1:=hSw.c 0 1;go_simp<;>with_reducible rfl);try simp only[zP])
    refine zE ?_;refine zD ?_;try simp only[zP]
    clear hS;have h6:=H6.out;have z0_0:=h6.c2 0;clear h6;go_wp2_with fail;clear z0_0
    go_loopw [54] (fun i wr=>∃ l:Nat,l<=nj/\i=.int .i64 (l:Nat)/\Own wo [(y,266,#[.string s,.slice Aj nj cj])] wr) (fun i _=>nj-(intOf i).toNat)
    case atStart=>exact ⟨0,Nat.zero_le _,rfl,H6.out⟩
    case round=>
     obtain⟨l,hl,rfl,hO6⟩:=hrel
     by_cases hll:l < nj
     ·have hli:(l:Int) < (nj:Int):=J
      obtain⟨b2,rfl,hb2,hc2⟩:=(HB.out.2.1.below hO6.av) J;have hck:=hc2 l hll;have hbo:=HB.out.2.2.2.2.1 l hll;have hp2:∀ l',l=l'+1->(q (0) l').a < (q (0) l).a/\wr.cell? ⟨b2,l'*13,none⟩=some (.int .i64 (q (0) l').a):=fun l' e=>by
       subst e;exact⟨HB.out.2.2.2.2.2.1 l' hll,hc2 l' J 0 _ rfl⟩
      obtain⟨p,hpe⟩:∃ p,p=q (0) l:=⟨_,rfl⟩
      rw[<-hpe] at hck hbo hp2
      obtain⟨a,b,g⟩:=p;have v0:=hck 0 _ rfl;have v1:=hck 1 _ rfl;have v2:=hck 2 _ rfl;have v3:=hck 3 _ rfl;have v4:=hck 4 _ rfl;have v5:=hck 5 _ rfl;have v6:=hck 6 _ rfl;have v7:=hck 7 _ rfl;have v8:=hck 8 _ rfl;have v9:=hck 9 _ rfl;have v10:=hck 10 _ rfl;have v11:=hck 11 _ rfl;have v12:=hck 12 _ rfl;have HC:=zh (zN hO6 (zN hbo (zN hp2 hb2)));clear hc2 hck hbo hp2 hb2 hpe hO6;simp only[Nat.add_zero] at v0
      go_upto_region 11 with (fail)
      obtain⟨z,hz⟩:∃ z,z=wr.heap.size:=⟨_,rfl⟩
      have oz:=HC.out.1.alloc hz 197 #[.int .i64 a,.int .i64 b,.int .i64 g.n,.int .i64 (aj g.s),.int .u64 (au g.s),.int .i64 g.lo,.int .i64 g.hi,.int .i64 g.f.t,.int .i64 g.f.v,.int .i64 g.f.s,.int .i64 g.l.t,.int .i64 g.l.v,.int .i64 g.l.s]
      rw[<-hz];refine aC (Own wo [(y,266,#[.string s,.slice (some ⟨b2,0,none⟩) nj cj]),(z,197,#[.int .i64 a,.int .i64 b,.int .i64 g.n,.int .i64 (aj g.s),.int .u64 (au g.s),.int .i64 g.lo,.int .i64 g.hi,.int .i64 g.f.t,.int .i64 g.f.v,.int .i64 g.f.s,.int .i64 g.l.t,.int .i64 g.l.v,.int .i64 g.l.s])]) oz ?_;clear oz hz v0 v1 v2 v3 v4 v5 v6 v7 v8 v9 v10 v11 v12;intro w7 h7;have hS:=h7.drew;have H7:=zh h7;clear h7
      cases l with
      | zero=>
       have hS:(Own wo [(y,266,#[.string s,.slice (some ⟨b2,0,none⟩) nj cj]),(z,197,#[.int .i64 a,.int .i64 b,.int .i64 g.n,.int .i64 (aj g.s),.int .u64 (au g.s),.int .i64 g.lo,.int .i64 g.hi,.int .i64 g.f.t,.int .i64 g.f.v,.int .i64 g.f.s,.int .i64 g.l.t,.int .i64 g.l.v,.int .i64 g.l.s])]) (w7.drew):=hS;refine aA (Own wo [(y,266,#[.string s,.slice (some ⟨b2,0,none⟩) nj cj]),(z,197,#[.int .i64 a,.int .i64 b,.int .i64 g.n,.int .i64 (aj g.s),.int .u64 (au g.s),.int .i64 g.lo,.int .i64 g.hi,.int .i64 g.f.t,.int .i64 g.f.v,.int .i64 g.f.s,.int .i64 g.l.t,.int .i64 g.l.v,.int .i64 g.l.s])]) (by kernel_rfl) hS ?_;refine zB [0,1] ?_;iterate 2 (refine zV ?_ ?_ hS ?_;rotate_left;(intro w' hSw;obtain⟨v0,v1,v2,v3,v4,v5,v6,v7,v8,v9,v10,v11,v12⟩:=hSw.c13 1;go_simp<;>with_reducible rfl);try simp only[zP])
       refine zE ?_;refine zT 2 ?_ ?_ hS ?_;rotate_left
       ·(intro w' hSw;have hx':ay w' x 364 #[.int .i64 W,.int .i64 O]:=(HB.out.1.get 0 rfl).below hSw.av (HB.out.1.get 0 rfl).lt;have v0:=hx'.cell 0;have v1:=hx'.cell 1;go_simp<;>with_reducible rfl)
       try simp only[zP]
       refine zC 3 fun K HK=>?_
       go_simp;refine(mP w7.drew W O ⟨a,b,g⟩ HD.out.2.2.2 HC.out.2.1).mono ?_;rintro e w8 ⟨rfl,hb⟩;have H8:=zh (H7.out.drew.call hb);clear hb;go_wp2_with fail;refine HK.out.zt (Own wo [(y,266,#[.string s,.slice (some ⟨b2,0,none⟩) nj cj]),(z,197,#[.int .i64 a,.int .i64 b,.int .i64 g.n,.int .i64 (aj g.s),.int .u64 (au g.s),.int .i64 g.lo,.int .i64 g.hi,.int .i64 g.f.t,.int .i64 g.f.v,.int .i64 g.f.s,.int .i64 g.l.t,.int .i64 g.l.v,.int .i64 g.l.s])]) (fun _ h=>h) (H8.out) ?_;clear HK hS;intro hS;try simp only[zP]
       refine zB [4,5,6,7,8] ?_;iterate 5 (refine zv hS ?_;try simp only[zP])
       refine zE ?_;refine zB [9,10,11,12,13,14,15,16,17,18,19,20] ?_;iterate 12 (refine zW hS ?_;try simp only[zP])
       refine zE ?_;refine zB [21,22] ?_;iterate 2 (refine zv hS ?_;try simp only[zP])
       refine zE ?_;refine zD ?_;try simp only[zP]
       clear hS;go_wp2_with fail
       go_roundw
       case rel=>exact ⟨1,J,by first | rfl | go_num,H8.out.take 1⟩
       case measure=>simp[intOf]<;>omega
      | succ l'=>
       obtain⟨hi1,hi2⟩:=HC.out.2.2.1 l' rfl;obtain⟨pa,hpa⟩:∃ z,z=(q (0) l').a:=⟨_,rfl⟩
       rw[<-hpa] at hi1 hi2
       have el:IntKind.i64.wrap ((l':Int))=(l':Int):=by simp only[IntKind.wrap_i64];omega
       have e0:decide ((0:Int) < (l':Int)+1)=true:=decide_eq_true J;have e1:(0:Int)<=(l':Int):=J;have e2:(l':Int) < (nj:Int):=J;have e3:decide (a<=pa)=false:=decide_eq_false (Int.not_le.2 hi1);have HI:=zh hi2;clear hi1 hi2 hpa;have hS:(Own wo [(y,266,#[.string s,.slice (some ⟨b2,0,none⟩) nj cj]),(z,197,#[.int .i64 a,.int .i64 b,.int .i64 g.n,.int .i64 (aj g.s),.int .u64 (au g.s),.int .i64 g.lo,.int .i64 g.hi,.int .i64 g.f.t,.int .i64 g.f.v,.int .i64 g.f.s,.int .i64 g.l.t,.int .i64 g.l.v,.int .i64 g.l.s])]) (w7.drew):=hS;refine aA (Own wo [(y,266,#[.string s,.slice (some ⟨b2,0,none⟩) nj cj]),(z,197,#[.int .i64 a,.int .i64 b,.int .i64 g.n,.int .i64 (aj g.s),.int .u64 (au g.s),.int .i64 g.lo,.int .i64 g.hi,.int .i64 g.f.t,.int .i64 g.f.v,.int .i64 g.f.s,.int .i64 g.l.t,.int .i64 g.l.v,.int .i64 g.l.s])]) (by kernel_rfl) hS ?_;refine zB [0,1] ?_;iterate 2 (refine zV ?_ ?_ hS ?_;rotate_left;(intro w' hSw;obtain⟨v0,v1,v2,v3,v4,v5,v6,v7,v8,v9,v10,v11,v12⟩:=hSw.c13 1;go_simp<;>with_reducible rfl);try simp only[zP])
       refine zE ?_;refine zT 2 ?_ ?_ hS ?_;rotate_left
       ·(intro w' hSw;have hx':ay w' x 364 #[.int .i64 W,.int .i64 O]:=(HB.out.1.get 0 rfl).below hSw.av (HB.out.1.get 0 rfl).lt;have v0:=hx'.cell 0;have v1:=hx'.cell 1;go_simp<;>with_reducible rfl)
       try simp only[zP]
       refine zC 3 fun K HK=>?_
       go_simp;refine(mP w7.drew W O ⟨a,b,g⟩ HD.out.2.2.2 HC.out.2.1).mono ?_;rintro e w8 ⟨rfl,hb⟩;have H8:=zh (H7.out.drew.call hb);clear hb;go_wp2_with fail;refine HK.out.zt (Own wo [(y,266,#[.string s,.slice (some ⟨b2,0,none⟩) nj cj]),(z,197,#[.int .i64 a,.int .i64 b,.int .i64 g.n,.int .i64 (aj g.s),.int .u64 (au g.s),.int .i64 g.lo,.int .i64 g.hi,.int .i64 g.f.t,.int .i64 g.f.v,.int .i64 g.f.s,.int .i64 g.l.t,.int .i64 g.l.v,.int .i64 g.l.s])]) (fun _ h=>h) (H8.out) ?_;clear HK hS;intro hS;try simp only[zP]
       refine zB [4,5,6,7,8] ?_;iterate 5 (refine zv hS ?_;try simp only[zP])
       refine zE ?_;refine zB [9,10,11,12,13,14,15,16,17,18,19,20] ?_;iterate 12 (refine zV ?_ ?_ hS ?_;rotate_left;(intro w' hSw;have v0:=hSw.c 1 0;have v1:=hSw.c 0 1;have pc:=(hSw.av.cell (p:=⟨b2,l'*13,none⟩) (HB.out.2.1.blk rfl J)).trans (HC.out.1.av.cell (p:=⟨b2,l'*13,none⟩) (HB.out.2.1.blk rfl J) |>.symm.trans HI.out);go_simp<;>with_reducible rfl);try simp only[zP])
       refine zE ?_;refine zB [21,22] ?_;iterate 2 (refine zv hS ?_;try simp only[zP])
       refine zE ?_;refine zD ?_;try simp only[zP]
       clear hS;go_wp2_with fail
       go_roundw
       case rel=>exact ⟨l'+1+1,J,by first | rfl | go_num,H8.out.take 1⟩
       case measure=>simp[intOf]<;>omega
     ·obtain rfl:l=nj:=J
      have HL:=zh hO6;clear hO6;go_wp2_with fail
      go_roundw
      case rel=>exact ⟨0+1,J,by first | rfl | go_num,by rw[HB.out.2.2.2.2.2.2.1,Int.natCast_add],HB.out.1.call HL.out.av⟩
      case measure=>simp[intOf]<;>omega
   | succ k'=>
    obtain⟨hpr1,hpr2⟩:=HB.out.2.2.2.1 k' rfl;obtain⟨pb,hpb⟩:∃ z,z=nm k':=⟨_,rfl⟩
    rw[<-hpb] at hpr1 hpr2
    have dk:IntKind.i64.wrap ((k':Int))=(k':Int):=by simp only[IntKind.wrap_i64];omega
    have d0:decide ((0:Int) < (k':Int)+1)=true:=decide_eq_true J;have dk1:(0:Int)<=(k':Int):=J;have dk2:(k':Int) < (n:Int):=J;have HP:=zh (zN hpr2 hpr1);clear hpr2 hpr1 hpb;have hS:(Own wo [(y,266,#[.string s,.slice Aj nj cj])]) (w5.drew):=hS;refine aA (Own wo [(y,266,#[.string s,.slice Aj nj cj])]) (by kernel_rfl) hS ?_;refine zB [0,1] ?_;iterate 2 (refine zV ?_ ?_ hS ?_;rotate_left;(intro w' hSw;have v0:=hSw.c 0 0;go_simp<;>with_reducible rfl);try simp only[zP])
    refine zE ?_;refine zC 2 fun K HK=>?_
    go_simp;refine(HB.out.2.2.1 w5.drew).mono ?_;rintro e w6 ⟨rfl,hb⟩;have H6:=zh (H5.out.drew.call hb);clear hb;go_wp2_with fail;refine HK.out.zt (Own wo [(y,266,#[.string s,.slice Aj nj cj])]) (fun _ h=>h) (H6.out) ?_;clear HK hS;intro hS;try simp only[zP]
    refine zB [3,4,5,6,7] ?_;iterate 5 (refine zv hS ?_;try simp only[zP])
    refine zE ?_;refine zB [8,9,10,11,12,13,14,15] ?_;iterate 8 (refine zV ?_ ?_ hS ?_;rotate_left;(intro w' hSw;have v0:=hSw.c 0 0;have pc:=(hSw.av.cell (p:=⟨bb,k'*2,none⟩) HB.out.2.2.2.2.2.2.2).trans HP.out.1;go_simp<;>with_reducible rfl);try simp only[zP])
    refine zE ?_;refine lS (i:=16) (v:=.bool (EJ s pb)) rfl (by kernel_rfl) (by kernel_rfl) (by kernel_rfl) (fun _ _ _ h=>h) (Or.inl ⟨by kernel_rfl,?_⟩) hS ?_
    ·(intro w' hSw;(go_simp<;>rfl))
    try simp only[zP]
    rw[HP.out.2];refine zB [17,18,19,20,21,22,23,24,25,26,27,28] ?_;iterate 12 (refine zV ?_ ?_ hS ?_;rotate_left;(intro w' hSw;have v1:=hSw.c 0 1;go_simp<;>with_reducible rfl);try simp only[zP])
    refine zE ?_;refine zD ?_;try simp only[zP]
    clear hS;have h6:=H6.out;have z0_0:=h6.c2 0;clear h6;go_wp2_with fail;clear z0_0
    go_loopw [54] (fun i wr=>∃ l:Nat,l<=nj/\i=.int .i64 (l:Nat)/\Own wo [(y,266,#[.string s,.slice Aj nj cj])] wr) (fun i _=>nj-(intOf i).toNat)
    case atStart=>exact ⟨0,Nat.zero_le _,rfl,H6.out⟩
    case round=>
     obtain⟨l,hl,rfl,hO6⟩:=hrel
     by_cases hll:l < nj
     ·have hli:(l:Int) < (nj:Int):=J
      obtain⟨b2,rfl,hb2,hc2⟩:=(HB.out.2.1.below hO6.av) J;have hck:=hc2 l hll;have hbo:=HB.out.2.2.2.2.1 l hll;have hp2:∀ l',l=l'+1->(q (k'+1) l').a < (q (k'+1) l).a/\wr.cell? ⟨b2,l'*13,none⟩=some (.int .i64 (q (k'+1) l').a):=fun l' e=>by
       subst e;exact⟨HB.out.2.2.2.2.2.1 l' hll,hc2 l' J 0 _ rfl⟩
      obtain⟨p,hpe⟩:∃ p,p=q (k'+1) l:=⟨_,rfl⟩
      rw[<-hpe] at hck hbo hp2
      obtain⟨a,b,g⟩:=p;have v0:=hck 0 _ rfl;have v1:=hck 1 _ rfl;have v2:=hck 2 _ rfl;have v3:=hck 3 _ rfl;have v4:=hck 4 _ rfl;have v5:=hck 5 _ rfl;have v6:=hck 6 _ rfl;have v7:=hck 7 _ rfl;have v8:=hck 8 _ rfl;have v9:=hck 9 _ rfl;have v10:=hck 10 _ rfl;have v11:=hck 11 _ rfl;have v12:=hck 12 _ rfl;have HC:=zh (zN hO6 (zN hbo (zN hp2 hb2)));clear hc2 hck hbo hp2 hb2 hpe hO6;simp only[Nat.add_zero] at v0
      go_upto_region 11 with (fail)
      obtain⟨z,hz⟩:∃ z,z=wr.heap.size:=⟨_,rfl⟩
      have oz:=HC.out.1.alloc hz 197 #[.int .i64 a,.int .i64 b,.int .i64 g.n,.int .i64 (aj g.s),.int .u64 (au g.s),.int .i64 g.lo,.int .i64 g.hi,.int .i64 g.f.t,.int .i64 g.f.v,.int .i64 g.f.s,.int .i64 g.l.t,.int .i64 g.l.v,.int .i64 g.l.s]
      rw[<-hz];refine aC (Own wo [(y,266,#[.string s,.slice (some ⟨b2,0,none⟩) nj cj]),(z,197,#[.int .i64 a,.int .i64 b,.int .i64 g.n,.int .i64 (aj g.s),.int .u64 (au g.s),.int .i64 g.lo,.int .i64 g.hi,.int .i64 g.f.t,.int .i64 g.f.v,.int .i64 g.f.s,.int .i64 g.l.t,.int .i64 g.l.v,.int .i64 g.l.s])]) oz ?_;clear oz hz v0 v1 v2 v3 v4 v5 v6 v7 v8 v9 v10 v11 v12;intro w7 h7;have hS:=h7.drew;have H7:=zh h7;clear h7
      cases l with
      | zero=>
       have hS:(Own wo [(y,266,#[.string s,.slice (some ⟨b2,0,none⟩) nj cj]),(z,197,#[.int .i64 a,.int .i64 b,.int .i64 g.n,.int .i64 (aj g.s),.int .u64 (au g.s),.int .i64 g.lo,.int .i64 g.hi,.int .i64 g.f.t,.int .i64 g.f.v,.int .i64 g.f.s,.int .i64 g.l.t,.int .i64 g.l.v,.int .i64 g.l.s])]) (w7.drew):=hS;refine aA (Own wo [(y,266,#[.string s,.slice (some ⟨b2,0,none⟩) nj cj]),(z,197,#[.int .i64 a,.int .i64 b,.int .i64 g.n,.int .i64 (aj g.s),.int .u64 (au g.s),.int .i64 g.lo,.int .i64 g.hi,.int .i64 g.f.t,.int .i64 g.f.v,.int .i64 g.f.s,.int .i64 g.l.t,.int .i64 g.l.v,.int .i64 g.l.s])]) (by kernel_rfl) hS ?_;refine zB [0,1] ?_;iterate 2 (refine zV ?_ ?_ hS ?_;rotate_left;(intro w' hSw;obtain⟨v0,v1,v2,v3,v4,v5,v6,v7,v8,v9,v10,v11,v12⟩:=hSw.c13 1;go_simp<;>with_reducible rfl);try simp only[zP])
       refine zE ?_;refine zT 2 ?_ ?_ hS ?_;rotate_left
       ·(intro w' hSw;have hx':ay w' x 364 #[.int .i64 W,.int .i64 O]:=(HB.out.1.get 0 rfl).below hSw.av (HB.out.1.get 0 rfl).lt;have v0:=hx'.cell 0;have v1:=hx'.cell 1;go_simp<;>with_reducible rfl)
       try simp only[zP]
       refine zC 3 fun K HK=>?_
       go_simp;refine(mP w7.drew W O ⟨a,b,g⟩ HD.out.2.2.2 HC.out.2.1).mono ?_;rintro e w8 ⟨rfl,hb⟩;have H8:=zh (H7.out.drew.call hb);clear hb;go_wp2_with fail;refine HK.out.zt (Own wo [(y,266,#[.string s,.slice (some ⟨b2,0,none⟩) nj cj]),(z,197,#[.int .i64 a,.int .i64 b,.int .i64 g.n,.int .i64 (aj g.s),.int .u64 (au g.s),.int .i64 g.lo,.int .i64 g.hi,.int .i64 g.f.t,.int .i64 g.f.v,.int .i64 g.f.s,.int .i64 g.l.t,.int .i64 g.l.v,.int .i64 g.l.s])]) (fun _ h=>h) (H8.out) ?_;clear HK hS;intro hS;try simp only[zP]
       refine zB [4,5,6,7,8] ?_;iterate 5 (refine zv hS ?_;try simp only[zP])
       refine zE ?_;refine zB [9,10,11,12,13,14,15,16,17,18,19,20] ?_;iterate 12 (refine zW hS ?_;try simp only[zP])
       refine zE ?_;refine zB [21,22] ?_;iterate 2 (refine zv hS ?_;try simp only[zP])
       refine zE ?_;refine zD ?_;try simp only[zP]
       clear hS;go_wp2_with fail
       go_roundw
       case rel=>exact ⟨1,J,by first | rfl | go_num,H8.out.take 1⟩
       case measure=>simp[intOf]<;>omega
      | succ l'=>
       obtain⟨hi1,hi2⟩:=HC.out.2.2.1 l' rfl;obtain⟨pa,hpa⟩:∃ z,z=(q (k'+1) l').a:=⟨_,rfl⟩
       rw[<-hpa] at hi1 hi2
       have el:IntKind.i64.wrap ((l':Int))=(l':Int):=by simp only[IntKind.wrap_i64];omega
       have e0:decide ((0:Int) < (l':Int)+1)=true:=decide_eq_true J;have e1:(0:Int)<=(l':Int):=J;have e2:(l':Int) < (nj:Int):=J;have e3:decide (a<=pa)=false:=decide_eq_false (Int.not_le.2 hi1);have HI:=zh hi2;clear hi1 hi2 hpa;have hS:(Own wo [(y,266,#[.string s,.slice (some ⟨b2,0,none⟩) nj cj]),(z,197,#[.int .i64 a,.int .i64 b,.int .i64 g.n,.int .i64 (aj g.s),.int .u64 (au g.s),.int .i64 g.lo,.int .i64 g.hi,.int .i64 g.f.t,.int .i64 g.f.v,.int .i64 g.f.s,.int .i64 g.l.t,.int .i64 g.l.v,.int .i64 g.l.s])]) (w7.drew):=hS;refine aA (Own wo [(y,266,#[.string s,.slice (some ⟨b2,0,none⟩) nj cj]),(z,197,#[.int .i64 a,.int .i64 b,.int .i64 g.n,.int .i64 (aj g.s),.int .u64 (au g.s),.int .i64 g.lo,.int .i64 g.hi,.int .i64 g.f.t,.int .i64 g.f.v,.int .i64 g.f.s,.int .i64 g.l.t,.int .i64 g.l.v,.int .i64 g.l.s])]) (by kernel_rfl) hS ?_;refine zB [0,1] ?_;iterate 2 (refine zV ?_ ?_ hS ?_;rotate_left;(intro w' hSw;obtain⟨v0,v1,v2,v3,v4,v5,v6,v7,v8,v9,v10,v11,v12⟩:=hSw.c13 1;go_simp<;>with_reducible rfl);try simp only[zP])
       refine zE ?_;refine zT 2 ?_ ?_ hS ?_;rotate_left
       ·(intro w' hSw;have hx':ay w' x 364 #[.int .i64 W,.int .i64 O]:=(HB.out.1.get 0 rfl).below hSw.av (HB.out.1.get 0 rfl).lt;have v0:=hx'.cell 0;have v1:=hx'.cell 1;go_simp<;>with_reducible rfl)
       try simp only[zP]
       refine zC 3 fun K HK=>?_
       go_simp;refine(mP w7.drew W O ⟨a,b,g⟩ HD.out.2.2.2 HC.out.2.1).mono ?_;rintro e w8 ⟨rfl,hb⟩;have H8:=zh (H7.out.drew.call hb);clear hb;go_wp2_with fail;refine HK.out.zt (Own wo [(y,266,#[.string s,.slice (some ⟨b2,0,none⟩) nj cj]),(z,197,#[.int .i64 a,.int .i64 b,.int .i64 g.n,.int .i64 (aj g.s),.int .u64 (au g.s),.int .i64 g.lo,.int .i64 g.hi,.int .i64 g.f.t,.int .i64 g.f.v,.int .i64 g.f.s,.int .i64 g.l.t,.int .i64 g.l.v,.int .i64 g.l.s])]) (fun _ h=>h) (H8.out) ?_;clear HK hS;intro hS;try simp only[zP]
       refine zB [4,5,6,7,8] ?_;iterate 5 (refine zv hS ?_;try simp only[zP])
       refine zE ?_;refine zB [9,10,11,12,13,14,15,16,17,18,19,20] ?_;iterate 12 (refine zV ?_ ?_ hS ?_;rotate_left;(intro w' hSw;have v0:=hSw.c 1 0;have v1:=hSw.c 0 1;have pc:=(hSw.av.cell (p:=⟨b2,l'*13,none⟩) (HB.out.2.1.blk rfl J)).trans (HC.out.1.av.cell (p:=⟨b2,l'*13,none⟩) (HB.out.2.1.blk rfl J) |>.symm.trans HI.out);go_simp<;>with_reducible rfl);try simp only[zP])
       refine zE ?_;refine zB [21,22] ?_;iterate 2 (refine zv hS ?_;try simp only[zP])
       refine zE ?_;refine zD ?_;try simp only[zP]
       clear hS;go_wp2_with fail
       go_roundw
       case rel=>exact ⟨l'+1+1,J,by first | rfl | go_num,H8.out.take 1⟩
       case measure=>simp[intOf]<;>omega
     ·obtain rfl:l=nj:=J
      have HL:=zh hO6;clear hO6;go_wp2_with fail
      go_roundw
      case rel=>exact ⟨k'+1+1,J,by first | rfl | go_num,by rw[HB.out.2.2.2.2.2.2.1,Int.natCast_add],HB.out.1.call HL.out.av⟩
      case measure=>simp[intOf]<;>omega
  ·obtain rfl:k=n:=J
   have HB:=zh hO;clear hO;have d1:decide ((k:Int)<=1024)=true:=decide_eq_true J;go_wp2_with fail;go_ret;exact⟨rfl,HB.out.av⟩
def gZ(q:Nat->bC): Nat->List Value
 | 0=>[]
 | k+1=>gZ q k ++ mI (q k)
theorem sG(q:Nat->bC): ∀ k,(gZ q k).length=k*13
 | 0=>rfl
 | k+1=>by
  show (gZ q k ++ mI (q k)).length=_
  rw[List.length_append,sG q k,D7];omega
theorem DJ(q:Nat->bC)(j i:Nat)(hi:i < 13): ∀ k,j < k->(gZ q k)[j*13+i]? = (mI (q j))[i]?
 | 0,h=>absurd h J
 | k+1,h=>by
  have hl:=sG q k;show (gZ q k ++ mI (q k))[j*13+i]? = _
  rcases Nat.lt_or_ge j k with h1 | h1
  ·rw[List.getElem?_append_left J]
   exact DJ q j i hi k h1
  ·obtain rfl:j=k:=J
   rw[List.getElem?_append_right J,hl,show j*13+i-j*13=i by omega]
theorem Ak(q:Nat->bC): ∀ k,∀ u ∈ gZ q k,u.oneCell'=true
 | 0,u,h=>by cases h
 | k+1,u,h=>by
  rcases List.mem_append.1 h with h | h
  ·exact Ak q k u h
  ·exact NV (q k) u h
theorem qZ{q q':Nat->bC}: ∀ k,(∀ j,j < k->q j=q' j)->gZ q k=gZ q' k
 | 0,_=>rfl
 | k+1,h=>by
  show gZ q k ++ mI (q k)=gZ q' k ++ mI (q' k)
  rw[qZ k (fun j hj=>h j J),h k J]
def dL(w:World)(B:Nat)(v:Value)(q:Nat->bC)(n:Nat): Prop:=w.ownsRow B 197 13 v n (gZ q n)
theorem dL.Fx{w:World}{B n c:Nat}{A:Option Addr}{q:Nat->bC}(h:dL w B (.slice A n c) q n): jw w A n q:=fun hn=>by
 obtain⟨A',c',e,hcc,hg⟩:=aH h;injection e with ea eb ec
 obtain⟨g,hA',hb,hl⟩:=hg hn;refine⟨g,ea.trans hA',hl,fun j hj i v hv=>?_⟩;have hi:i < 13:=by
  have:=(List.getElem?_eq_some_iff.1 hv).1
  rwa [D7] at this
 have hA:A=some ⟨g,0,none⟩:=ea.trans hA';subst hA;have:=World.ownsRow.cells h (g:=g) rfl (j*13+i) v (by rw[DJ q j i hi n hj];exact hv);rw[iE] at this
 exact this
theorem jw.news{w:World}{n bb:Nat}{q:Nat->bC}(h:jw w (some ⟨bb,0,none⟩) n q): ∀ j u,(gZ q n)[j]? = some u->w.cell? ((⟨bb,0,none⟩:Addr).add j)=some u:=fun j u hu=>by
 rw[iE];have hj:j < n*13:=by
  have:=(List.getElem?_eq_some_iff.1 hu).1
  rwa [sG] at this
 have e:j=j / 13*13+j%13:=J;have hm:j%13 < 13:=Nat.mod_lt _ J;have hd:j / 13 < n:=J;obtain⟨b2,e2,hb,hc⟩:=h J;simp only[Option.some.injEq,Addr.mk.injEq] at e2
 obtain⟨rfl,-⟩:=e2;rw[e] at hu ⊢
 rw[DJ q _ _ hm n hd] at hu
 exact hc _ hd _ _ hu
def qd(W:Int)(d:Array (Int × Ag))(j:Nat): bC:=⟨(d.toList.getD j (0,aQ)).1,(d.toList.getD j (0,aQ)).1+W,(d.toList.getD j (0,aQ)).2⟩
theorem Ea(W:Int)(d:Array (Int × Ag)): (Sort.flatK (oJ W) 13 d).toList=gZ (qd W d) d.size:=by
 obtain⟨l⟩:=d;have key:∀ (m:Nat) (l:List (Int × Ag)),l.length=m->(Sort.flatK (oJ W) 13 (⟨l⟩:Array (Int × Ag))).toList=gZ (qd W ⟨l⟩) (⟨l⟩:Array (Int × Ag)).size:=by
  intro m
  induction m with
  | zero=>
   intro l hl;obtain rfl:=List.length_eq_zero_iff.1 hl;exact List.length_eq_zero_iff.1 (by rw[iy];rfl)
  | succ m ih0=>
  intro l' hl';obtain⟨l,p,rfl⟩:∃ l p,l'=l ++ [p]:=⟨l'.dropLast,l'.getLast (fun h=>by rw[h] at hl';cases hl'),(List.dropLast_concat_getLast _).symm⟩
  have ih:=ih0 l (by simpa using hl');have e:(⟨l ++ [p]⟩:Array (Int × Ag))=(⟨l⟩:Array (Int × Ag)).push p:=by simp
  rw[e,yT (xY W),Array.size_push,ih];show _=gZ _ _ ++ mI (qd W _ _)
  have h1:gZ (qd W (Array.push ⟨l⟩ p)) (Array.size ⟨l⟩)=gZ (qd W ⟨l⟩) (Array.size ⟨l⟩):=qZ _ (fun j hj=>by
   have hj:j < l.length:=hj;unfold qd;simp only[Array.toList_push,List.getD_eq_getElem?_getD,List.getElem?_append_left hj])
  rw[h1]
  congr 1
  unfold qd oJ mI;simp[List.getD_eq_getElem?_getD]
 exact key _ l rfl
def P1(w:World)(A:Option Addr)(n:Nat)(s:ByteArray)(At:Option Addr)(ct nn:Nat)(q:Nat->bC): Prop:=GR w A n (fun _=>s) (fun _=>At) (fun _=>ct) (fun _=>nn) (fun _=>q)
theorem P1.nil(w:World)(s:ByteArray)(At:Option Addr)(ct nn:Nat)(q:Nat->bC): P1 w none 0 s At ct nn q:=⟨fun h=>absurd h J,fun j hj=>absurd hj J⟩
theorem vg(w:World)(A:Option Addr)(n c:Nat)(s:ByteArray)(At:Option Addr)(ct nn:Nat)(q:Nat->bC)(h:P1 w A n s At ct nn q)(hn:n<=1):
  Calls Tryz.prog 162 #[.slice A n c] w fun e w'=>e=.returned (.bool true)/\Below w.heap.size w w':=by
 have HD:=zh h;clear h
 go_enter Tryz.func162,Tryz.ntmps162
 go_wp2_with fail
 go_loopw [7] (fun i wr=>∃ k:Nat,k<=n/\i=.int .i64 (k:Nat)/\Below w.heap.size w wr) (fun i _=>n-(intOf i).toNat)
 case atStart=>exact ⟨0,Nat.zero_le _,rfl,Below.refl _ _⟩
 case round=>
  obtain⟨k,hk,rfl,hb⟩:=hrel;obtain⟨wo,rfl⟩:∃ wo,wo=wr:=⟨wr,rfl⟩
  by_cases hlt:k < n
  ·obtain rfl:k=0:=J
   have hki:(0:Int) < (n:Int):=J;obtain⟨bb,rfl,hbl,hc⟩:=(HD.out.below hb).1 J;obtain⟨u0,u1⟩:=hc 0 hlt;simp only[Nat.zero_mul,Nat.zero_add] at u0 u1
   have HB:=zh hb;clear hb hc hbl;go_upto_region 4 with (fail)
   obtain⟨y,hy⟩:∃ y,y=wo.heap.size:=⟨_,rfl⟩
   have oy:=Own.bn wo hy 266 #[.string s,.slice At nn ct]
   rw[<-hy];refine aC (Own wo [(y,266,#[.string s,.slice At nn ct])]) oy ?_;clear oy u0 u1 hy;intro w5 h5;have hS:=h5.drew;have H5:=zh h5.drew;clear h5;have hS:(Own wo [(y,266,#[.string s,.slice At nn ct])]) (w5.drew):=hS;refine aA (Own wo [(y,266,#[.string s,.slice At nn ct])]) (by kernel_rfl) hS ?_;refine zB [0,1,2] ?_;iterate 3 (refine zv hS ?_;try simp only[zP])
   refine zE ?_;refine zB [3,4,5,6,7,8,9,10,11] ?_;iterate 9 (refine zW hS ?_;try simp only[zP])
   refine zE ?_;refine zt 12 hS ?_;try simp only[zP]
   refine zD ?_;try simp only[zP]
   clear hS;go_wp2_with fail
   go_roundw
   case rel=>exact ⟨1,J,by first | rfl | go_num,V.aB HB.out H5.out.av⟩
   case measure=>simp[intOf]<;>omega
  ·obtain rfl:k=n:=J
   have HB:=zh hb;clear hb;go_wp2_with fail;go_ret;exact⟨rfl,HB.out⟩
def lQ(b:Bool)(nm:ByteArray)(v:Value): ByteArray->Option Value:=fun y=>if b=true/\y=nm then some v else none
theorem Rt(w:World): (zeroValue 190).run Tryz.prog w=.ok (.slice none 0 0) w:=by kernel_rfl
def jv(w:World)(M:Nat)(b:Bool)(nm:ByteArray)(v:Value): Prop:=∃ N D,w.ownsMap Tryz.prog 9 eO M N D/\N<=b.toNat/\gT D (lQ b nm v) b.toNat
theorem jv.lt{w:World}{M:Nat}{b:Bool}{nm:ByteArray}{v:Value}(h:jv w M b nm v): M < w.heap.size:=by
 obtain⟨N,D,h1,-⟩:=h;exact World.ownsMap.lt h1
theorem jv.call{w w':World}{M:Nat}{b:Bool}{nm:ByteArray}{v:Value}(h:jv w M b nm v)(hb:Below w.heap.size w w'): jv w' M b nm v:=by
 obtain⟨N,D,h1,h2⟩:=h;have hM:w'.heap[M]? = w.heap[M]?:=hb.block M (World.ownsMap.lt h1);obtain⟨es,clock,e1,e2⟩:=h1;exact⟨N,D,⟨es,clock,by rw[hM];exact e1,e2⟩,h2⟩
theorem O6{b:Bool}{nm x:ByteArray}{v0 v:Value}(h:lQ b nm v0 x=some v): b=true/\x=nm/\v=v0:=by
 unfold lQ at h
 split at h
 ·rename_i hc
  injection h with h
  exact⟨hc.1,hc.2,h.symm⟩
 ·cases h
theorem mW(nm:ByteArray)(v:Value): lQ false nm v=fun _=>none:=by funext y;unfold lQ;simp
theorem Fj(nm:ByteArray)(v:Value): aV (fun _=>none) nm v=lQ true nm v:=by
 funext y
 unfold aV lQ;simp
theorem jv.made(w:World)(nm:ByteArray)(v:Value): jv (w.alloc (.map #[] 0)) w.heap.size false nm v:=
 ⟨0,.map [],World.ownsMap_made _ _ _ _,Nat.le_refl _,by rw[mW];exact gT.nil⟩
theorem jv.look{w:World}{M:Nat}{b:Bool}{nm:ByteArray}{v:Value}(h:jv w M b nm v)(hs:nm.size<=64):
  (Instr.lookup 269 (.map (some M)) (.string nm) false).run Tryz.prog w=.ok (if b=true then v else .slice none 0 0) w:=by
 obtain⟨N,D,h1,h2,h3⟩:=h;have:=vD 269 190 Tryz.underlying269 (.slice none 0 0) Rt h1 h3 nm (by unfold maxLen;omega);rw[this];unfold lQ
 cases b<;>simp
theorem jv.upd{w:World}{M:Nat}{nm:ByteArray}{v0 v:Value}(h:jv w M false nm v0)(hs:nm.size<=64):
  ∃ w',(Instr.mapUpdate 269 (.map (some M)) (.string nm) v).run Tryz.prog w=.ok () w'/\jv w' M true nm v/\w.grownBy w' (some M):=by
 obtain⟨N,D,h1,h2,h3⟩:=h;rw[mW] at h3
 have h20:N=0:=Nat.le_zero.1 h2;have hs2:nm.size<=maxLen:=by unfold maxLen;omega
 obtain⟨w',hr,hown,hg⟩:=Df (kl:=fV) law Tryz.underlying269 (show N < maxLen by unfold maxLen;omega) h1 (mO hs2) v;refine⟨w',hr,⟨N+1,_,hown,by show N+1<=1;omega,?_⟩,hg⟩;have:=h3.put nm v;rw[Fj] at this
 exact this
def SQ(b:Bool)(nm:ByteArray)(v:Value): List Value:=if b then [.string nm,v] else []
theorem vH: (Tryz.prog.info? 266).map (fun i=>(i.zero,i.size,i.bytes))=some (some (.agg #[.string ByteArray.empty,.slice none 0 0]),2,40):=by kernel_rfl
theorem Pg{w:World}{B c:Nat}{A:Option Addr}{b:Bool}{nm:ByteArray}{v:Value}(h:w.ownsRow B 266 2 (.slice A b.toNat c) b.toNat (SQ b nm v)): 0 < b.toNat->∃ bb,A=some ⟨bb,0,none⟩/\bb < w.heap.size/\∀ j,j < b.toNat->w.cell? ⟨bb,j*2,none⟩=some (.string nm)/\w.cell? ⟨bb,j*2+1,none⟩=some v:=fun hn=>by
 cases b with
 | false=>exact absurd hn (by decide)
 | true=>
  obtain⟨A',c',e,hcc,hg⟩:=aH h;injection e with ea eb ec
  obtain⟨g,hA',hb,hl⟩:=hg hn;obtain rfl:A=some ⟨g,0,none⟩:=ea.trans hA';refine⟨g,rfl,hl,fun j hj=>?_⟩;obtain rfl:j=0:=by have:j < 1:=hj;omega
  have h0:=World.ownsRow.cells h (g:=g) rfl 0 (.string nm) rfl;have h1:=World.ownsRow.cells h (g:=g) rfl 1 v rfl;rw[iE] at h0 h1
  exact⟨h0,h1⟩
def IU(w:World)(b:Bool)(nm:ByteArray)(v:Value)(e:Ending)(w':World): Prop:=
 ∃ A c,e=.returned (.slice A b.toNat c)/\w'.ownsRow w.heap.size 266 2 (.slice A b.toNat c) b.toNat (SQ b nm v)/\Below w.heap.size w w'
theorem wZ(w:World)(M:Nat)(b:Bool)(nm:ByteArray)(At:Option Addr)(ct nn:Nat)(hM:jv w M b nm (.slice At nn ct))(hs:nm.size<=64)(hnn:0 < nn):
  Calls Tryz.prog 163 #[.map (some M)] w (IU w b nm (.slice At nn ct)):=by
 have dn:decide ((0:Int) < (nn:Int))=true:=decide_eq_true J;obtain⟨N,D,hown,hN,hF⟩:=id hM;have HD:=zh (zN hM hF);clear hM hF hN
 go_enter Tryz.func163,Tryz.ntmps163
 go_wp2_with (at_range;refine wpList_range_own _ rfl _ 269 rfl 9 190 law Tryz.underlying269 _ M N _ rfl hown ?_;intro w3 hrg0 hg0 hs0)
 try go_frame
 obtain⟨r,hr⟩:∃ r,r=w.heap.size:=⟨_,rfl⟩
 rw[<-hr] at hrg0
 have hl3:Below w.heap.size w w3:=(Below.refl _ _).grown hg0 (Nat.le_refl _) (fun k hk=>by cases hk);have hMl:=HD.out.1.lt;have HR:=zh (zN hrg0 (zN hl3 (zN hr (show M≠r from by omega))));clear hrg0 hl3 hg0 hs0 hown hMl
 try rw[<-hr]
 clear hr
 go_loopw [3] (fun out wr=>∃ (L:List ByteArray) (left:Lit->Bool) (cnt:Nat) (b2:Bool) (A1:Option Addr) (c1:Nat),out=.slice A1 b2.toNat c1/\wr.ranges Tryz.prog 9 eO M r N D left cnt/\kI fV (lQ b nm (.slice At nn ct)) L left/\Below w.heap.size w wr/\wr.ownsRow w.heap.size 9 1 (.slice A1 b2.toNat c1) b2.toNat (O7 b2 nm)/\(b2=true↔nm ∈ L)/\(∀ x ∈ L,(lQ b nm (.slice At nn ct) x).isSome=true)/\(b2=false->A1=none/\c1=0)) (fun _ wr=>wr.rangeLeft M r)
 case atStart=>exact ⟨[],_,_,false,none,0,rfl,HR.out.1,kI.start HD.out.2.g,HR.out.2.1,World.ownsRow_nil _ _ _ _,⟨(fun h=>nomatch h),(fun h=>nomatch h)⟩,(fun x hx=>by cases hx),fun _=>⟨rfl,rfl⟩⟩
 case round=>
  obtain⟨L,left,cnt,b2,A1,c1,rfl,hrg,hL,hb,hrow,hbL,hsub,h0⟩:=hrel;have HW:=zh (zN hb (zN hrow (zN hbL (zN hsub h0))));have HN:=zh (zN hrg hL);clear hb hrow hbL hsub hrg hL h0;go_wp2_with (at_next;refine EW law Value.string (fun key kl h=>(lX h).imp fun _ h=>h.1) (fun x k h=>by obtain ⟨s',e1,rfl⟩:=lX h;injection e1 with e1;rw[e1]) Ep rfl _ rfl HD.out.2.g r L left cnt HN.out.2 rfl HN.out.1 ?_ ?_)
  ·intro hdone
   have hb1:b2=b:=by
    cases hc:b with
    | true=>exact HW.out.2.2.1.2 (hdone nm (by unfold lQ;rw[hc];simp))
    | false=>
     cases b2 with
     | false=>rfl
     | true=>
      have:=HW.out.2.2.2.1 nm (HW.out.2.2.1.1 rfl);unfold lQ at this
      rw[hc] at this
      simp at this
   subst hb1;clear hdone;go_wp2_with fail;refine(pW wr b2.toNat c1 A1 (by cases b2<;>decide)).mono ?_;rintro e w5 ⟨rfl,hb5⟩;have H5:=zh (zN (V.cO HW.out.2.1 hb5) (V.aB HW.out.1 hb5));clear hb5;go_wp2_with fail
   go_loopw [6,27] (fun out i wr=>(i=.int .i64 0/\out=.slice none 0 0/\Below w5.heap.size w5 wr)\/(b2=true/\i=.int .i64 1/\∃ A6 c6,out=.slice A6 1 c6/\wr.ownsRow w.heap.size 266 2 (.slice A6 1 c6) 1 [.string nm,.slice At nn ct]/\Below w.heap.size w wr)) (fun _ i _=>1-(intOf i).toNat)
   case atStart=>exact .inl ⟨rfl,rfl,Below.refl _ _⟩
   case round=>
    rcases hrel with ⟨rfl,rfl,hb6⟩ | ⟨rfl,rfl,A6,c6,rfl,hr6,hb6⟩
    ·obtain ⟨wo,rfl⟩:∃ wo,wo=wr:=⟨wr,rfl⟩
     cases b2 with
     | false=>
      have HB:=zh hb6;clear hb6;go_wp2_with fail;go_ret;exact⟨none,0,rfl,⟨rfl,.inl ⟨rfl,rfl⟩⟩,V.aB H5.out.2 HB.out⟩
     | true=>
      have hrow5:w5.ownsRow w.heap.size 9 1 (.slice A1 1 c1) 1 [.string nm]:=H5.out.1;obtain⟨A',c',e1,-,hg'⟩:=aH hrow5;obtain⟨g,hA',-,hlt⟩:=hg' J;injection e1 with e1 _ _
      have hA1:A1=some ⟨g,0,none⟩:=e1.trans hA';subst hA1;have s0:wo.cell? ⟨g,0,none⟩=some (.string nm):=by
       have:=World.ownsRow.cells hrow5 (g:=g) rfl 0 (.string nm) rfl;rw[iE] at this
       exact(hb6.cell (p:=⟨g,0,none⟩) hlt).trans this
      have hlk:=(HD.out.1.call (V.aB H5.out.2 hb6)).look hs;rw[if_pos rfl] at hlk
      have hbo:Below w.heap.size w wo:=V.aB H5.out.2 hb6;obtain⟨A7,c7,w7,hrun,hap⟩:=iO (P:=Tryz.prog) (w:=wo) (base:=w.heap.size) (t:=174) (ty:=174) (v:=.slice none 0 0) (n:=0) (xs:=[]) (cs:=#[.string nm,.slice At nn ct]) Tryz.underlying174 vH rfl J (⟨rfl,.inl ⟨rfl,rfl⟩⟩) rfl (List.all_eq_true.1 rfl) J J hbo.size;have hb7:Below w.heap.size w w7:=hap.av (m:=0) (ys:=[]) ⟨rfl,.inl ⟨rfl,rfl⟩⟩ hbo hbo.size;have H7:=zh (zN hap.row hb7);clear hb6 hrow5 hg' hlt e1 hA' hbo hap hb7;go_wp2_with (at_builtin;refine wpList_append_run rfl (.tmp 31) (.tmp 37) rfl rfl rfl hrun ?_)
      go_roundw
      case rel=>exact ⟨_,_,_,.inr ⟨rfl,A7,c7,rfl,H7.out.1,H7.out.2⟩,rfl,rfl,rfl⟩
      case measure=>simp[intOf]
    ·have HB:=zh (zN hr6 hb6)
     clear hr6 hb6;go_wp2_with fail;go_ret;exact⟨A6,c6,rfl,HB.out.1,HB.out.2⟩
  ·intro x v w2 left2 cnt2 hx hnx hL2 hrg2 hlt2 hg2 hs2 hen2
   obtain⟨rfl,rfl,rfl⟩:=O6 hx;clear hx;obtain rfl:b2=false:=by
    cases b2 with
    | false=>rfl
    | true=>exact absurd (HW.out.2.2.1.1 rfl) hnx
   obtain⟨rfl,rfl⟩:=HW.out.2.2.2.2 rfl;have hl2:Below w.heap.size w w2:=HW.out.1.grown hg2 HW.out.1.size (fun k hk=>by injection hk with hk;have:=HR.out.2.2.1;omega);have H2:=zh (zN hl2 (zN hrg2 (zN hL2 hlt2)));clear hl2 hrg2 hL2 hlt2 hg2 hs2;go_wp2_with (at_builtin;refine bW (f:=fun _=>.string x) (D:=fun q=>q=w2.heap.size) (base:=w.heap.size) (n:=0) (xs:=[]) Bf rfl (.tmp 19) (.tmp 21) rfl rfl rfl (World.ownsRow_nil _ _ _ _) (oF w2 _ _) (fun _ _=>rfl) (by unfold maxLen;omega) J (by have:=H2.out.1.size;simp;omega) ?_);intro v5 w5 ho5 hg5 hx5;obtain⟨A5,c5,hv5,hc5,-⟩:=aH ho5;subst hv5;have hb5:Below w.heap.size w w5:=(H2.out.1.alloc H2.out.1.size _).grown hg5 (Nat.le_trans H2.out.1.size (by simp)) (fun k hk=>by simp[Value.ownBlock] at hk);have hr5:=(H2.out.2.1.alloc (.cells #[.string x] 9)).kept hg5 (by simp[Value.ownBlock]) (by simp[Value.ownBlock]);have H5:=zh (zN ho5 (zN hr5 hb5));clear ho5 hg5 hx5 hb5 hr5;go_wp2_with fail
   go_roundw
   case rel=>
    refine⟨L ++ [x],left2,cnt2,true,A5,c5,rfl,H5.out.2.1,H2.out.2.2.1,H5.out.2.2,H5.out.1,?_,?_,fun h=>by cases h⟩
    ·simp
    ·intro y hy
     rcases List.mem_append.1 hy with hy | hy
     ·exact HW.out.2.2.2.1 y hy
     ·rw[List.mem_singleton.1 hy]
      unfold lQ;simp
   case measure=>
    rw[H5.out.2.1.left_eq,HN.out.1.left_eq];exact H2.out.2.2.2
def lW(q:bC): List Nat:=V.aF (zig q.a) ++ gJ q.x
def mG(q:Nat->bC): Nat->List Nat
 | 0=>[]
 | k+1=>mG q k ++ lW (q k)
def qJ(nm:ByteArray)(nn:Nat)(q:Nat->bC): List Nat:=V.aF nm.size ++ V.txt nm ++ V.aF nn ++ mG q nn
def nU(nm:Nat->ByteArray)(nn:Nat->Nat)(q:Nat->Nat->bC): Nat->List Nat
 | 0=>[]
 | k+1=>nU nm nn q k ++ qJ (nm k) (nn k) (q k)
def MR(n:Nat)(nm:Nat->ByteArray)(nn:Nat->Nat)(q:Nat->Nat->bC): List Nat:=V.aF n ++ nU nm nn q n
def Dg(q:bC): Prop:=aP q.a/\jr q.x
theorem QE{q:bC}(h:Dg q): (lW q).length<=120:=by
 obtain⟨h1,h2⟩:=h;unfold aP at h1
 have:=V.aK (u:=zig q.a) (dJ J J);have:=(Ny h2).2;unfold lW;rw[List.length_append];omega
theorem tJ{q:Nat->bC}: ∀ k,(∀ j,j < k->Dg (q j))->(mG q k).length<=120*k
 | 0,_=>Nat.le_refl _
 | k+1,h=>by
  have ih:=tJ k (fun j hj=>h j J);have:=QE (h k J);show (mG q k ++ lW (q k)).length<=_
  rw[List.length_append];omega
theorem NH(q:bC): ∀ b ∈ lW q,b < 256:=by
 intro b hb;unfold lW at hb
 rcases List.mem_append.1 hb with h | h
 ·exact V.bH _ b h
 ·exact Bu _ b h
structure BB(w0 w:World)(v:Value)(bs:List Nat): Prop where
 row:w.ownsRow w0.heap.size 5 1 v bs.length (bs.map V.aR)
 byte:∀ b ∈ bs,b < 256
 av:Below w0.heap.size w0 w
theorem BB.call{w0 w w':World}{v:Value}{bs:List Nat}(h:BB w0 w v bs)(hb:Below w.heap.size w w'): BB w0 w' v bs:=⟨V.cO h.row hb,h.byte,V.aB h.av hb⟩
theorem BB.form{w0 w:World}{v:Value}{bs:List Nat}(h:BB w0 w v bs): ∃ A c,v=.slice A bs.length c/\bs.length<=c:=by
 obtain⟨A,c,hv,hc,-⟩:=aH h.row;exact⟨A,c,hv,hc⟩
theorem BB.put{w0 w w':World}{v v':Value}{bs bs':List Nat}(h:BB w0 w v bs)(ho:w'.ownsRow w.heap.size 5 1 v' bs'.length (bs'.map V.aR))(hb:Below w.heap.size w w')(hy:∀ b ∈ bs',b < 256): BB w0 w' v' bs':=⟨aN ho h.av.size,hy,V.aB h.av hb⟩
theorem BB.sl{w0 w:World}{A:Option Addr}{n c:Nat}{bs:List Nat}(h:BB w0 w (.slice A n c) bs)(hn:bs.length=n): Sl w (fun k=>k < w.heap.size) A n (aI bs):=by
 subst hn;exact V.gI h.row
theorem gK{a b:List Nat}(ha:∀ x ∈ a,x < 256)(hb:∀ x ∈ b,x < 256): ∀ x ∈ a ++ b,x < 256:=fun x hx=>by
 rcases List.mem_append.1 hx with h | h
 ·exact ha x h
 ·exact hb x h
def FV(w:World)(bs:List Nat)(e:Ending)(w':World): Prop:=
 ∃ A c,e=.returned (.tuple #[.slice A bs.length c,Z 0])/\w'.ownsRow w.heap.size 5 1 (.slice A bs.length c) bs.length (bs.map V.aR)/\Below w.heap.size w w'
theorem Gj(w:World)(A:Option Addr)(n c:Nat)(nm:Nat->ByteArray)(At:Nat->Option Addr)(ct nn:Nat->Nat)(q:Nat->Nat->bC)(W O:Int)(hsl:GR w A n nm At ct nn q)(hj:sD W O n nm nn q)(hk:bP W O)(hf:∀ j,j < n->∀ i,i < nn j->jr (q j i).x)(hn:n<=4)(hnn:∀ j,j < n->nn j<=900):
  Calls Tryz.prog 164 #[.slice A n c,.int .i64 W,.int .i64 O] w (FV w (F.aZ 8 (MR n nm nn q))):=by
 obtain⟨x,hx⟩:∃ x,x=w.heap.size:=⟨_,rfl⟩
 have o0:=Own.bn w hx 364 #[.int .i64 W,.int .i64 O]
 have ku:IntKind.u64.wrap (n:Int)=((n:Nat):Int):=by rw[IntKind.wrap_u64];omega
 have hbt:∀ j,j < n->∀ i,i < nn j->Dg (q j i):=fun j hj' i hi=>⟨(hj.bkt j hj' i hi).ta,hf j hj' i hi⟩
 have hlen:∀ k,k<=n->(nU nm nn q k).length<=110000*k:=fun k=>by
  induction k with
  | zero=>intro _;exact Nat.le_refl _
  | succ k ih=>
   intro hk';have h1:=ih J;have h2:=tJ (q:=q k) (nn k) (hbt k J);have h3:=hj.size k J;have h4:=V.aK (u:=(nm k).size) J;have h5:=hnn k J;have h6:=V.aK (u:=nn k) J;have h7:=V.fD (nm k);show (nU nm nn q k ++ (V.aF (nm k).size ++ V.txt (nm k) ++ V.aF (nn k) ++ mG (q k) (nn k))).length<=_
   simp only[List.length_append];omega
 have HD:=zh (zN o0 (zN hsl (zN hj (zN hk (zN hbt hlen)))));have HN:=zh hnn;have nt:∀ w:World,(Op.unary .not (.bool true)).run Tryz.prog w=.ok (.bool false) w:=bJ
 clear o0 hsl hj hk hbt hlen hnn hf
 go_enter Tryz.func164,Tryz.ntmps164
 go_upto_region 2 with (fail)
 rw[<-hx];clear hx;refine aC (Own w [(x,364,#[.int .i64 W,.int .i64 O])]) HD.out.1 ?_;intro w1 h1;have H1:=zh h1;have z0_0:=h1.c2 0;clear h1;go_wp2_with fail;clear z0_0;refine(pF w1 W O).mono ?_;rintro e w2 ⟨rfl,hb2⟩;have H2:=zh (H1.out.call hb2);clear hb2;go_wp2_with fail;refine(gH w2 W O HD.out.2.2.2.1).mono ?_;rintro e w3 ⟨rfl,hb3⟩;have h3:=H2.out.call hb3;have H3:=zh h3;have z0_0:=h3.c2 0;clear hb3 h3;go_wp2_with fail;clear z0_0;refine(rT w3 A n c nm At ct nn q W O (HD.out.2.1.below H3.out.av) HD.out.2.2.1 HD.out.2.2.2.1).mono ?_;rintro e w4 ⟨rfl,hb4⟩;have H4:=zh (H3.out.call hb4);clear hb4;go_wp2_with fail;refine(V.iJ w4 none 0 0 [] (n:Nat) rfl (Sl.nil _ _ _ _) (Nat.le_refl _) J J J).mono ?_;rintro e w5 ⟨v5,rfl,ho5,hb5⟩;rw[Int.toNat_natCast,List.nil_append] at ho5
 have hB5:BB w w5 v5 (V.aF n):=⟨aN ho5 H4.out.av.size,V.bH n,V.aB H4.out.av hb5⟩
 have H5:=zh hB5;obtain⟨A5,c5,hv5,-⟩:=hB5.form;subst hv5;clear ho5 hb5 hB5;go_wp2_with fail
 go_loopw [9,33] (fun b i wr=>∃ k:Nat,k<=n/\i=.int .i64 (k:Nat)/\BB w wr b (V.aF n ++ nU nm nn q k)) (fun _ i _=>n-(intOf i).toNat)
 case atStart=>exact ⟨0,Nat.zero_le _,rfl,by show BB _ _ _ (V.aF n ++ []);rw[List.append_nil];exact H5.out⟩
 case round=>
  obtain⟨k,hk,rfl,hB⟩:=hrel;obtain⟨wo,rfl⟩:∃ wo,wo=wr:=⟨wr,rfl⟩
  have hv10:=V.aK (u:=n) J;have hlk:=HD.out.2.2.2.2.2 k hk;obtain⟨bs,hbs⟩:∃ bs,bs=V.aF n ++ nU nm nn q k:=⟨_,rfl⟩
  have hbl:bs.length<=10+110000*k:=by rw[hbs,List.length_append];omega
  rw[<-hbs] at hB
  obtain⟨Ab,cb,rfl,hcb⟩:=hB.form;obtain⟨nb,hnb⟩:∃ m,m=bs.length:=⟨_,rfl⟩
  rw[<-hnb] at hbl hcb hB ⊢
  clear hv10 hlk
  by_cases hlt:k < n
  ·have hki:(k:Int) < (n:Int):=J
   have hsl:=HD.out.2.1.below hB.av;obtain⟨bb,rfl,hbbl,hc⟩:=hsl.1 J;obtain⟨u0,u1⟩:=hc k hlt;have hq:=hsl.2 k hlt;have hsz:=HD.out.2.2.1.size k hlt;have hnk:=HN.out k hlt;have hbt:=HD.out.2.2.2.2.1 k hlt;have hst:nU nm nn q (k+1)=nU nm nn q k ++ (V.aF (nm k).size ++ V.txt (nm k) ++ V.aF (nn k) ++ mG (q k) (nn k)):=rfl;obtain⟨s,hs⟩:∃ s,s=nm k:=⟨_,rfl⟩
   obtain⟨Aj,hAj⟩:∃ s,s=At k:=⟨_,rfl⟩
   obtain⟨cj,hcj⟩:∃ s,s=ct k:=⟨_,rfl⟩
   obtain⟨nj,hnj⟩:∃ s,s=nn k:=⟨_,rfl⟩
   rw[<-hs] at u0 hsz hst
   rw[<-hAj,<-hnj,<-hcj] at u1
   rw[<-hnj] at hnk hbt hst
   rw[<-hAj,<-hnj] at hq
   have kj:IntKind.u64.wrap (nj:Int)=((nj:Nat):Int):=by rw[IntKind.wrap_u64];omega
   have HB:=zh (zN hB (zN hq (zN hbt (zN hst (zN hbs (zN hnb hbbl))))));clear hB hsl hc hq hbt hst hbs hnb hbbl hs hAj hcj hnj;go_upto_region 8 with (fail)
   obtain⟨y,hy⟩:∃ y,y=wo.heap.size:=⟨_,rfl⟩
   have oy:=Own.bn wo hy 266 #[.string s,.slice Aj nj cj]
   rw[<-hy];refine aC (Own wo [(y,266,#[.string s,.slice Aj nj cj])]) oy ?_;clear oy u0 u1 hy;intro w6 h6;have hS:=h6.drew;have H6:=zh h6.drew;clear h6;have hS:(Own wo [(y,266,#[.string s,.slice Aj nj cj])]) (w6.drew):=hS;refine aA (Own wo [(y,266,#[.string s,.slice Aj nj cj])]) (by kernel_rfl) hS ?_;refine zB [0,1,2,4,5,6,7] ?_;iterate 7 (refine zV ?_ ?_ hS ?_;rotate_left;(intro w' hSw;obtain⟨v0,v1⟩:=hSw.c2 0;go_simp<;>with_reducible rfl);try simp only[zP])
   refine zE ?_;refine zC 3 fun K HK=>?_
   go_simp;refine(V.rX w6.drew Ab nb cb bs s HB.out.2.2.2.2.2.1.symm ((HB.out.1.call H6.out.av).sl HB.out.2.2.2.2.2.1.symm) hcb J J).mono ?_;rintro e w7 ⟨v7,rfl,ho7,hb7⟩;have hB7:=(HB.out.1.call H6.out.av).put ho7 hb7 (gK (gK HB.out.1.byte (V.bH _)) (V.nL s));have l7:(bs ++ V.aF s.size ++ V.txt s).length<=nb+74:=by
    have h1:=V.aK (u:=s.size) J;have h2:=V.fD s;have h3:=HB.out.2.2.2.2.2.1;rw[List.length_append,List.length_append];omega
   obtain⟨b7,hb7e⟩:∃ l,l=bs ++ V.aF s.size ++ V.txt s:=⟨_,rfl⟩
   rw[<-hb7e] at hB7 l7
   obtain⟨A7,c7,rfl,hc7⟩:=hB7.form;have H7:=zh (zN hB7 (zN hb7e (H6.out.call hb7)));clear ho7 hb7 hB7 hb7e;go_wp2_with fail;refine HK.out.zt (Own wo [(y,266,#[.string s,.slice Aj nj cj])]) (fun _ h=>h) (H7.out.2.2) ?_;clear HK hS;intro hS;try simp only[zP]
   refine zC 8 fun K HK=>?_
   go_simp;refine(V.iJ w7 A7 b7.length c7 b7 (nj:Nat) rfl (H7.out.1.sl rfl) hc7 J J J).mono ?_;rintro e w8 ⟨v8,rfl,ho8,hb8⟩;rw[Int.toNat_natCast] at ho8
   have hB8:=H7.out.1.put ho8 hb8 (gK H7.out.1.byte (V.bH _));have l8:(b7 ++ V.aF nj).length<=nb+84:=by
    have h1:=V.aK (u:=nj) J;rw[List.length_append];omega
   obtain⟨b8,hb8e⟩:∃ l,l=b7 ++ V.aF nj:=⟨_,rfl⟩
   rw[<-hb8e] at hB8 l8
   obtain⟨A8,c8,rfl,hc8⟩:=hB8.form;have H8:=zh (zN hB8 (zN hb8e (H7.out.2.2.call hb8)));clear ho8 hb8 hB8 hb8e;go_wp2_with fail;refine HK.out.zt (Own wo [(y,266,#[.string s,.slice Aj nj cj])]) (fun _ h=>h) (H8.out.2.2) ?_;clear HK hS;intro hS;try simp only[zP]
   refine zt 9 hS ?_;try simp only[zP]
   refine zD ?_;try simp only[zP]
   clear hS;have h8:=H8.out.2.2;have z0_0:=h8.c2 0;clear h8;go_wp2_with fail;clear z0_0
   go_loopw [9,49] (fun b i wr=>∃ l:Nat,l<=nj/\i=.int .i64 (l:Nat)/\BB w wr b (b8 ++ mG (q k) l)/\Below wo.heap.size wo wr) (fun _ i _=>nj-(intOf i).toNat)
   case atStart=>exact ⟨0,Nat.zero_le _,rfl,by show BB _ _ _ (b8 ++ []);rw[List.append_nil];exact H8.out.1,H8.out.2.2.av⟩
   case round=>
    obtain⟨l,hl,rfl,hB9,hb9⟩:=hrel;have hbl9:=tJ (q:=q k) l (fun j hj=>HB.out.2.2.1 j J);obtain⟨b9,hb9e⟩:∃ bs,bs=b8 ++ mG (q k) l:=⟨_,rfl⟩
    have l9:b9.length<=nb+84+120*l:=by rw[hb9e,List.length_append];omega
    rw[<-hb9e] at hB9
    obtain⟨A9,c9,rfl,hc9⟩:=hB9.form;clear hbl9
    by_cases hll:l < nj
    ·have hli:(l:Int) < (nj:Int):=J
     obtain⟨b2,rfl,hb2,hc2⟩:=(HB.out.2.1.below hb9) J;have hck:=hc2 l hll;have hbo:=HB.out.2.2.1 l hll;have hst9:mG (q k) (l+1)=mG (q k) l ++ (V.aF (zig (q k l).a) ++ gJ (q k l).x):=rfl;obtain⟨p,hpe⟩:∃ p,p=q k l:=⟨_,rfl⟩
     rw[<-hpe] at hck hbo hst9
     obtain⟨a,b,g⟩:=p;have v0:=hck 0 _ rfl;have v1:=hck 1 _ rfl;have v2:=hck 2 _ rfl;have v3:=hck 3 _ rfl;have v4:=hck 4 _ rfl;have v5:=hck 5 _ rfl;have v6:=hck 6 _ rfl;have v7:=hck 7 _ rfl;have v8:=hck 8 _ rfl;have v9:=hck 9 _ rfl;have v10:=hck 10 _ rfl;have v11:=hck 11 _ rfl;have v12:=hck 12 _ rfl;have HC:=zh (zN hB9 (zN hbo (zN hst9 (zN hb9e hb9))));clear hc2 hck hbo hpe hB9 hst9 hb9e hb9 hb2;simp only[Nat.add_zero] at v0
     go_upto_region 12 with (fail)
     obtain⟨z,hz⟩:∃ z,z=wr.heap.size:=⟨_,rfl⟩
     have oz:=Own.bn wr hz 197 #[.int .i64 a,.int .i64 b,.int .i64 g.n,.int .i64 (aj g.s),.int .u64 (au g.s),.int .i64 g.lo,.int .i64 g.hi,.int .i64 g.f.t,.int .i64 g.f.v,.int .i64 g.f.s,.int .i64 g.l.t,.int .i64 g.l.v,.int .i64 g.l.s]
     rw[<-hz];refine aC (Own wr [(z,197,#[.int .i64 a,.int .i64 b,.int .i64 g.n,.int .i64 (aj g.s),.int .u64 (au g.s),.int .i64 g.lo,.int .i64 g.hi,.int .i64 g.f.t,.int .i64 g.f.v,.int .i64 g.f.s,.int .i64 g.l.t,.int .i64 g.l.v,.int .i64 g.l.s])]) oz ?_;clear oz hz v0 v1 v2 v3 v4 v5 v6 v7 v8 v9 v10 v11 v12;intro w10 h10;have hS:=h10.drew;have H10:=zh h10.drew;have ht1:=HC.out.2.1.1.1;have ht2:=HC.out.2.1.1.2;clear h10;have hS:(Own wr [(z,197,#[.int .i64 a,.int .i64 b,.int .i64 g.n,.int .i64 (aj g.s),.int .u64 (au g.s),.int .i64 g.lo,.int .i64 g.hi,.int .i64 g.f.t,.int .i64 g.f.v,.int .i64 g.f.s,.int .i64 g.l.t,.int .i64 g.l.v,.int .i64 g.l.s])]) (w10.drew):=hS;refine aA (Own wr [(z,197,#[.int .i64 a,.int .i64 b,.int .i64 g.n,.int .i64 (aj g.s),.int .u64 (au g.s),.int .i64 g.lo,.int .i64 g.hi,.int .i64 g.f.t,.int .i64 g.f.v,.int .i64 g.f.s,.int .i64 g.l.t,.int .i64 g.l.v,.int .i64 g.l.s])]) (by kernel_rfl) hS ?_;refine zB [0,1,2,3,5] ?_;iterate 5 (refine zV ?_ ?_ hS ?_;rotate_left;(intro w' hSw;have v0:=hSw.c 0 0;go_simp<;>with_reducible rfl);try simp only[zP])
     refine zE ?_;refine zT 6 ?_ ?_ hS ?_;rotate_left
     ·(intro w' hSw;have v2:=hSw.c 0 2;have v3:=hSw.c 0 3;have v4:=hSw.c 0 4;have v5:=hSw.c 0 5;have v6:=hSw.c 0 6;have v7:=hSw.c 0 7;have v8:=hSw.c 0 8;have v9:=hSw.c 0 9;have v10:=hSw.c 0 10;have v11:=hSw.c 0 11;have v12:=hSw.c 0 12;go_simp<;>with_reducible rfl)
     try simp only[zP]
     refine zC 4 fun K HK=>?_
     go_simp;refine(V.eG w10.drew A9 b9.length c9 b9 a rfl ((HC.out.1.call H10.out.av).sl rfl) hc9 J (by show _<=a;have : -1152921504606846976<=a:=ht1;omega) (by have:a<=1152921504606846976:=ht2;omega)).mono ?_;rintro e w11 ⟨v11,rfl,ho11,hb11⟩;have hB11:=(HC.out.1.call H10.out.av).put ho11 hb11 (gK HC.out.1.byte (V.bH _));have l11:(b9 ++ V.aF (zig a)).length<=nb+94+120*l:=by
      have h1 : -1152921504606846976<=a:=ht1;have h2:a<=1152921504606846976:=ht2;have:=V.aK (u:=zig a) (dJ J J);rw[List.length_append];omega
     obtain⟨b11,hb11e⟩:∃ l,l=b9 ++ V.aF (zig a):=⟨_,rfl⟩
     rw[<-hb11e] at hB11 l11
     obtain⟨A11,c11,rfl,hc11⟩:=hB11.form;have H11:=zh (zN hB11 (zN hb11e (H10.out.call hb11)));clear ho11 hb11 hB11 hb11e;go_wp2_with fail;refine HK.out.zt (Own wr [(z,197,#[.int .i64 a,.int .i64 b,.int .i64 g.n,.int .i64 (aj g.s),.int .u64 (au g.s),.int .i64 g.lo,.int .i64 g.hi,.int .i64 g.f.t,.int .i64 g.f.v,.int .i64 g.f.s,.int .i64 g.l.t,.int .i64 g.l.v,.int .i64 g.l.s])]) (fun _ h=>h) (H11.out.2.2) ?_;clear HK hS;intro hS;try simp only[zP]
     refine zC 7 fun K HK=>?_
     go_simp;refine(IX w11 A11 b11.length c11 b11 g HC.out.2.1.2 rfl (H11.out.1.sl rfl) hc11 J).mono ?_;rintro e w12 ⟨v12,rfl,ho12,hb12⟩;have hB12:=H11.out.1.put ho12 hb12 (gK H11.out.1.byte (Bu g));have he12:b11 ++ gJ g=b8 ++ mG (q k) (l+1):=by
      rw[HC.out.2.2.1,H11.out.2.1,HC.out.2.2.2.1];simp only[List.append_assoc]
     rw[he12] at hB12
     have H12:=zh (zN hB12 (H11.out.2.2.call hb12));clear ho12 hb12 hB12 he12;go_wp2_with fail;refine HK.out.zt (Own wr [(z,197,#[.int .i64 a,.int .i64 b,.int .i64 g.n,.int .i64 (aj g.s),.int .u64 (au g.s),.int .i64 g.lo,.int .i64 g.hi,.int .i64 g.f.t,.int .i64 g.f.v,.int .i64 g.f.s,.int .i64 g.l.t,.int .i64 g.l.v,.int .i64 g.l.s])]) (fun _ h=>h) (H12.out.2) ?_;clear HK hS;intro hS;try simp only[zP]
     refine zt 8 hS ?_;try simp only[zP]
     refine zD ?_;try simp only[zP]
     clear hS;go_wp2_with fail
     go_roundw
     case rel=>exact ⟨l+1,J,by first | rfl | go_num,H12.out.1,V.aB HC.out.2.2.2.2 H12.out.2.av⟩
     case measure=>simp[intOf]<;>omega
    ·obtain rfl:l=nj:=J
     have he9:b9=V.aF n ++ nU nm nn q (k+1):=by
      rw[HB.out.2.2.2.1,hb9e,H8.out.2.1,H7.out.2.1,HB.out.2.2.2.2.1];simp only[List.append_assoc]
     have hB10:BB w wr (.slice A9 b9.length c9) (V.aF n ++ nU nm nn q (k+1)):=by rw[<-he9];exact hB9
     have HL:=zh hB10;clear hB9 hB10 he9 hb9e hb9;go_wp2_with fail
     go_roundw
     case rel=>exact ⟨k+1,J,by first | rfl | go_num,HL.out⟩
     case measure=>simp[intOf]<;>omega
  ·obtain rfl:k=n:=J
   have HB:=zh (zN hB (zN hbs hnb));clear hB hbs hnb;go_wp2_with fail;refine(F.wL _ 8 Ab nb cb (fun q=>q < _) bs HB.out.2.2.symm (HB.out.1.sl HB.out.2.2.symm) (V.gG HB.out.1.byte) J J).mono ?_;rintro e w6 ⟨A6,c6,rfl,ho6,hk6⟩;have hrb:bs=MR k nm nn q:=HB.out.2.1;rw[hrb] at ho6 ⊢
   have H6:=zh (zN (aN ho6 HB.out.1.av.size) (V.aB HB.out.1.av hk6.fF));obtain⟨m6,hm6⟩:∃ m,m=(F.aZ 8 (MR k nm nn q)).length:=⟨_,rfl⟩
   rw[<-hm6];have HM:=zh hm6;clear ho6 hk6 hrb hm6;go_wp2_with fail;go_ret2;exact⟨A6,c6,by rw[HM.out];rfl,H6.out.1,H6.out.2⟩
theorem SI(w:World): (sizeOf 5).run Tryz.prog w=.ok 1 w:=by kernel_rfl
def gq(w:World)(y:Nat)(l:List Nat): Prop:=
 ∃ A c,ay w y 369 #[.slice A l.length c,.bool false]/\Sl w (fun q=>q < y) A l.length (aI l)/\l.length<=c/\c<=9223372036854775807/\∀ j,l.getD j 0 < 256
theorem Qi{w:World}{y:Nat}{l:List Nat}(h:gq w y l)(hv:V.dh w): some 0≠some y:=fun e=>by
 injection e with e
 obtain⟨A,c,hb,-⟩:=h;have h1:=hb.cell 0;rw[<-e] at h1
 have h2:w.cell? ⟨0,0,none⟩=_:=hv;rw[h2] at h1
 simp at h1
theorem gq.call{w w':World}{y:Nat}{l:List Nat}(h:gq w y l)(hb:Below w.heap.size w w'): gq w' y l:=by
 obtain⟨A,c,h1,h2,h3⟩:=h;exact⟨A,c,h1.below hb h1.lt,h2.below hb (fun _ _ hk=>hk),h3⟩
theorem gq.lt{w:World}{y:Nat}{l:List Nat}(h:gq w y l): y < w.heap.size:=by
 obtain⟨A,c,h1,-⟩:=h;exact h1.lt
theorem gq.set1{w:World}{y:Nat}{l:List Nat}(h:gq w y l): gq (w.setCell ⟨y,1,none⟩ (.bool false)) y l:=by
 obtain⟨A,c,h1,h2,h3⟩:=h;exact⟨A,c,h1.set 1 (.bool false),h2.keep (fun k hk _=>Below.heap_setCell _ _ _ _ (show k≠y by have:k < y:=hk;omega)),h3⟩
theorem gq.next{w:World}{y n:Nat}{l:List Nat}{A':Option Addr}{c':Nat}(h:gq w y l)(hs:Sl w (fun q=>q < y) A' (l.length-n) (aI (l.drop n)))(hc:l.length-n<=c')(hm:c'<=9223372036854775807)(hn:n<=l.length):
  gq (w.setCell ⟨y,0,none⟩ (.slice A' (l.length-n) c')) y (l.drop n):=by
 obtain⟨A0,c0,h1,h2,h3,h4,h5⟩:=h;have e:(l.drop n).length=l.length-n:=by simp
 have hset:=h1.set 0 (.slice A' (l.length-n) c');refine⟨A',c',by rw[e];exact hset,?_,by rw[e];exact hc,hm,V.jB h5 n⟩;rw[e];exact hs.keep (fun k hk _=>Below.heap_setCell _ _ _ _ (show k≠y by have:k < y:=hk;omega))
structure jY(w wx:World)(y:Nat)(l:List Nat): Prop where
 rd:gq wx y l
 gb:w.grownBy wx (some y)
 er:V.dh wx
theorem jY.start{w:World}{y:Nat}{l:List Nat}(h:gq w y l)(hv:V.dh w): jY w w y l:=⟨h,jK (Below.refl _ _) _,hv⟩
theorem jY.step{w wx w':World}{y:Nat}{l l':List Nat}(h:jY w wx y l)(hg:wx.grownBy w' (some y))(hr:gq w' y l'): jY w w' y l':=
 ⟨hr,qz h.gb hg,AA h.er hg (Qi h.rd h.er)⟩
theorem jY.call{w wx w':World}{y:Nat}{l:List Nat}(h:jY w wx y l)(hb:Below wx.heap.size wx w'): jY w w' y l:=h.step (jK hb _) (h.rd.call hb)
theorem jY.set1{w wx:World}{y:Nat}{l:List Nat}(h:jY w wx y l): jY w (wx.setCell ⟨y,1,none⟩ (.bool false)) y l:=h.step (rE wx y 1 _) h.rd.set1
theorem xJ{cs:Array Value}{vs:List Value}(hl:vs.length=cs.size): fI cs 0 vs=vs.toArray:=by
 apply Array.ext
 ·rw[rZ];simp[hl]
 ·intro i h1 h2
  have h3:i < vs.length:=by simpa using h2
  have:=uy vs 0 cs i J;rw[Nat.zero_add,Array.getElem?_eq_getElem h1,if_pos h3,List.getElem?_eq_getElem h3] at this
  exact Option.some.inj this
def Dt(w:World)(y:Nat)(v:Value)(l:List Nat)(e:Ending)(w':World): Prop:=e=.returned v/\w.grownBy w' (some y)/\gq w' y l
theorem pG(w:World)(y n:Nat)(l:List Nat)(h:gq w y l)(hn:n<=l.length)(hl:l.length<=1048576):
  Calls Tryz.prog 312 #[.pointer (some ⟨y,0,none⟩),Z (n:Nat),Z 0] w (Dt w y (.tuple #[]) (l.drop n)):=by
 obtain⟨A,c,hb,hsl,hlc,hcm,hby⟩:=id h;have zc:=hb.cell 1;have zf:=hb.frozen;have HD:=zh (zN h (zN h.set1 (rE w y 1 (.bool false))));clear h hb hsl hlc hcm hby
 go_enter Tryz.func312,Tryz.ntmps312
 go_upto_region 1 with (fail)
 refine aC (fun wx=>gq wx y l/\w.grownBy wx (some y)) HD.out.2 ?_;rintro w1 ⟨h1,hg1⟩;clear zc zf;obtain⟨A1,c1,hb,hsl,hlc,hcm,hby⟩:=id h1;obtain⟨len,hlen⟩:∃ len,len=l.length:=⟨_,rfl⟩
 rw[<-hlen] at hb hsl hlc hn hl
 obtain⟨A2,hA1,hA2⟩:=V.ni (P:=Tryz.prog) 72 5 Tryz.underlying72 SI A1 len c1 n hn hlc;have zc:=hb.cell 0;have zf:=hb.frozen;have hs2:=hA2 w1 _ l hsl;have h2:=h1.next (n:=n) (A':=A2) (c':=c1-n) (by rw[<-hlen];exact hs2) (by rw[<-hlen];omega) J (by rw[<-hlen];exact hn);rw[<-hlen] at h2
 have H2:=zh (zN h2 (qz hg1 (rE w1 y 0 (.slice A2 (len-n) (c1-n)))));clear h1 hg1 hb hsl hby hA2 hs2 h2 hlen;go_wp2_with fail;refine bodyPost_end (v:=.tuple #[]) (by simp[results,Tryz.results312,go_sem]) rfl ?_;exact⟨rfl,H2.out.2,H2.out.1⟩
theorem uj(w:World)(y u most:Nat)(rest:List Nat)(h:gq w y (V.aF u ++ rest))(hl:(V.aF u ++ rest).length<=1048576)(hm:u<=most)(hmo:most<=1048576)(hv:V.dh w):
  Calls Tryz.prog 243 #[.pointer (some ⟨y,0,none⟩),.int .u64 (most:Nat)] w (Dt w y (Z (u:Nat)) rest):=by
 have hg:=V.iC u rest J;obtain⟨l,hle⟩:∃ l,l=V.aF u ++ rest:=⟨_,rfl⟩
 obtain⟨n,hn⟩:∃ n,n=(V.aF u).length:=⟨_,rfl⟩
 have hdr:l.drop n=rest:=by rw[hle,hn,List.drop_left]
 have hnl:n<=l.length:=by rw[hle,hn,List.length_append];omega
 rw[<-hle] at h hg hl
 rw[<-hn] at hg
 obtain⟨A,c,hb,hsl,hlc,hcm,hby⟩:=id h;have zc:=hb.cell 0;have HS:=zh (zN (jY.start h hv) (zN hsl (zN hby (zN hg (zN hdr hnl)))));obtain⟨len,hlen⟩:∃ len,len=l.length:=⟨_,rfl⟩
 rw[<-hlen] at zc hl hlc
 have HL:=zh hlen;clear h hb hsl hby hg hdr hnl hv hlen hle hn
 go_enter Tryz.func243,Tryz.ntmps243
 go_wp2_with fail;refine(V.mg w _ A len c l HL.out.symm HS.out.2.2.1 (by rw[HL.out];exact HS.out.2.1) J HS.out.1.er).mono ?_;rintro e w1 ⟨rfl,hb1⟩;rw[HS.out.2.2.2.1];have H1:=zh (HS.out.1.call hb1);clear hb1 zc;go_wp2_with fail;refine(pG w1 y n l H1.out.rd HS.out.2.2.2.2.2 (by rw[<-HL.out];exact hl)).mono ?_;rintro e w2 ⟨rfl,hg2,hr2⟩;rw[HS.out.2.2.2.2.1] at hr2
 have h2:=H1.out.step hg2 hr2;obtain⟨A2,c2,hb2,-⟩:=id hr2;have z1:=hb2.cell 1;have zf:=hb2.frozen;have d1:decide (most < u)=false:=decide_eq_false J;have d2:decide ((most:Int) < (u:Int))=false:=decide_eq_false J;have H2:=zh h2.set1;clear h2 hg2 hr2 hb2;go_upto_region 4 with (fail)
 refine aC (fun wx=>jY w wx y rest) H2.out ?_;intro w3 h3;obtain⟨A3,c3,hb3,-⟩:=id h3.rd;clear z1 zf;have z1:=hb3.cell 1;have ku:IntKind.i64.wrap (u:Int)=(u:Int):=IntWalk.i64_in _ J;have H3:=zh h3;clear h3 hb3 d1 d2;go_wp2_with fail;go_ret;exact⟨rfl,H3.out.gb,H3.out.rd⟩
theorem uZ(w:World)(y:Nat)(q:bC)(W:Int)(rest:List Nat)(h:gq w y (lW q ++ rest))(hl:(lW q ++ rest).length<=1048576)(hq:Dg q)(hva:dM q.x=true)(hz:q.x.n≠0)(hW:q.b=q.a+W)(hb:aP q.b)(hv:V.dh w):
  Calls Tryz.prog 313 #[.pointer (some ⟨y,0,none⟩),Z W] w (Dt w y (.agg #[Z q.a,Z q.b,Z q.x.n,Z (aj q.x.s),.int .u64 (au q.x.s),Z q.x.lo,Z q.x.hi,Z q.x.f.t,Z q.x.f.v,Z q.x.f.s,Z q.x.l.t,Z q.x.l.v,Z q.x.l.s]) rest):=by
 obtain⟨a,b,g⟩:=q;obtain⟨ha,hg⟩:=hq;simp only at ha hg hva hz hW hb ⊢
 subst hW;unfold lW at h hl
 simp only at h hl
 rw[List.append_assoc] at h hl
 have hgz:=V.iC (zig a) (gJ g ++ rest) (dJ (by have:=ha.1;omega) (by have:=ha.2;omega));have hga:=KX hg hva (fun e=>absurd e hz) rest;obtain⟨l,hle⟩:∃ l,l=V.aF (zig a) ++ (gJ g ++ rest):=⟨_,rfl⟩
 obtain⟨l2,hle2⟩:∃ l,l=gJ g ++ rest:=⟨_,rfl⟩
 obtain⟨n,hn⟩:∃ n,n=(V.aF (zig a)).length:=⟨_,rfl⟩
 obtain⟨n2,hn2⟩:∃ n,n=(gJ g).length:=⟨_,rfl⟩
 have hdr:l.drop n=l2:=by rw[hle,hn,hle2,List.drop_left]
 have hdr2:l2.drop n2=rest:=by rw[hle2,hn2,List.drop_left]
 have hnl:n<=l.length:=by rw[hle,hn,List.length_append];omega
 have hnl2:n2<=l2.length:=by rw[hle2,hn2,List.length_append];omega
 have hll2:l2.length<=1048576:=by rw[hle2];rw[List.length_append] at hl;omega
 rw[<-hle2] at hle hgz
 rw[<-hle2,<-hle] at h hl
 rw[<-hle,<-hn] at hgz
 rw[<-hle2,<-hn2] at hga
 obtain⟨x,hx⟩:∃ x,x=w.heap.size:=⟨_,rfl⟩
 have hlt:=h.lt;have al:Below w.heap.size w (w.alloc (.cells #[Z 0,Z 0,Z 0,Z 0,.int .u64 0,Z 0,Z 0,Z 0,Z 0,Z 0,Z 0,Z 0,Z 0] 197)):=(Below.refl _ _).alloc (Nat.le_refl _) _;have HS:=zh (zN ((jY.start h hv).call al) (zN (ay.fresh w 197 #[Z 0,Z 0,Z 0,Z 0,.int .u64 0,Z 0,Z 0,Z 0,Z 0,Z 0,Z 0,Z 0,Z 0]) (zN hgz (zN hga (zN hdr (zN hdr2 (zN hnl (zN hnl2 ha))))))));have hyx:y < x:=J;clear h hv al hgz hga hdr hdr2 hnl hnl2 ha hle hle2 hn hn2 hlt hva hz hg
 go_enter Tryz.func313,Tryz.ntmps313
 go_upto_region 1 with (fail)
 rw[<-hx];refine aC (fun wx=>jY w wx y l/\ay wx x 197 #[Z 0,Z 0,Z 0,Z 0,.int .u64 0,Z 0,Z 0,Z 0,Z 0,Z 0,Z 0,Z 0,Z 0]) ⟨HS.out.1,by rw[hx];exact HS.out.2.1⟩ ?_;rintro w1 ⟨h1,hb1⟩;have HX:=zh hx;clear hx;obtain⟨A1,c1,hk1,hs1,hc1,hm1,hy1⟩:=id h1.rd;obtain⟨len1,hlen1⟩:∃ len,len=(l).length:=⟨_,rfl⟩
 rw[<-hlen1] at hk1 hs1 hc1
 have z1:=hk1.cell 0;have H1:=zh (zN h1 (zN hb1 (zN hs1 (zN hy1 hlen1))));clear h1 hb1 hk1 hs1 hy1 hlen1;go_wp2_with fail;clear z1;refine(V.qN w1 _ A1 len1 c1 l H1.out.2.2.2.2.symm H1.out.2.2.2.1 H1.out.2.2.1 J H1.out.1.er).mono ?_;rintro e w2 ⟨rfl,hb2⟩;rw[HS.out.2.2.1,Bj];have H2:=zh (zN (H1.out.1.call hb2) (H1.out.2.1.below hb2 H1.out.2.1.lt));clear hb2;go_wp2_with fail;refine(pG w2 y n l H2.out.1.rd HS.out.2.2.2.2.2.2.1 hl).mono ?_;rintro e w3 ⟨rfl,hg3,hr3⟩;rw[HS.out.2.2.2.2.1] at hr3
 have h3:=H2.out.1.step hg3 hr3;have hb3:=cZ hg3 H2.out.2 (fun e=>by injection e with e;omega);clear hg3 hr3;obtain⟨A3,c3,hk3,hs3,hc3,hm3,hy3⟩:=id h3.rd;obtain⟨len3,hlen3⟩:∃ len,len=(l2).length:=⟨_,rfl⟩
 rw[<-hlen3] at hk3 hs3 hc3
 have z3:=hk3.cell 0;have H3:=zh (zN h3 (zN hb3 (zN hs3 (zN hy3 hlen3))));clear h3 hb3 hk3 hs3 hy3 hlen3;go_wp2_with fail;clear z3;refine(FX w3 A3 len3 c3 l2 ⟨H3.out.2.2.2.2.symm,H3.out.2.2.2.1,H3.out.2.2.1.mono (fun q hq=>by have:=H3.out.1.rd.lt;omega),hc3,hm3,by have:=H3.out.2.2.2.2;omega,H3.out.1.er⟩).mono ?_;rintro e w4 ⟨rfl,hb4⟩;rw[HS.out.2.2.2.1];have h4:=H3.out.1.call hb4;have k4:=H3.out.2.1.below hb4 H3.out.2.1.lt;obtain⟨x8,hx8⟩:∃ x,x=w4.heap.size:=⟨_,rfl⟩
 have al4:Below w4.heap.size w4 (w4.alloc (.cells #[Z g.n,Z (aj g.s),.int .u64 (au g.s),Z g.lo,Z g.hi,Z g.f.t,Z g.f.v,Z g.f.s,Z g.l.t,Z g.l.v,Z g.l.s] 195)):=(Below.refl _ _).alloc (Nat.le_refl _) _;have H4:=zh (zN (h4.call al4) (zN (k4.below al4 k4.lt) (zN (by rw[hx8];exact ay.fresh w4 195 #[Z g.n,Z (aj g.s),.int .u64 (au g.s),Z g.lo,Z g.hi,Z g.f.t,Z g.f.v,Z g.f.s,Z g.l.t,Z g.l.v,Z g.l.s]:ay (w4.alloc (.cells #[Z g.n,Z (aj g.s),.int .u64 (au g.s),Z g.lo,Z g.hi,Z g.f.t,Z g.f.v,Z g.f.s,Z g.l.t,Z g.l.v,Z g.l.s] 195)) x8 195 #[Z g.n,Z (aj g.s),.int .u64 (au g.s),Z g.lo,Z g.hi,Z g.f.t,Z g.f.v,Z g.f.s,Z g.l.t,Z g.l.v,Z g.l.s]) (show y < x8 by have:=h4.rd.lt;omega))));clear hb4 h4 k4 al4;go_upto_region 4 with (fail)
 rw[<-hx8];clear hx8;refine aC (fun wx=>jY w wx y l2/\ay wx x 197 #[Z 0,Z 0,Z 0,Z 0,.int .u64 0,Z 0,Z 0,Z 0,Z 0,Z 0,Z 0,Z 0,Z 0]/\ay wx x8 195 #[Z g.n,Z (aj g.s),.int .u64 (au g.s),Z g.lo,Z g.hi,Z g.f.t,Z g.f.v,Z g.f.s,Z g.l.t,Z g.l.v,Z g.l.s]) ⟨H4.out.1,H4.out.2.1,H4.out.2.2.1⟩ ?_;rintro w5 ⟨h5,hb5,hc5⟩;have H5:=zh (zN h5 (zN hb5 hc5));clear h5 hb5 hc5;go_wp2_with fail;refine(pG w5 y n2 l2 H5.out.1.rd HS.out.2.2.2.2.2.2.2.1 hll2).mono ?_;rintro e w6 ⟨rfl,hg6,hr6⟩;rw[HS.out.2.2.2.2.2.1] at hr6
 have hyx8:=H4.out.2.2.2;have h6:=H5.out.1.step hg6 hr6;obtain⟨A6,c6,hk6,-⟩:=id hr6;have z1:=hk6.cell 1;have H6:=zh (zN h6 (zN (cZ hg6 H5.out.2.1 (fun e=>by injection e with e;omega)) (cZ hg6 H5.out.2.2 (fun e=>by injection e with e;omega))));clear h6 hg6 hr6 hk6;go_wp2_with fail;clear z1;refine(mQ w6 a HS.out.2.2.2.2.2.2.2.2).mono ?_;rintro e w7 ⟨rfl,hb7⟩;have h7:=H6.out.1.call hb7;obtain⟨A7,c7,hk7,-⟩:=id h7.rd;have zf:=hk7.frozen;have z1:=hk7.cell 1;have H7:=zh (zN h7.set1 (zN ((H6.out.2.1.below hb7 H6.out.2.1.lt).far (p:=⟨y,1,none⟩) (show x≠y by omega) (.bool false)) ((H6.out.2.2.below hb7 H6.out.2.2.lt).far (p:=⟨y,1,none⟩) (show x8≠y by omega) (.bool false))));clear h7 hb7 hk7;go_upto_region 6 with (fail)
 refine aC (fun wx=>jY w wx y rest/\ay wx x 197 #[Z 0,Z 0,Z 0,Z 0,.int .u64 0,Z 0,Z 0,Z 0,Z 0,Z 0,Z 0,Z 0,Z 0]/\ay wx x8 195 #[Z g.n,Z (aj g.s),.int .u64 (au g.s),Z g.lo,Z g.hi,Z g.f.t,Z g.f.v,Z g.f.s,Z g.l.t,Z g.l.v,Z g.l.s]) H7.out ?_;rintro w8 ⟨h8,hb8,hc8⟩;clear z1 zf;obtain⟨A8,c8,hk8,-⟩:=id h8.rd;have z1:=hk8.cell 1;have z0:=hc8.cell 0;have z2:=hc8.cell 1;have z3:=hc8.cell 2;have z4:=hc8.cell 3;have z5:=hc8.cell 4;have z6:=hc8.cell 5;have z7:=hc8.cell 6;have z8:=hc8.cell 7;have z9:=hc8.cell 8;have z10:=hc8.cell 9;have z11:=hc8.cell 10;have dW:IntKind.i64.wrap (a+W)=a+W:=by
  have h1 : -1152921504606846976<=a+W:=hb.1;have h2:a+W<=1152921504606846976:=hb.2;simp only[IntKind.wrap_i64];omega
 have hst:=@jO Tryz.prog _ _ _ _ hb8 197 0 13 [Z a,Z (a+W),Z g.n,Z (aj g.s),.int .u64 (au g.s),Z g.lo,Z g.hi,Z g.f.t,Z g.f.v,Z g.f.s,Z g.l.t,Z g.l.v,Z g.l.s] rfl (by decide) (by kernel_rfl) (List.all_eq_true.1 rfl);have hbf:=jc [Z a,Z (a+W),Z g.n,Z (aj g.s),.int .u64 (au g.s),Z g.lo,Z g.hi,Z g.f.t,Z g.f.v,Z g.f.s,Z g.l.t,Z g.l.v,Z g.l.s] 0 w8 _ hb8;have hkf:=fO (g:=x) [Z a,Z (a+W),Z g.n,Z (aj g.s),.int .u64 (au g.s),Z g.lo,Z g.hi,Z g.f.t,Z g.f.v,Z g.f.s,Z g.l.t,Z g.l.v,Z g.l.s] 0 w8;have hlast:jY w (setFrom w8 x 0 [Z a,Z (a+W),Z g.n,Z (aj g.s),.int .u64 (au g.s),Z g.lo,Z g.hi,Z g.f.t,Z g.f.v,Z g.f.s,Z g.l.t,Z g.l.v,Z g.l.s]) y rest:=by
  obtain⟨A9,c9,hk9,hs9,hc9⟩:=h8.rd;have hsz:=hkf.size;refine⟨⟨A9,c9,hk9.keeps hkf (show y≠x by omega),hs9.keeps hkf (fun q hq e=>by have:q < y:=hq;omega),hc9⟩,?_,?_⟩
  ·have hg:=h8.gb
   exact⟨hkf.os.trans hg.os,hkf.tape.trans hg.tape,hkf.output.trans hg.output,Nat.le_trans hg.size hsz,fun q hq hne=>(hkf.block q (Nat.lt_of_lt_of_le hq hg.size) (fun e=>by have:=HX.out;omega)).trans (hg.block q hq hne)⟩
  ·refine (World.cell?_of_block (w:=w8) (hkf.block _ ?_ ?_)).trans h8.er
   ·exact World.block_lt_of_cell? w8 _ h8.er
   ·intro e
    have h1:=h8.er;have h2:=hb8.cell 0;rw[<-e] at h2
    have h3:w8.cell? ⟨0,0,none⟩=_:=h1;rw[h3] at h2
    simp at h2
 have hfull:fI #[Z 0,Z 0,Z 0,Z 0,.int .u64 0,Z 0,Z 0,Z 0,Z 0,Z 0,Z 0,Z 0,Z 0] 0 [Z a,Z (a+W),Z g.n,Z (aj g.s),.int .u64 (au g.s),Z g.lo,Z g.hi,Z g.f.t,Z g.f.v,Z g.f.s,Z g.l.t,Z g.l.v,Z g.l.s]=[Z a,Z (a+W),Z g.n,Z (aj g.s),.int .u64 (au g.s),Z g.lo,Z g.hi,Z g.f.t,Z g.f.v,Z g.f.s,Z g.l.t,Z g.l.v,Z g.l.s].toArray:=xJ (by simp)
 rw[hfull] at hbf
 have HF:=zh (zN hlast hbf);clear h8 hb8 hc8 hk8 hbf hkf hlast;go_upto_region 8 with (fail)
 go_wp2_with (refine hst rfl _ _ rfl rfl rfl ?_);refine oH (fun wx=>jY w wx y rest/\ay wx x 197 #[Z a,Z (a+W),Z g.n,Z (aj g.s),.int .u64 (au g.s),Z g.lo,Z g.hi,Z g.f.t,Z g.f.v,Z g.f.s,Z g.l.t,Z g.l.v,Z g.l.s]) HF.out ?_;rintro w9 ⟨h9,hb9⟩;exact bodyPost_ret (v:=.agg #[Z a,Z (a+W),Z g.n,Z (aj g.s),.int .u64 (au g.s),Z g.lo,Z g.hi,Z g.f.t,Z g.f.v,Z g.f.s,Z g.l.t,Z g.l.v,Z g.l.s]) (qK (P:=Tryz.prog) Tryz.results313 rfl hb9 13 [Z a,Z (a+W),Z g.n,Z (aj g.s),.int .u64 (au g.s),Z g.lo,Z g.hi,Z g.f.t,Z g.f.v,Z g.f.s,Z g.l.t,Z g.l.v,Z g.l.s] _ Tryz.underlying197 rfl rfl (by kernel_rfl) (fun j _=>by simp)) rfl ⟨rfl,h9.gb,h9.rd⟩
def iZ(q:Nat->bC)(k:Nat): Nat->List Nat
 | 0=>[]
 | m+1=>lW (q k) ++ iZ q (k+1) m
theorem Bz(q:Nat->bC): ∀ m k,iZ q k (m+1)=iZ q k m ++ lW (q (k+m))
 | 0,k=>by show lW (q k) ++ []=[] ++ lW (q (k+0));simp
 | m+1,k=>by
  show lW (q k) ++ iZ q (k+1) (m+1)=(lW (q k) ++ iZ q (k+1) m) ++ lW (q (k+(m+1)))
  rw[Bz q m (k+1),List.append_assoc,show k+1+m=k+(m+1) by omega]
theorem DL(q:Nat->bC): ∀ n,mG q n=iZ q 0 n
 | 0=>rfl
 | n+1=>by
  show mG q n ++ lW (q n)=_
  rw[Bz,DL q n,Nat.zero_add]
structure qU(w wx:World)(y x4 x8:Nat)(s:ByteArray)(v:Value)(k:Nat)(q:Nat->bC)(l:List Nat): Prop where
 rr:jY w wx y l
 b4:ay wx x4 266 #[.string ByteArray.empty,.slice none 0 0]
 b8:ay wx x8 266 #[.string s,v]
 row:dL wx w.heap.size v q k
theorem dL.gb{w w':World}{B y n:Nat}{v:Value}{q:Nat->bC}(h:dL w B v q n)(hg:w.grownBy w' (some y))(hy:y < B): dL w' B v q n:=
 aG h ((Keeps.refl (fun k=>k=y) w).grown hg (fun k hk _=>by injection hk with hk;exact hk.symm)) (fun g hg2 e=>by have:=(World.ownsRow.lt h g hg2).1;omega)
theorem qU.read{w wx w':World}{y x4 x8:Nat}{s:ByteArray}{v:Value}{k:Nat}{q:Nat->bC}{l l':List Nat}(h:qU w wx y x4 x8 s v k q l)(hg:wx.grownBy w' (some y))(hr:gq w' y l')(hy:y < w.heap.size)(h4:w.heap.size<=x4)(h8:w.heap.size<=x8): qU w w' y x4 x8 s v k q l':=
 ⟨h.rr.step hg hr,cZ hg h.b4 (fun e=>by injection e with e;omega),cZ hg h.b8 (fun e=>by injection e with e;omega),h.row.gb hg hy⟩
def Ka(w:World)(x:Nat): Nat:=match w.cell? ⟨x,1,none⟩ with
 | some (.slice _ n _)=>n
 | _=>0
theorem wH{w:World}{x n c:Nat}{A:Option Addr}(h:w.cell? ⟨x,1,none⟩=some (.slice A n c)): Ka w x=n:=by
 unfold Ka;rw[h]
theorem qU.SY{w wx wy:World}{y x4 x8:Nat}{s:ByteArray}{v v':Value}{k':Nat}{q:Nat->bC}{l:List Nat}(hrr:jY w wx y l)(hb4:ay wx x4 266 #[.string ByteArray.empty,.slice none 0 0])(hb8:ay wx x8 266 #[.string s,v])(hw:wy=wx.setCell ⟨x8,1,none⟩ v')(hr:dL wx w.heap.size v' q k')(h48:x4≠x8)(hy:y < x8)(hw8:w.heap.size<=x8): qU w wy y x4 x8 s v' k' q l:=by
 subst hw;have hk:Keeps (fun q=>q=x8) wx (wx.setCell ⟨x8,1,none⟩ v'):=(Keeps.refl (fun q=>q=x8) wx).setCell (fun _=>rfl) _;have hg:=hrr.gb;refine⟨⟨?_,⟨hk.os.trans hg.os,hk.tape.trans hg.tape,hk.output.trans hg.output,Nat.le_trans hg.size hk.size,fun q hq hne=>(hk.block q (Nat.lt_of_lt_of_le hq hg.size) (fun e=>J)).trans (hg.block q hq hne)⟩,?_⟩,hb4.keeps hk h48,hb8.set 1 v',aG hr hk (fun g hg e=>own_ne hr hb8 (show 197≠266 by decide) (by rw[hg,e]))⟩
 ·obtain ⟨A,c,h1,h2,h3⟩:=hrr.rd
  exact⟨A,c,h1.keeps hk (show y≠x8 by omega),h2.keeps hk (fun q hq e=>by have:q < y:=hq;omega),h3⟩
 ·refine (World.cell?_of_block (w:=wx) (hk.block _ (World.block_lt_of_cell? wx _ hrr.er) ?_)).trans hrr.er
  intro e;have h2:=hb8.cell 0;rw[<-e] at h2
  have h3:wx.cell? ⟨0,0,none⟩=_:=hrr.er;rw[h3] at h2
  simp at h2
theorem qU.call{w wx wy:World}{y x4 x8:Nat}{s:ByteArray}{v:Value}{k:Nat}{q:Nat->bC}{l:List Nat}(h:qU w wx y x4 x8 s v k q l)(hb:Below wx.heap.size wx wy): qU w wy y x4 x8 s v k q l:=
 ⟨h.rr.call hb,h.b4.below hb h.b4.lt,h.b8.below hb h.b8.lt,aG h.row (S:=fun _=>False) (Keeps.of_below hb) (fun _ _ h=>h)⟩
theorem qU.app{w wx wy:World}{y x4 x8:Nat}{s:ByteArray}{v v':Value}{k k':Nat}{q:Nat->bC}{l:List Nat}(h:qU w wx y x4 x8 s v k q l)(hk:Keeps (fun q=>v.ownBlock=some q) wx wy)(hr:dL wy w.heap.size v' q k')(hy:y < w.heap.size)(hE:0 < w.heap.size):
  jY w wy y l/\ay wy x4 266 #[.string ByteArray.empty,.slice none 0 0]/\ay wy x8 266 #[.string s,v]/\dL wy w.heap.size v' q k':=by
 have hlt:=fun g hg=>(World.ownsRow.lt h.row g hg).1
 have hg:=h.rr.gb;have n4:=own_ne h.row h.b4 (show 197≠266 by decide);have n8:=own_ne h.row h.b8 (show 197≠266 by decide);obtain⟨A,c,h1,h2,h3⟩:=h.rr.rd;have ny:=own_ne h.row h1 (show 197≠369 by decide);refine⟨⟨⟨A,c,h1.keeps hk ny,h2.keeps hk (fun g hgy e=>by have:=hlt g e;have:g < y:=hgy;omega),h3⟩,?_,?_⟩,h.b4.keeps hk n4,h.b8.keeps hk n8,hr⟩
 ·exact ⟨hk.os.trans hg.os,hk.tape.trans hg.tape,hk.output.trans hg.output,Nat.le_trans hg.size hk.size,fun q hq hne=>(hk.block q (Nat.lt_of_lt_of_le hq hg.size) (fun e=>by have:=hlt q e;omega)).trans (hg.block q hq hne)⟩
 ·exact (World.cell?_of_block (w:=wx) (hk.block _ (World.block_lt_of_cell? wx _ h.rr.er) (fun e=>by have h1:w.heap.size<=0:=hlt _ e;omega))).trans h.rr.er
theorem Oh{w:World}(h:V.dh w): 0 < w.heap.size:=World.block_lt_of_cell? w _ h
def Ns(w:World)(y:Nat)(s:ByteArray)(n:Nat)(q:Nat->bC)(l:List Nat)(e:Ending)(w':World): Prop:=
 ∃ A c,e=.returned (.agg #[.string s,.slice A n c])/\w.grownBy w' (some y)/\gq w' y l/\dL w' w.heap.size (.slice A n c) q n
theorem JE(w:World)(y:Nat)(s:ByteArray)(nn:Nat)(q:Nat->bC)(W O:Int)(rest:List Nat)(h:gq w y (qJ s nn q ++ rest))(hl:(qJ s nn q ++ rest).length<=1048576)(hs:s.size<=64)(hnn:nn<=900)(hq:∀ i,i < nn->Dg (q i)/\vS W O (q i))(hv:V.dh w):
  Calls Tryz.prog 244 #[.pointer (some ⟨y,0,none⟩),.int .i64 W] w (Ns w y s nn q rest):=by
 unfold qJ at h hl
 rw[DL,List.append_assoc,List.append_assoc] at h hl
 have hvt:=KC (V.txt s) (V.aF nn ++ (iZ q 0 nn ++ rest)) 64 (by rw[V.fD];omega) (by rw[V.fD];omega);rw[V.fD] at hvt
 obtain⟨l,hle⟩:∃ l,l=V.aF s.size ++ V.txt s ++ (V.aF nn ++ (iZ q 0 nn ++ rest)):=⟨_,rfl⟩
 obtain⟨l2,hle2⟩:∃ l,l=V.aF nn ++ (iZ q 0 nn ++ rest):=⟨_,rfl⟩
 obtain⟨n,hn⟩:∃ n,n=(V.aF s.size).length+s.size:=⟨_,rfl⟩
 have hdr:l.drop n=l2:=by
  rw[hle,<-hle2,hn,<-V.fD s,<-List.length_append,List.drop_left]
 have hnl:n<=l.length:=by rw[hle,hn,List.length_append,List.length_append,V.fD];omega
 have hll2:l2.length<=1048576:=by rw[hle2];rw[<-hle2] at hl ⊢;rw[List.length_append] at hl;omega
 rw[<-hle] at h hl hvt
 rw[<-hn] at hvt
 obtain⟨x4,hx4⟩:∃ x,x=w.heap.size:=⟨_,rfl⟩
 have hlt:=h.lt;have al:Below w.heap.size w (w.alloc (.cells #[.string ByteArray.empty,.slice none 0 0] 266)):=(Below.refl _ _).alloc (Nat.le_refl _) _;have hE:=Oh hv;have HS:=zh (zN ((jY.start h hv).call al) (zN (ay.fresh w 266 #[.string ByteArray.empty,.slice none 0 0]) (zN hvt (zN hdr (zN hnl (zN hle2 hq))))));clear h hv al hvt hdr hnl hle hle2 hq hn
 go_enter Tryz.func244,Tryz.ntmps244
 go_upto_region 1 with (fail)
 rw[<-hx4];refine aC (fun wx=>jY w wx y l/\ay wx x4 266 #[.string ByteArray.empty,.slice none 0 0]) ⟨HS.out.1,by rw[hx4];exact HS.out.2.1⟩ ?_;rintro w1 ⟨h1,hb1⟩;have HX4:=zh hx4;clear hx4;obtain⟨A1,c1,hk1,hs1,hc1,hm1,hy1⟩:=id h1.rd;obtain⟨len1,hlen1⟩:∃ len,len=l.length:=⟨_,rfl⟩
 rw[<-hlen1] at hk1 hs1 hc1
 have z1:=hk1.cell 0;have H1:=zh (zN h1 (zN hb1 (zN hs1 (zN hy1 hlen1))));clear h1 hb1 hk1 hs1 hy1 hlen1;go_wp2_with fail;clear z1;refine(V.CZ w1 A1 len1 c1 l 64 H1.out.2.2.2.2.symm H1.out.2.2.2.1 (H1.out.2.2.1.mono (fun q hq=>by have:=H1.out.1.rd.lt;omega)) hc1 hm1 H1.out.1.er J J).mono ?_;rintro e w2 ⟨rfl,hb2⟩;rw[HS.out.2.2.1,V.OH];have H2:=zh (zN (H1.out.1.call hb2) (H1.out.2.1.below hb2 H1.out.2.1.lt));clear hb2;go_wp2_with fail;refine(pG w2 y n l H2.out.1.rd HS.out.2.2.2.2.1 hl).mono ?_;rintro e w3 ⟨rfl,hg3,hr3⟩;rw[HS.out.2.2.2.1] at hr3
 have h3:=H2.out.1.step hg3 hr3;have hb3:=cZ hg3 H2.out.2 (fun e=>by injection e with e;have:=HX4.out;omega);obtain⟨x8,hx8⟩:∃ x,x=w3.heap.size:=⟨_,rfl⟩
 have al3:Below w3.heap.size w3 (w3.alloc (.cells #[.string s,.slice none 0 0] 266)):=(Below.refl _ _).alloc (Nat.le_refl _) _;have hsz3:w.heap.size<=w3.heap.size:=h3.gb.size;have H3:=zh (zN (h3.call al3) (zN (hb3.below al3 hb3.lt) (zN (by rw[hx8];exact ay.fresh w3 266 #[.string s,.slice none 0 0]:ay (w3.alloc (.cells #[.string s,.slice none 0 0] 266)) x8 266 #[.string s,.slice none 0 0]) (zN (show w.heap.size<=x8 by omega) (show x4≠x8 by have:=hb3.lt;omega)))));clear hg3 hr3 h3 hb3 al3 hsz3;go_upto_region 4 with (fail)
 rw[<-hx8];clear hx8;refine aC (fun wx=>qU w wx y x4 x8 s (.slice none 0 0) 0 q l2) ⟨H3.out.1,H3.out.2.1,H3.out.2.2.1,⟨rfl,.inl ⟨rfl,rfl⟩⟩⟩ ?_;intro w4 h4;have hx4w:w.heap.size<=x4:=by have:=HX4.out;omega
 have H4:=zh h4;clear h4;go_wp2_with fail;refine(uj w4 y nn 65536 (iZ q 0 nn ++ rest) (by rw[<-HS.out.2.2.2.2.2.1];exact H4.out.rr.rd) (by rw[<-HS.out.2.2.2.2.2.1];exact hll2) J J H4.out.rr.er).mono ?_;rintro e w5 ⟨rfl,hg5,hr5⟩;have H5:=zh (H4.out.read hg5 hr5 hlt hx4w H3.out.2.2.2.1);clear hg5 hr5;go_wp2_with fail
 go_loopw [] (fun wr=>∃ (k:Nat) (A:Option Addr) (c:Nat),k<=nn/\qU w wr y x4 x8 s (.slice A k c) k q (iZ q k (nn-k) ++ rest)/\(iZ q k (nn-k) ++ rest).length<=1048576) (fun wr=>nn-Ka wr x8)
 case atStart=>exact ⟨0,none,0,Nat.zero_le _,H5.out,by have h1:=HS.out.2.2.2.2.2.1;have h2:=congrArg List.length h1;rw[List.length_append] at h2;show (iZ q 0 nn ++ rest).length<=_;omega⟩
 case round=>
  obtain⟨k,A,c,hk,hP,hll⟩:=hrel;obtain⟨wo,rfl⟩:∃ wo,wo=wr:=⟨wr,rfl⟩
  have z8:=hP.b8.cell 1;have hlc:Ka wo x8=k:=wH z8;obtain⟨A5,c5,hk5,-⟩:=id hP.rr.rd;have zr:=hk5.cell 1
  by_cases hlt2:k < nn
  ·have dk:decide ((k:Int) < (nn:Int))=true:=decide_eq_true J
   obtain⟨m,hm⟩:∃ m,nn-k=m+1:=⟨nn-k-1,J⟩
   have hm2:nn-(k+1)=m:=J;have hbs:iZ q k (nn-k) ++ rest=lW (q k) ++ (iZ q (k+1) m ++ rest):=by rw[hm];show lW (q k) ++ iZ q (k+1) m ++ rest=_;rw[List.append_assoc]
   rw[hbs] at hP
   have hqk:=HS.out.2.2.2.2.2.2 k hlt2;have hv8:gZ q (k+1)=gZ q k ++ mI (q k):=rfl;obtain⟨p,hp⟩:∃ p,p=q k:=⟨_,rfl⟩
   rw[<-hp] at hP hqk hv8
   have hPd:=hP.call (Below.refl wo.heap.size wo).drew;have hlen:(lW p ++ (iZ q (k+1) m ++ rest)).length<=1048576:=by rw[hp,<-hbs];exact hll
   have hlen2:(iZ q (k+1) m ++ rest).length<=1048576:=by rw[List.length_append] at hlen;omega
   have HP:=zh (zN hPd (zN hqk (zN hv8 (zN hm2 (zN hlen hlen2)))));clear hP hPd hqk hv8 hbs hp hk5 hlen hlen2 hll;go_upto_region 6 with (fail)
   have z8d:=HP.out.1.b8.cell 1;have hS:(fun (_:World)=>True) (wo.drew):=trivial;refine aA (fun (_:World)=>True) (by kernel_rfl) hS ?_;refine zB [0,2,3] ?_;iterate 3 (refine zv hS ?_;try simp only[zP])
   refine zE ?_;refine fA (i:=1) (j:=4) rfl rfl (by kernel_rfl) (fun K hK=>?_) (fun K hK=>?_)
   ·skip
    have HK:=zh hK;clear hK;go_simp;go_wp2_with fail;refine HK.out.zt (fun (_:World)=>True) (fun _ h=>h) (trivial) ?_;clear HK hS;intro hS;try simp only[zP]
    refine zC 4 fun K HK=>?_
    go_simp;refine(uZ wo.drew y p W (iZ q (k+1) m ++ rest) HP.out.1.rr.rd HP.out.2.2.2.2.1 HP.out.2.1.1 HP.out.2.1.2.valid (by have:=HP.out.2.1.2.pos;omega) HP.out.2.1.2.wd HP.out.2.1.2.tb HP.out.1.rr.er).mono ?_;rintro e w6 ⟨rfl,hg6,hrd6⟩;have H6:=zh (HP.out.1.read hg6 hrd6 hlt hx4w H3.out.2.2.2.1);clear hg6 hrd6;go_wp2_with fail;refine HK.out.zt (fun (_:World)=>True) (fun _ h=>h) (trivial) ?_;clear HK hS;intro hS;try simp only[zP]
    have hr6:dL w6 w.heap.size (.slice A k c) q k:=H6.out.row;obtain⟨A7,c7,w7,hrun,hap⟩:=iO (P:=Tryz.prog) (w:=w6) (t:=190) (ty:=190) (cs:=#[.int .i64 p.a,.int .i64 p.b,.int .i64 p.x.n,.int .i64 (aj p.x.s),.int .u64 (au p.x.s),.int .i64 p.x.lo,.int .i64 p.x.hi,.int .i64 p.x.f.t,.int .i64 p.x.f.v,.int .i64 p.x.f.s,.int .i64 p.x.l.t,.int .i64 p.x.l.v,.int .i64 p.x.l.s]) Tryz.underlying190 lM rfl J hr6 rfl (List.all_eq_true.1 rfl) J J H6.out.rr.gb.size;have hr7:dL w7 w.heap.size (.slice A7 (k+1) c7) q (k+1):=by
     show w7.ownsRow _ _ _ _ _ (gZ q (k+1))
     rw[HP.out.2.2.1];exact hap.row
    have hG:=H6.out.app hap.keeps hr7 hlt hE;have z7:=hG.2.2.1.cell 1;have zf:=hG.2.2.1.frozen;have h8:=qU.SY (wy:=w7.setCell ⟨x8,1,none⟩ (.slice A7 (k+1) c7)) hG.1 hG.2.1 hG.2.2.1 rfl hG.2.2.2 H3.out.2.2.2.2 (by have:=H3.out.2.2.2.1;omega) H3.out.2.2.2.1;have HH8:=zh h8;clear hr6 hap hr7 hG h8;refine zC 5 fun K HK=>?_
    go_simp;obtain⟨w65,hw65⟩:∃ w65,w65=w6.alloc (.cells #[.int .i64 p.a,.int .i64 p.b,.int .i64 p.x.n,.int .i64 (aj p.x.s),.int .u64 (au p.x.s),.int .i64 p.x.lo,.int .i64 p.x.hi,.int .i64 p.x.f.t,.int .i64 p.x.f.v,.int .i64 p.x.f.s,.int .i64 p.x.l.t,.int .i64 p.x.l.v,.int .i64 p.x.l.s] 197):=⟨_,rfl⟩
    rw[<-hw65] at hrun ⊢
    have z85:w65.cell? ⟨x8,1,none⟩=some (.slice A k c):=by rw[hw65];exact (H6.out.call ((Below.refl _ _).alloc (Nat.le_refl _) _)).b8.cell 1
    clear hw65;go_wp2_with fail;refine HK.out.zt (fun (_:World)=>True) (fun _ h=>h) (trivial) ?_;clear HK hS;intro hS;try simp only[zP]
    clear z85;refine zC 6 fun K HK=>?_
    refine dA rfl (.tmp 40) (.tmp 44) rfl rfl rfl hrun ?_;refine HK.out.zt (fun (_:World)=>True) (fun _ h=>h) (trivial) ?_;clear HK hS;intro hS;try simp only[zP]
    refine zt 7 hS ?_;try simp only[zP]
    refine zC 8 fun K HK=>?_
    go_simp;have h8:=HH8.out;obtain⟨w8,hw8⟩:∃ w8,w8=w7.setCell ⟨x8,1,none⟩ (.slice A7 (k+1) c7):=⟨_,rfl⟩
    rw[<-hw8];rw[<-hw8] at h8
    have H8:=zh h8;clear h8 hw8;go_wp2_with fail;refine HK.out.zt (fun (_:World)=>True) (fun _ h=>h) (trivial) ?_;clear HK hS;intro hS;try simp only[zP]
    refine zD ?_;try simp only[zP]
    clear hS;go_wp2_with fail
    go_roundw
    case rel=>exact ⟨k+1,A7,c7,J,by rw[HP.out.2.2.2.1];exact H8.out,by rw[HP.out.2.2.2.1];exact HP.out.2.2.2.2.2⟩
    case measure=>
     rw[wH (H8.out.b8.cell 1),hlc];omega
   ·skip
    have HK:=zh hK;clear hK;go_simp;refine(uZ wo.drew y p W (iZ q (k+1) m ++ rest) HP.out.1.rr.rd HP.out.2.2.2.2.1 HP.out.2.1.1 HP.out.2.1.2.valid (by have:=HP.out.2.1.2.pos;omega) HP.out.2.1.2.wd HP.out.2.1.2.tb HP.out.1.rr.er).mono ?_;rintro e w6 ⟨rfl,hg6,hrd6⟩;have H6:=zh (HP.out.1.read hg6 hrd6 hlt hx4w H3.out.2.2.2.1);clear hg6 hrd6;go_wp2_with fail;refine HK.out.zt (fun (_:World)=>True) (fun _ h=>h) (trivial) ?_;clear HK hS;intro hS;try simp only[zP]
    have hr6:dL w6 w.heap.size (.slice A k c) q k:=H6.out.row;obtain⟨A7,c7,w7,hrun,hap⟩:=iO (P:=Tryz.prog) (w:=w6) (t:=190) (ty:=190) (cs:=#[.int .i64 p.a,.int .i64 p.b,.int .i64 p.x.n,.int .i64 (aj p.x.s),.int .u64 (au p.x.s),.int .i64 p.x.lo,.int .i64 p.x.hi,.int .i64 p.x.f.t,.int .i64 p.x.f.v,.int .i64 p.x.f.s,.int .i64 p.x.l.t,.int .i64 p.x.l.v,.int .i64 p.x.l.s]) Tryz.underlying190 lM rfl J hr6 rfl (List.all_eq_true.1 rfl) J J H6.out.rr.gb.size;have hr7:dL w7 w.heap.size (.slice A7 (k+1) c7) q (k+1):=by
     show w7.ownsRow _ _ _ _ _ (gZ q (k+1))
     rw[HP.out.2.2.1];exact hap.row
    have hG:=H6.out.app hap.keeps hr7 hlt hE;have z7:=hG.2.2.1.cell 1;have zf:=hG.2.2.1.frozen;have h8:=qU.SY (wy:=w7.setCell ⟨x8,1,none⟩ (.slice A7 (k+1) c7)) hG.1 hG.2.1 hG.2.2.1 rfl hG.2.2.2 H3.out.2.2.2.2 (by have:=H3.out.2.2.2.1;omega) H3.out.2.2.2.1;have HH8:=zh h8;clear hr6 hap hr7 hG h8;refine fA (i:=1) (j:=5) rfl rfl (by kernel_rfl) (fun K hK=>?_) (fun K hK=>?_)
    ·skip
     have HK:=zh hK;clear hK;have z86:=H6.out.b8.cell 1;go_simp;go_wp2_with fail;refine HK.out.zt (fun (_:World)=>True) (fun _ h=>h) (trivial) ?_;clear HK hS;intro hS;try simp only[zP]
     clear z86;refine zC 5 fun K HK=>?_
     go_simp;obtain⟨w65,hw65⟩:∃ w65,w65=w6.alloc (.cells #[.int .i64 p.a,.int .i64 p.b,.int .i64 p.x.n,.int .i64 (aj p.x.s),.int .u64 (au p.x.s),.int .i64 p.x.lo,.int .i64 p.x.hi,.int .i64 p.x.f.t,.int .i64 p.x.f.v,.int .i64 p.x.f.s,.int .i64 p.x.l.t,.int .i64 p.x.l.v,.int .i64 p.x.l.s] 197):=⟨_,rfl⟩
     rw[<-hw65] at hrun ⊢
     have z85:w65.cell? ⟨x8,1,none⟩=some (.slice A k c):=by rw[hw65];exact (H6.out.call ((Below.refl _ _).alloc (Nat.le_refl _) _)).b8.cell 1
     clear hw65;go_wp2_with fail;refine HK.out.zt (fun (_:World)=>True) (fun _ h=>h) (trivial) ?_;clear HK hS;intro hS;try simp only[zP]
     clear z85;refine zC 6 fun K HK=>?_
     refine dA rfl (.tmp 40) (.tmp 44) rfl rfl rfl hrun ?_;refine HK.out.zt (fun (_:World)=>True) (fun _ h=>h) (trivial) ?_;clear HK hS;intro hS;try simp only[zP]
     refine zt 7 hS ?_;try simp only[zP]
     refine zC 8 fun K HK=>?_
     go_simp;have h8:=HH8.out;obtain⟨w8,hw8⟩:∃ w8,w8=w7.setCell ⟨x8,1,none⟩ (.slice A7 (k+1) c7):=⟨_,rfl⟩
     rw[<-hw8];rw[<-hw8] at h8
     have H8:=zh h8;clear h8 hw8;go_wp2_with fail;refine HK.out.zt (fun (_:World)=>True) (fun _ h=>h) (trivial) ?_;clear HK hS;intro hS;try simp only[zP]
     refine zD ?_;try simp only[zP]
     clear hS;go_wp2_with fail
     go_roundw
     case rel=>exact ⟨k+1,A7,c7,J,by rw[HP.out.2.2.2.1];exact H8.out,by rw[HP.out.2.2.2.1];exact HP.out.2.2.2.2.2⟩
     case measure=>
      rw[wH (H8.out.b8.cell 1),hlc];omega
    ·skip
     have HK:=zh hK;clear hK;go_simp;obtain⟨w65,hw65⟩:∃ w65,w65=w6.alloc (.cells #[.int .i64 p.a,.int .i64 p.b,.int .i64 p.x.n,.int .i64 (aj p.x.s),.int .u64 (au p.x.s),.int .i64 p.x.lo,.int .i64 p.x.hi,.int .i64 p.x.f.t,.int .i64 p.x.f.v,.int .i64 p.x.f.s,.int .i64 p.x.l.t,.int .i64 p.x.l.v,.int .i64 p.x.l.s] 197):=⟨_,rfl⟩
     rw[<-hw65] at hrun ⊢
     have z85:w65.cell? ⟨x8,1,none⟩=some (.slice A k c):=by rw[hw65];exact (H6.out.call ((Below.refl _ _).alloc (Nat.le_refl _) _)).b8.cell 1
     clear hw65;go_wp2_with fail;refine HK.out.zt (fun (_:World)=>True) (fun _ h=>h) (trivial) ?_;clear HK hS;intro hS;try simp only[zP]
     refine zC 1 fun K HK=>?_
     go_simp;go_wp2_with fail;refine HK.out.zt (fun (_:World)=>True) (fun _ h=>h) (trivial) ?_;clear HK hS;intro hS;try simp only[zP]
     clear z85;refine zC 6 fun K HK=>?_
     refine dA rfl (.tmp 40) (.tmp 44) rfl rfl rfl hrun ?_;refine HK.out.zt (fun (_:World)=>True) (fun _ h=>h) (trivial) ?_;clear HK hS;intro hS;try simp only[zP]
     refine zt 7 hS ?_;try simp only[zP]
     refine zC 8 fun K HK=>?_
     go_simp;have h8:=HH8.out;obtain⟨w8,hw8⟩:∃ w8,w8=w7.setCell ⟨x8,1,none⟩ (.slice A7 (k+1) c7):=⟨_,rfl⟩
     rw[<-hw8];rw[<-hw8] at h8
     have H8:=zh h8;clear h8 hw8;go_wp2_with fail;refine HK.out.zt (fun (_:World)=>True) (fun _ h=>h) (trivial) ?_;clear HK hS;intro hS;try simp only[zP]
     refine zD ?_;try simp only[zP]
     clear hS;go_wp2_with fail
     go_roundw
     case rel=>exact ⟨k+1,A7,c7,J,by rw[HP.out.2.2.2.1];exact H8.out,by rw[HP.out.2.2.2.1];exact HP.out.2.2.2.2.2⟩
     case measure=>
      rw[wH (H8.out.b8.cell 1),hlc];omega
  ·obtain rfl:k=nn:=J
   have dk:decide ((k:Int) < (k:Int))=false:=decide_eq_false J;have hnil:iZ q k (k-k) ++ rest=rest:=by rw[Nat.sub_self];rfl
   rw[hnil] at hP
   have z80:=hP.b8.cell 0;have z40:=hP.b4.cell 0;have z41:=hP.b4.cell 1;have zf:=hP.b4.frozen;have HP:=zh hP;have hst:=@jO Tryz.prog _ _ _ _ hP.b4 266 0 2 [.string s,.slice A k c] rfl (by decide) (by kernel_rfl) (List.all_eq_true.1 rfl);have hbf:=jc [.string s,.slice A k c] 0 wo _ hP.b4;have hkf:=fO (g:=x4) [.string s,.slice A k c] 0 wo;have hfull:fI #[.string ByteArray.empty,.slice none 0 0] 0 [.string s,.slice A k c]=[.string s,.slice A k c].toArray:=xJ (by simp)
   rw[hfull] at hbf
   have hg:=hP.rr.gb;have hrd:gq (setFrom wo x4 0 [.string s,.slice A k c]) y rest:=by
    obtain⟨A9,c9,hk9,hs9,hc9⟩:=hP.rr.rd;exact⟨A9,c9,hk9.keeps hkf (show y≠x4 by omega),hs9.keeps hkf (fun q hq e=>by have:q < y:=hq;omega),hc9⟩
   have hgb:w.grownBy (setFrom wo x4 0 [.string s,.slice A k c]) (some y):=⟨hkf.os.trans hg.os,hkf.tape.trans hg.tape,hkf.output.trans hg.output,Nat.le_trans hg.size hkf.size,fun q hq hne=>(hkf.block q (Nat.lt_of_lt_of_le hq hg.size) (fun e=>J)).trans (hg.block q hq hne)⟩
   have hrow:dL (setFrom wo x4 0 [.string s,.slice A k c]) w.heap.size (.slice A k c) q k:=aG hP.row hkf (fun g hg e=>own_ne hP.row hP.b4 (show 197≠266 by decide) (by rw[hg,e]));have HF:=zh (zN hgb (zN hrd (zN hrow hbf)));clear hP hbf hkf hg hrd hgb hrow hk5 hll;go_wp2_with (refine hst rfl _ _ rfl rfl rfl ?_);refine oH (fun wx=>w.grownBy wx (some y)/\gq wx y rest/\dL wx w.heap.size (.slice A k c) q k/\ay wx x4 266 #[.string s,.slice A k c]) HF.out ?_;rintro w9 ⟨h91,h92,h93,h94⟩;exact bodyPost_ret (v:=.agg #[.string s,.slice A k c]) (qK (P:=Tryz.prog) Tryz.results244 rfl h94 2 [.string s,.slice A k c] _ Tryz.underlying266 rfl rfl (by kernel_rfl) (fun j _=>by simp)) rfl ⟨A,c,rfl,h91,h92,h93⟩
def rH(b:Bool)(s:ByteArray)(nn:Nat)(q:Nat->bC): List Nat:=MR b.toNat (fun _=>s) (fun _=>nn) (fun _=>q)
theorem vI(s:ByteArray)(nn:Nat)(q:Nat->bC): rH false s nn q=V.aF 0 ++ []:=rfl
theorem yt(s:ByteArray)(nn:Nat)(q:Nat->bC): rH true s nn q=V.aF 1 ++ (qJ s nn q ++ []):=by
 show V.aF 1 ++ ([] ++ qJ s nn q)=_
 rw[List.nil_append,List.append_nil]
structure uN(w wx:World)(x y:Nat)(W O:Int)(l:List Nat): Prop where
 t:ay wx x 364 #[Z W,Z O]
 rr:gq wx y l
 er:V.dh wx
 av:Below w.heap.size w wx
theorem uN.read{w wx w':World}{x y:Nat}{W O:Int}{l l':List Nat}(h:uN w wx x y W O l)(hg:wx.grownBy w' (some y))(hr:gq w' y l')(hy:w.heap.size<=y): uN w w' x y W O l':=
 ⟨cZ hg h.t (fun e=>by
  injection e with e
  obtain⟨A,c,h1,-⟩:=h.rr;exact h.t.ne h1 (by decide) e),hr,AA h.er hg (Qi h.rr h.er),rD h.av hg hy⟩
theorem uN.call{w wx w':World}{x y:Nat}{W O:Int}{l:List Nat}(h:uN w wx x y W O l)(hb:Below wx.heap.size wx w'): uN w w' x y W O l:=
 ⟨h.t.below hb h.t.lt,h.rr.call hb,V.dh.below h.er hb,V.aB h.av hb⟩
theorem Bw(q:Nat->bC): ∀ k,∀ b ∈ mG q k,b < 256
 | 0,b,h=>by cases h
 | k+1,b,h=>by
  rcases List.mem_append.1 h with h | h
  ·exact Bw q k b h
  ·exact NH (q k) b h
theorem Fv(b:Bool)(s:ByteArray)(nn:Nat)(q:Nat->bC): ∀ x ∈ rH b s nn q,x < 256:=by
 have h1:∀ x ∈ qJ s nn q,x < 256:=gK (gK (gK (V.bH _) (V.nL s)) (V.bH _)) (Bw q nn)
 cases b with
 | false=>rw[vI];exact gK (V.bH _) (fun x h=>by cases h)
 | true=>rw[yt];exact gK (V.bH _) (gK h1 (fun x h=>by cases h))
def sS(w:World)(n:Nat)(s:ByteArray)(nn:Nat)(q:Nat->bC)(e:Ending)(w':World): Prop:=
 ∃ (A:Option Addr) (c:Nat) (At:Option Addr) (ct:Nat),e=.returned (.tuple #[.slice A n c,Z 0])/\P1 w' A n s At ct nn q/\Below w.heap.size w w'
structure pV(W O:Int)(s:ByteArray)(nn:Nat)(q:Nat->bC): Prop where
 name:fZ s=true
 size:s.size<=64
 pos:0 < nn
 tot:nn<=900
 bkt:∀ i,i < nn->vS W O (q i)
 full:∀ i,i < nn->jr (q i).x
 inc:∀ i,i+1 < nn->(q i).a < (q (i+1)).a
theorem pV.parts{W O:Int}{s:ByteArray}{nn:Nat}{q:Nat->bC}(h:pV W O s nn q)(b:Bool): sD W O b.toNat (fun _=>s) (fun _=>nn) (fun _=>q) where
 name:=fun _ _=>h.name
 size:=fun _ _=>h.size
 rise:=fun j hj=>by cases b<;>simp at hj
 pos:=fun _ _=>h.pos
 tot:=by
  have:=h.tot
  cases b
  ·exact Nat.zero_le _
  ·show 0+nn<=_;omega
 cn:=by cases b<;>decide
 bkt:=fun _ _=>h.bkt
 inc:=fun _ _=>h.inc
theorem Kn{w:World}{B c nn:Nat}{A At:Option Addr}{ct:Nat}{b:Bool}{nm:ByteArray}{q:Nat->bC}(h:w.ownsRow B 266 2 (.slice A b.toNat c) b.toNat (SQ b nm (.slice At nn ct)))(hq:b=true->jw w At nn q): P1 w A b.toNat nm At ct nn q:=
 ⟨Pg h,fun j hj=>hq (by
   cases b;· exact absurd hj (Nat.not_lt_zero _)
   ·rfl)⟩
def Sm: Value->Nat
 | .slice _ n _=>n
 | _=>0
theorem JF(w:World)(A:Option Addr)(len c:Nat)(D:Nat->Prop)(b:Bool)(s:ByteArray)(nn:Nat)(q:Nat->bC)(W O:Int)(bs:List Nat)(hbs:bs=F.aZ 8 (rH b s nn q))(hl:bs.length=len)(hsl:Sl w D A len (aI bs))(hby:∀ j,bs.getD j 0 < 256)(hlen:len<=1048576)(hlc:len<=c)(hk:bP W O)(hp:b=true->pV W O s nn q)(hv:V.dh w):
  Calls Tryz.prog 161 #[.slice A len c,.int .i64 W,.int .i64 O] w (sS w b.toNat s nn q):=by
 have hro:(rH b s nn q).length<=1048576:=by rw[hbs,F.bT] at hl;omega
 have hrb:∀ j,(rH b s nn q).getD j 0 < 256:=V.gG (Fv b s nn q)
 have hop:=F.MF (kind:=8) (by decide) hrb hro;rw[<-hbs] at hop
 obtain⟨x,hx⟩:∃ x,x=w.heap.size:=⟨_,rfl⟩
 have o0:=Own.bn w hx 364 #[.int .i64 W,.int .i64 O]
 have HD:=zh (zN o0 (zN hsl (zN hby (zN hl (zN hk (zN hp (zN hv (zN hop (zN hro hrb)))))))));have nt:∀ w:World,(Op.unary .not (.bool true)).run Tryz.prog w=.ok (.bool false) w:=bJ
 have nf:∀ w:World,(Op.unary .not (.bool false)).run Tryz.prog w=.ok (.bool true) w:=eP
 clear o0 hsl hby hl hk hp hv hop hro hrb hbs
 go_enter Tryz.func161,Tryz.ntmps161
 go_upto_region 2 with (fail)
 rw[<-hx];clear hx;refine aC (Own w [(x,364,#[.int .i64 W,.int .i64 O])]) HD.out.1 ?_;intro w1 h1;have H1:=zh h1;clear h1;go_wp2_with fail;refine(F.O8 w1 A len c D bs HD.out.2.2.2.1 (HD.out.2.1.keep (fun k _ hk=>H1.out.av.block k hk)) HD.out.2.2.1 J hlc).mono ?_;rintro e w2 ⟨A2,c2,rfl,ho2,hk2⟩;obtain⟨h0,h8,hI⟩:=HD.out.2.2.2.2.2.2.2.1;rw[h0,h8,hI];rw[hI] at ho2
 obtain⟨l2,hl2⟩:∃ l,l=rH b s nn q:=⟨_,rfl⟩
 rw[<-hl2] at ho2 ⊢
 obtain⟨n2,hn2⟩:∃ n,n=l2.length:=⟨_,rfl⟩
 rw[<-hn2] at ho2 ⊢
 have h2:=H1.out.call hk2.fF;have H2:=zh (zN h2 (zN ho2 (zN hl2 hn2)));have z0_0:=h2.c2 0;clear h2 ho2 hk2 hl2 hn2 h0 h8 hI;go_wp2_with fail;clear z0_0;refine(pF w2 W O).mono ?_;rintro e w3 ⟨rfl,hb3⟩;have H3:=zh (zN (H2.out.1.call hb3) hb3);clear hb3;go_wp2_with fail;refine(gH w3 W O HD.out.2.2.2.2.1).mono ?_;rintro e w4 ⟨rfl,hb4⟩;have H4:=zh (zN (H3.out.1.call hb4) (V.cO H2.out.2.1 (V.aB H3.out.2 hb4)));clear hb4;go_upto_region 6 with (fail)
 obtain⟨y,hy⟩:∃ y,y=w4.heap.size:=⟨_,rfl⟩
 have al:Below w4.heap.size w4 (w4.alloc (.cells #[.slice A2 n2 c2,.bool false] 369)):=(Below.refl _ _).alloc (Nat.le_refl _) _;have hG:uN w (w4.alloc (.cells #[.slice A2 n2 c2,.bool false] 369)) x y W O l2:=by
  have h5:=H4.out.1.call al;have hcap:=V.lY H4.out.2;refine⟨h5.get 0 rfl,⟨A2,c2,?_,?_,?_,hcap.2,?_⟩,HD.out.2.2.2.2.2.2.1.below h5.av,h5.av⟩
  ·rw[hy,<-H2.out.2.2.2];exact ay.fresh _ _ _
  ·rw[<-H2.out.2.2.2,hy]
   exact(V.gI H4.out.2).below al (fun _ _ hk=>hk)
  ·rw[<-H2.out.2.2.2];exact hcap.1
  ·rw[H2.out.2.2.1];exact HD.out.2.2.2.2.2.2.2.2.2
 have hyw:w.heap.size<=y:=by have:=H4.out.1.av.size;omega
 rw[<-hy];clear hy al;refine aC (fun wx=>uN w wx x y W O l2) hG ?_;clear hG;intro w5 h5;have H5:=zh h5;clear h5;have hl2:=H2.out.2.2.1;have hll2:l2.length<=1048576:=by rw[hl2];exact HD.out.2.2.2.2.2.2.2.2.1
 cases b with
 | false=>
  rw[vI] at hl2
  have hr:=H5.out.rr;rw[hl2] at hr hll2
  have HR:=zh (zN hr hll2);clear hr hl2 hll2;go_wp2_with fail;refine(uj w5 y 0 1024 [] HR.out.1 HR.out.2 J J H5.out.er).mono ?_;rintro e w6 ⟨rfl,hg6,hr6⟩;have H6:=zh (H5.out.read hg6 hr6 hyw);clear hg6 hr6;go_wp2_with fail
  go_loopw [13] (fun o wr=>o=.slice none 0 0/\uN w wr x y W O []) (fun _ _=>0)
  case atStart=>exact ⟨rfl,H6.out⟩
  case round=>
   obtain⟨rfl,hG⟩:=hrel;obtain⟨A7,c7,hk7,-⟩:=id hG.rr;have z0:=hk7.cell 0;have z1:=hk7.cell 1;have t0:=hG.t.cell 0;have t1:=hG.t.cell 1;have hl0:([]:List Nat).length=0:=rfl;rw[hl0] at z0
   have HG:=zh hG;clear hG hk7 hl0;go_wp2_with fail;clear t0 t1 z0 z1;refine(rT wr none 0 0 (fun _=>s) (fun _=>none) (fun _=>0) (fun _=>0) (fun _=>q) W O ⟨fun h=>absurd h J,fun j hj=>absurd hj J⟩ ⟨fun j hj=>absurd hj J,fun j hj=>absurd hj J,fun j hj=>absurd hj J,fun j hj=>absurd hj J,Nat.zero_le _,Nat.zero_le _,fun j hj=>absurd hj J,fun j hj=>absurd hj J⟩ HD.out.2.2.2.2.1).mono ?_;rintro e w8 ⟨rfl,hb8⟩;have H8:=zh (V.aB HG.out.av hb8);clear hb8;go_wp2_with fail;go_ret2;exact⟨none,0,none,0,rfl,P1.nil _ _ _ _ _ _,H8.out⟩
 | true=>
  rw[yt] at hl2
  have hr:=H5.out.rr;rw[hl2] at hr hll2
  have hpo:=HD.out.2.2.2.2.2.1 rfl;have hlp:(qJ s nn q ++ []).length<=1048576:=by rw[List.length_append] at hll2;omega
  have HR:=zh (zN hr (zN hll2 (zN hlp hpo)));clear hr hl2 hll2 hlp hpo;go_wp2_with fail;refine(uj w5 y 1 1024 (qJ s nn q ++ []) HR.out.1 HR.out.2.1 J J H5.out.er).mono ?_;rintro e w6 ⟨rfl,hg6,hr6⟩;have H6:=zh (H5.out.read hg6 hr6 hyw);clear hg6 hr6;go_wp2_with fail
  go_loopw [13] (fun o wr=>(o=.slice none 0 0/\uN w wr x y W O (qJ s nn q ++ []))\/(∃ A7 c7 At ct,o=.slice A7 1 c7/\uN w wr x y W O []/\wr.ownsRow w.heap.size 266 2 (.slice A7 1 c7) 1 [.string s,.slice At nn ct]/\dL wr w.heap.size (.slice At nn ct) q nn)) (fun o _=>1-Sm o)
  case atStart=>exact .inl ⟨rfl,H6.out⟩
  case round=>
   rcases hrel with ⟨rfl,hG⟩ | ⟨A7,c7,At,ct,rfl,hG,hr7,hb7⟩
   ·obtain ⟨wo,rfl⟩:∃ wo,wo=wr:=⟨wr,rfl⟩
    obtain⟨A7,c7,hk7,-⟩:=id hG.rr;have z1:=hk7.cell 1;have HG:=zh hG;clear hG hk7;go_wp2_with fail;clear z1;refine(JE wo y s nn q W O [] HG.out.rr HR.out.2.2.1 HR.out.2.2.2.size HR.out.2.2.2.tot (fun i hi=>⟨⟨(HR.out.2.2.2.bkt i hi).ta,HR.out.2.2.2.full i hi⟩,HR.out.2.2.2.bkt i hi⟩) HG.out.er).mono ?_;rintro e w8 ⟨A8,c8,rfl,hg8,hr8,hb8⟩;have h8:=HG.out.read hg8 hr8 hyw;obtain⟨A9,c9,w9,hrun,hap⟩:=iO (P:=Tryz.prog) (w:=w8) (base:=w.heap.size) (t:=174) (ty:=174) (v:=.slice none 0 0) (n:=0) (xs:=[]) (cs:=#[.string s,.slice A8 nn c8]) Tryz.underlying174 vH rfl J (⟨rfl,.inl ⟨rfl,rfl⟩⟩) rfl (List.all_eq_true.1 rfl) J J h8.av.size;have hb9:Below w8.heap.size w8 w9:=(hap.keeps.mono (fun q _ h=>(nomatch h:False))).fF;have H9:=zh (zN (h8.call hb9) (zN hap.row (aG (aN hb8 HG.out.av.size) (S:=fun _=>False) (Keeps.of_below hb9) (fun _ _ h=>h):dL w9 w.heap.size (.slice A8 nn c8) q nn)));clear hg8 hr8 hb8 h8 hap hb9;go_wp2_with (at_builtin;refine wpList_append_run rfl (.tmp 52) (.tmp 56) rfl rfl rfl hrun ?_)
    go_roundw
    case rel=>exact .inr ⟨A9,c9,A8,c8,rfl,H9.out.1,H9.out.2.1,H9.out.2.2⟩
    case measure=>simp[Sm]
   ·obtain ⟨A8,c8,hk8,-⟩:=id hG.rr
    have z0:=hk8.cell 0;have z1:=hk8.cell 1;have t0:=hG.t.cell 0;have t1:=hG.t.cell 1;have hl0:([]:List Nat).length=0:=rfl;rw[hl0] at z0
    have hP1:P1 wr A7 1 s At ct nn q:=Kn (b:=true) hr7 (fun _=>hb7.Fx);have HG:=zh (zN hG hP1);clear hG hk8 hl0 hr7 hb7 hP1;go_wp2_with fail;clear t0 t1 z0 z1;refine(rT wr A7 1 c7 (fun _=>s) (fun _=>At) (fun _=>ct) (fun _=>nn) (fun _=>q) W O HG.out.2 (HR.out.2.2.2.parts true) HD.out.2.2.2.2.1).mono ?_;rintro e w8 ⟨rfl,hb8⟩;have H8:=zh (zN (HG.out.2.below hb8) (V.aB HG.out.1.av hb8));clear hb8;go_wp2_with fail;go_ret2;exact⟨A7,c7,At,ct,rfl,H8.out.1,H8.out.2⟩
end
section
open A
def sH(W O:Int)(f:Nat->Pt)(k:Nat)(x:Int): List Pt:=(upTo f k).filter (fun p=>decide (aD W O p.t=x))
theorem Oi(W O:Int)(f:Nat->Pt)(k:Nat)(x:Int): sH W O f (k+1) x=sH W O f k x ++ (if aD W O (f k).t=x then [f k] else []):=by
 unfold sH;rw[Cx,List.filter_append]
 by_cases h:aD W O (f k).t=x<;>simp[h]
theorem wB(W O:Int)(f:Nat->Pt)(hf:∀ j,eU (f j)): ∀ k,k<=1000000->∀ x,(dS W O f k x=none/\sH W O f k x=[])\/∃ a,dS W O f k x=some a/\Has (sH W O f k x) a
 | 0,_,x=>.inl ⟨rfl,rfl⟩
 | k+1,hk,x=>by
  have ih:=wB W O f hf k J;rw[Oi]
  by_cases e:aD W O (f k).t=x
  ·subst e
   rw[if_pos rfl];have hg:dS W O f (k+1) (aD W O (f k).t)=some (bE ((dS W O f k (aD W O (f k).t)).getD aQ) (bR (f k))).1:=by show dR _ _ _ _=_;unfold dR;rw[if_pos rfl]
   rw[hg]
   right
   refine⟨_,rfl,?_⟩;rcases ih (aD W O (f k).t) with ⟨h1,h2⟩ | ⟨a,h1,h2⟩
   ·rw[h1,h2,Option.getD_none,List.nil_append,qE Bl (hf k) J,if_pos rfl]
    exact Has.one _
   ·rw[h1,Option.getD_some]
    obtain⟨m,hm1,hm2,hm3⟩:=uV W O f hf k J (aD W O (f k).t);rw[h1] at hm2 hm3
    have:=hm3 rfl;rw[Option.getD_some] at hm2
    rw[qE hm2 (hf k) J,if_neg J];exact h2.merge (Has.one _)
  ·rw[if_neg e,List.append_nil]
   have hg:dS W O f (k+1) x=dS W O f k x:=by show dR _ _ _ _=_;unfold dR;rw[if_neg (fun h=>e h.symm)]
   rw[hg];exact ih x
theorem LA{l:List Pt}{a:Ag}(h:Has l a)(hl:l.length<=4294967296): dM a=true:=by
 have h0:0 < l.length:=List.length_pos_of_mem h.fi;have e1:=h.n;obtain⟨u1,u2⟩:=h.sum;obtain⟨p,hp,_⟩:=h.lo;have v1:=h.lo_le _ h.fi;have v2:=h.hi_le _ h.fi;have v3:=h.lo_le _ h.la;have v4:=h.hi_le _ h.la;have v5:=h.f_le _ h.la;unfold dM;rw[Int.mul_comm] at u1 u2
 rw[if_neg J,if_neg J,if_neg J,if_neg J,if_neg J,if_neg J,if_neg (by rw[AP];exact v5),if_neg J,if_neg J]
 by_cases c:1 < a.n
 ·rw[if_pos c]
 ·rw[if_neg c]
  obtain⟨z,rfl⟩:∃ z,l=[z]:=List.length_eq_one_iff.1 J
  have f1:=h.fi;have f2:=h.la;obtain⟨p1,m1,q1⟩:=h.lo;obtain⟨p2,m2,q2⟩:=h.hi;simp only[List.mem_singleton] at f1 f2 m1 m2
  rw[if_neg (by rw[f1,f2,NW];simp)];subst m1 m2;rw[<-q1,<-q2];simp
theorem QM{W O:Int}{f:Nat->Pt}{n:Nat}(hf:∀ j,eU (f j))(ht:∀ j,j < n->0<=(f j).t/\(f j).t<=1000000)(hk:bP W O)(hn:n<=1000){x:Int}{a:Ag}(h:dS W O f n x=some a):
  vS W O ⟨x,x+W,a⟩/\jr a/\∃ m,0 < m/\m<=n/\iq a m:=by
 obtain⟨m,hm1,hm2,hm3⟩:=uV W O f hf n J x;rw[h] at hm2 hm3
 rw[Option.getD_some] at hm2
 have hm0:=hm3 rfl;rcases wB W O f hf n J x with ⟨h1,-⟩ | ⟨a',h1,hh⟩
 ·rw[h1] at h;cases h
 rw[h1] at h
 injection h with h
 subst h;have hin:∀ p ∈ sH W O f n x,aD W O p.t=x/\eU p/\0<=p.t/\p.t<=1000000:=fun p hp=>by
  unfold sH at hp
  rw[List.mem_filter,yA] at hp
  obtain⟨⟨j,hj,rfl⟩,hl⟩:=hp;exact⟨of_decide_eq_true hl,hf j,ht j hj⟩
 have hlen:(sH W O f n x).length<=n:=by
  unfold sH;exact Nat.le_trans (List.length_filter_le _ _) (by rw[xL];exact Nat.le_refl _)
 obtain⟨f1,f2,f3,f4⟩:=hin _ hh.fi;obtain⟨l1,l2,l3,l4⟩:=hin _ hh.la;have s1:=dD (t:=a'.f.t) hk;have s2:=dD (t:=a'.l.t) hk;rw[f1] at s1
 rw[l1] at s2
 have w1:=hk.w1;have w2:=hk.w2;have o1:=hk.o1;have o2:=hk.o2;have hn':=hm2.n;refine⟨⟨?_,?_,rfl,?_,LA hh J,hm2.ok J,by show 0 < a'.n;omega,s1,s2⟩,⟨hm2.ok J,f2,l2⟩,m,hm0,hm1,hm2⟩
 ·unfold aP;show _<=x/\x<=_;omega
 ·unfold aP;show _<=x+W/\x+W<=_;omega
 ·show (x-O).tmod W=0
  have e:x-O=W*((a'.f.t-O) / W):=by
   have:=Int.mul_ediv_add_emod (a'.f.t-O) W;rw[<-f1];unfold aD;omega
  rw[e];exact Int.mul_tmod_right _ _
def gY(g:Nat->Int): Nat->Int
 | 0=>0
 | k+1=>gY g k+g k
theorem zM(g:Nat->Int): ∀ k,gY g (k+1)=g 0+gY (fun j=>g (j+1)) k
 | 0=>by simp[gY]
 | k+1=>by
  have ih:=zM g k;show gY g (k+1)+g (k+1)=g 0+(gY (fun j=>g (j+1)) k+g (k+1))
  omega
theorem pR{g g':Nat->Int}: ∀ k,(∀ j,j < k->g j=g' j)->gY g k=gY g' k
 | 0,_=>rfl
 | k+1,h=>by
  show gY g k+g k=gY g' k+g' k
  rw[pR k (fun j hj=>h j J),h k J]
def lT(s:Int->Option Ag): List Int->Int
 | []=>0
 | x :: l=>((s x).getD aQ).s+lT s l
theorem Cv: ∀ l,lT (fun _=>none) l=0
 | []=>rfl
 | x :: l=>by show aQ.s+lT _ l=0;rw[Cv l];rfl
theorem FH{s:Int->Option Ag}{x:Int}{m:Ag}: ∀ l,x ∉ l->lT (dR s x m) l=lT s l
 | [],_=>rfl
 | y :: l,h=>by
  have hy:y≠x:=fun e=>h (by rw[e];exact List.mem_cons_self)
  show ((dR s x m y).getD aQ).s+lT _ l=((s y).getD aQ).s+lT s l
  rw[FH l (fun hx=>h (List.mem_cons_of_mem _ hx))];unfold dR;rw[if_neg hy]
theorem FI{s:Int->Option Ag}{x:Int}{m:Ag}: ∀ l,l.Nodup->x ∈ l->lT (dR s x m) l=lT s l-((s x).getD aQ).s+m.s
 | [],_,h=>by cases h
 | y :: l,hn,h=>by
  show ((dR s x m y).getD aQ).s+lT _ l=((s y).getD aQ).s+lT s l-((s x).getD aQ).s+m.s
  have hn':=List.nodup_cons.1 hn
  by_cases e:y=x
  ·subst e
   rw[FH l hn'.1];unfold dR;rw[if_pos rfl,Option.getD_some];omega
  ·have hx:x ∈ l:=(List.mem_cons.1 h).resolve_left (fun e'=>e e'.symm)
   rw[FI l hn'.2 hx];unfold dR;rw[if_neg e];omega
theorem Hq(W O:Int)(f:Nat->Pt)(hf:∀ j,eU (f j))(l:List Int)(hn:l.Nodup): ∀ k,k<=1000000->(∀ j,j < k->aD W O (f j).t ∈ l)->lT (dS W O f k) l=gY (fun j=>(f j).v) k
 | 0,_,_=>Cv l
 | k+1,hk,h=>by
  have ih:=Hq W O f hf l hn k J (fun j hj=>h j J);show lT (dR (dS W O f k) _ _) l=gY _ k+(f k).v
  rw[FI l hn (h k J),ih];obtain⟨m,hm1,hm2,hm3⟩:=uV W O f hf k J (aD W O (f k).t);rw[qE hm2 (hf k) J]
  by_cases h0:m=0
  ·rw[if_pos h0]
   have:=hm2.s;rw[h0] at this
   show _-_+(f k).v=_
   omega
  ·rw[if_neg h0]
   show _-_+(_+(f k).v)=_
   omega
theorem Ec(s:Int->Option Ag): ∀ l:List (Int × Ag),(∀ p ∈ l,s p.1=some p.2)->gY (fun j=>(l.getD j (0,aQ)).2.s) l.length=lT s (l.map (·.1))
 | [],_=>rfl
 | p :: l,h=>by
  rw[List.length_cons,zM];have ih:=Ec s l (fun q hq=>h q (List.mem_cons_of_mem _ hq));show p.2.s+gY (fun j=>(l.getD j (0,aQ)).2.s) l.length=((s p.1).getD aQ).s+lT s (l.map (·.1))
  rw[ih,h p List.mem_cons_self,Option.getD_some]
theorem DK{s:Int->Option Ag}{d:Array (Int × Ag)}(h:jG s d): (d.toList.map (·.1)).Nodup:=by
 refine List.pairwise_map.2 (h.inc.imp ?_);intro a b hab e;omega
theorem RQ{W O:Int}{f:Nat->Pt}{n:Nat}(hf:∀ j,eU (f j))(hn:n<=1000000){d:Array (Int × Ag)}(h:jG (dS W O f n) d): gY (fun j=>(d.toList.getD j (0,aQ)).2.s) d.toList.length=gY (fun j=>(f j).v) n:=by
 rw[Ec (dS W O f n) d.toList h.val,Hq W O f hf _ (DK h) n hn];intro j hj;have hs:(dS W O f n (aD W O (f j).t)).isSome=true:=by
  rcases wB W O f hf n hn (aD W O (f j).t) with ⟨-,h2⟩ | ⟨a,h1,-⟩
  ·have:f j ∈ sH W O f n (aD W O (f j).t):=by
    unfold sH;rw[List.mem_filter,yA];exact⟨⟨j,hj,rfl⟩,by simp⟩
   rw[h2] at this
   cases this
  ·rw[h1];rfl
 obtain⟨p,hp,he⟩:=h.all _ hs;exact List.mem_map.2 ⟨p,hp,he⟩
theorem QZ{a b:Ag}{k m:Nat}(h:iq a k)(hb:iq b m)(hm:0 < m)(hk:k+m<=1000000): (bE a b).1.s=a.s+b.s:=by
 have h1:=h.n;have h2:=h.s;have g1:=hb.n;have g2:=hb.s;rcases Nat.eq_zero_or_pos k with h0 | h0
 ·subst h0
  have e:bE a b=(b,0):=by
   unfold bE;rw[if_neg J,if_neg J,if_pos J]
  rw[e];show b.s=_
  omega
 ·have e:bE a b=(iH a b,0):=by
   unfold bE;rw[if_neg J,if_neg J,if_neg J,if_neg J,if_neg];rintro (hh | hh | hh)
   ·apply hh
    unfold dK;omega
   ·omega
   ·omega
  rw[e];rfl
theorem Hu{W O:Int}{n:Nat}{q:Nat->bC}{m:Nat->Nat}(h:mq W O n q m)(hn:n<=900){c:Int}(hc:∀ j,j < n->aD W O (q j).a=c): ∀ k,k<=n->
  (((gQ W O q k c).getD aQ).s=gY (fun j=>(q j).x.s) k/\(k=0->gQ W O q k c=none))/\(0 < k->∃ a,gQ W O q k c=some a/\0 < a.n)/\∀ x,x≠c->gQ W O q k x=none
 | 0,_=>⟨⟨rfl,fun _=>rfl⟩,fun h=>absurd h J,fun _ _=>rfl⟩
 | k+1,hk=>by
  obtain⟨⟨h1,h2⟩,h3,h4⟩:=Hu h hn hc k J;have hck:=hc k J;obtain⟨c0,hc0,hall⟩:=Ei h hn k J c;have hmx:=h.max k J;have hpos:=h.pos k J;have hs:=QZ hall (h.is k J) hpos J;have hi:=(yg hall (h.is k J) hpos J).2.n;have he:gQ W O q (k+1) c=some (bE ((gQ W O q k c).getD aQ) (q k).x).1:=by
   show dR _ _ _ _=_
   rw[hck];unfold dR;rw[if_pos rfl]
  refine⟨⟨?_,fun e=>absurd e J⟩,fun _=>⟨_,he,J⟩,fun x hx=>?_⟩
  ·rw[he,Option.getD_some,hs,h1]
   rfl
  ·have:gQ W O q (k+1) x=gQ W O q k x:=by
    show dR _ _ _ _=_
    rw[hck];unfold dR;rw[if_neg hx]
   rw[this];exact h4 x hx
theorem yS(a b:Nat)(ha:a<=64)(s:Int)(hs:s=9223372036854775807*(a:Int)-9223372036854775808*(b:Int)):
  aj s=((a:Int)-b) / 2-(if ((a:Int)-b)%2*9223372036854775808 < (a:Int) then 1 else 0)/\au s=(((a:Int)-b)%2*9223372036854775808-a)%18446744073709551616:=by
 unfold aj au;have h2:((a:Int)-b)%2=0\/((a:Int)-b)%2=1:=J;rcases h2 with h2 | h2
 ·rw[h2]
  split<;>omega
 ·rw[h2]
  split<;>omega
end
section
open Go.RowKit Go.Maps A
theorem jv.any{w:World}{M:Nat}{nm nm':ByteArray}{v v':Value}(h:jv w M false nm v): jv w M false nm' v':=by
 obtain⟨N,D,h1,h2,h3⟩:=h;refine⟨N,D,h1,h2,?_⟩;rw[mW] at h3 ⊢
 exact h3
theorem Ga(w:World)(A:Option Addr)(b:Bool)(c:Nat)(s:ByteArray)(At:Option Addr)(ct nn:Nat)(q:Nat->bC)(h:P1 w A b.toNat s At ct nn q)(hs:s.size<=64)(hnn:0 < nn)(hn9:nn<=900):
  Calls Tryz.prog 95 #[.slice none 0 0,.slice A b.toNat c] w (sS w b.toNat s nn q):=by
 have HD:=zh h;have hmm:=@run_makeMap Tryz.prog;obtain⟨n,hn⟩:∃ n,n=b.toNat:=⟨_,rfl⟩
 rw[<-hn] at HD
 rw[<-hn];have HN:=zh hn;clear hn;have nt:∀ w:World,(Op.unary .not (.bool true)).run Tryz.prog w=.ok (.bool false) w:=bJ
 clear h
 go_enter Tryz.func95,Tryz.ntmps95
 go_wp2_with fail;refine(vg w none 0 0 s At ct nn q (P1.nil _ _ _ _ _ _) J).mono ?_;rintro e w1 ⟨rfl,hb1⟩;have H1:=zh hb1;clear hb1;go_wp2_with fail;refine(vg w1 A n c s At ct nn q (HD.out.below H1.out) (by rw[HN.out];cases b<;>decide)).mono ?_;rintro e w2 ⟨rfl,hb2⟩;have H2:=zh (V.aB H1.out hb2);clear hb2;go_upto_region 4 with (fail)
 obtain⟨M,hM⟩:∃ M,M=w2.heap.size:=⟨_,rfl⟩
 rw[<-hM];have hMw:w.heap.size<=M:=by have:=H2.out.size;omega
 refine aC (fun wx=>jv wx M false s (.slice none 0 0)/\Below w.heap.size w wx) ⟨by rw[hM];exact jv.made _ _ _,H2.out.alloc H2.out.size _⟩ ?_;rintro w3 ⟨m3,hb3⟩;have H3:=zh (zN m3 hb3);clear m3 hb3 hM hmm
 cases b with
 | false=>
  obtain rfl:n=0:=HN.out;go_wp2_with fail
  go_loopw [23] (fun i wr=>i=.int .i64 0/\wr=w3) (fun _ _=>0)
  case atStart=>exact ⟨rfl,rfl⟩
  case round=>
   obtain⟨rfl,rfl⟩:=hrel;go_wp2_with fail
   go_loopw [37] (fun i w'=>i=.int .i64 0/\w'=wr) (fun i _=>0)
   case atStart=>exact ⟨rfl,rfl⟩
   case round=>
    obtain⟨rfl,rfl⟩:=hrel;go_wp2_with fail;refine(wZ _ M false s none 0 nn H3.out.1.any hs hnn).mono ?_;rintro e w5 ⟨A5,c5,rfl,hr5,hb5⟩;have H5:=zh (V.aB H3.out.2 hb5);clear hr5 hb5;go_wp2_with fail;go_ret2;exact⟨A5,c5,none,0,rfl,⟨fun h=>absurd h (by decide),fun j hj=>absurd hj (by show ¬ j < 0;omega)⟩,H5.out⟩
 | true=>
  obtain rfl:n=1:=HN.out;go_wp2_with fail
  go_loopw [23] (fun i wr=>i=.int .i64 0/\wr=w3) (fun _ _=>0)
  case atStart=>exact ⟨rfl,rfl⟩
  case round=>
   obtain⟨rfl,rfl⟩:=hrel;go_wp2_with fail
   go_loopw [37] (fun i w'=>(i=.int .i64 0/\jv w' M false s (.slice none 0 0)/\Below w.heap.size w w')\/(i=.int .i64 1/\∃ A2 c2,jv w' M true s (.slice A2 nn c2)/\dL w' w.heap.size (.slice A2 nn c2) q nn/\Below w.heap.size w w')) (fun i _=>1-(intOf i).toNat)
   case atStart=>exact .inl ⟨rfl,H3.out.1,H3.out.2⟩
   case round=>
    rcases hrel with ⟨rfl,m3,hb3⟩ | ⟨rfl,A2,c2,m2,hr2,hb2⟩
    ·have H3:=zh (zN m3 hb3)
     clear m3 hb3;have hP:=HD.out.below H3.out.2;obtain⟨bb,rfl,hbl,hc⟩:=hP.1 (by decide);obtain⟨u0,u1⟩:=hc 0 (by decide);simp only[Nat.zero_mul,Nat.zero_add] at u0 u1
     have hsl:=hP.2 0 (by decide);obtain⟨b2,rfl,hb2,-⟩:=id hsl hnn;have HS:=zh (zN hsl (zN hbl hb2));clear hP hc hsl hbl hb2;go_upto_region 12 with (fail)
     obtain⟨y,hy⟩:∃ y,y=wr.heap.size:=⟨_,rfl⟩
     have oy:=Own.bn wr hy 266 #[.string s,.slice (some ⟨b2,0,none⟩) nn ct]
     rw[<-hy];refine aC (Own wr [(y,266,#[.string s,.slice (some ⟨b2,0,none⟩) nn ct])]) oy ?_;clear oy hy u0 u1;intro w5 h5;have hlk:=(H3.out.1.call h5.av).look hs;rw[if_neg (by decide)] at hlk
     have hS:=h5.drew;have z0:=h5.c 0 0;have H5:=zh h5.drew;clear h5;go_upto_region 13 with (fail)
     clear hlk z0;have hS:(Own wr [(y,266,#[.string s,.slice (some ⟨b2,0,none⟩) nn ct])]) (w5.drew):=hS;refine aA (Own wr [(y,266,#[.string s,.slice (some ⟨b2,0,none⟩) nn ct])]) (by kernel_rfl) hS ?_;refine zB [0,1,2,3] ?_;iterate 4 (refine zv hS ?_;try simp only[zP])
     refine zE ?_;refine zB [4,5,6,7] ?_;iterate 4 (refine zW hS ?_;try simp only[zP])
     refine zE ?_;refine zB [8,9] ?_;iterate 2 (refine zv hS ?_;try simp only[zP])
     refine zE ?_;refine zB [10,11,12,13,14,15,16,17,18,19,20,21,22,23,24] ?_;iterate 15 (refine zW hS ?_;try simp only[zP])
     refine zE ?_;refine zt 25 hS ?_;try simp only[zP]
     refine zD ?_;try simp only[zP]
     clear hS;go_upto_region 15 with (fail)
     have hS:ay w5.drew.drew y 266 #[.string s,.slice (some ⟨b2,0,none⟩) nn ct]:=H5.out.drew.get 0 rfl
     have hsl5:jw w5.drew.drew (some ⟨b2,0,none⟩) nn q:=HS.out.1.below H5.out.drew.av;obtain⟨A6,c6,w6,hrun,hap⟩:=qo (P:=Tryz.prog) (w:=w5.drew.drew) (base:=w.heap.size) (t:=190) (ty:=190) (v:=.slice none 0 0) (n:=0) (m:=nn) (xs:=[]) (news:=gZ q nn) (a:=⟨b2,0,none⟩) (c:=ct) Tryz.underlying190 lM rfl J (⟨rfl,.inl ⟨rfl,rfl⟩⟩) (sG q nn) hsl5.news (Ak q nn) J J (Nat.le_trans H3.out.2.size H5.out.drew.av.size);have hr6:=hap.row;rw[List.nil_append] at hr6
     rw[Nat.zero_add] at hr6 hrun
     have hb6:Below w5.drew.drew.heap.size w5.drew.drew w6:=(hap.keeps.mono (fun q _ h=>(nomatch h:False))).fF;have hm6:=(H3.out.1.call H5.out.drew.av).call hb6;obtain⟨w7,hupd,hm7,hg7⟩:=hm6.upd (v:=.slice A6 nn c6) hs;have hS6:=hS.below hb6 hS.lt;have k7:Keeps (fun q=>q=M) w6 w7:=(Keeps.refl _ w6).grown hg7 (fun k e _=>by injection e with e;exact e.symm);have hS7:ay w7 y 266 #[.string s,.slice (some ⟨b2,0,none⟩) nn ct]:=hS6.keeps k7 (fun e=>by have:=H3.out.1.lt;have:=H5.out.geq 0 rfl;omega)
     have hr7:dL w7 w.heap.size (.slice A6 nn c6) q nn:=aG hr6 k7 (fun g hg e=>by
      have h1:=hap.own g (by rw[Nat.zero_add];exact hg);have h2:=H3.out.1.lt;have h3:=H5.out.drew.av.size;rcases h1 with h1 | h1
      ·cases h1
      ·omega)
     have hb7:Below w.heap.size w w7:=((V.aB H3.out.2 H5.out.drew.av).trans (hb6.mono (Nat.le_trans H3.out.2.size H5.out.drew.av.size))).trans (k7.below (Nat.le_trans (Nat.le_trans H3.out.2.size H5.out.drew.av.size) hb6.size) (fun k hk e=>J));have H7:=zh (zN hm7 (zN hr7 hb7));clear hsl5 hap hr6 hb6 hm6 hm7 hg7 k7 hr7 hb7;have hS:(fun wx=>ay wx y 266 #[.string s,.slice (some ⟨b2,0,none⟩) nn ct]) (w5.drew.drew):=hS;refine aA (fun wx=>ay wx y 266 #[.string s,.slice (some ⟨b2,0,none⟩) nn ct]) (by kernel_rfl) hS ?_;refine zB [0,1,2,3,4,5] ?_;iterate 6 (refine zV ?_ ?_ hS ?_;rotate_left;(intro w' hSw;have v0:=hSw.cell 0;have v1:=hSw.cell 1;go_simp<;>with_reducible rfl);try simp only[zP])
     refine zE ?_;refine zC 6 fun K HK=>?_
     refine dA rfl (.tmp 74) (.tmp 76) rfl rfl rfl hrun ?_;refine HK.out.zt (fun wx=>ay wx y 266 #[.string s,.slice (some ⟨b2,0,none⟩) nn ct]) (fun _ h=>h) (hS6) ?_;clear HK hS;intro hS;try simp only[zP]
     refine zC 7 fun K HK=>?_
     go_simp;go_wp2_with fail;refine HK.out.zt (fun wx=>ay wx y 266 #[.string s,.slice (some ⟨b2,0,none⟩) nn ct]) (fun _ h=>h) (hS7) ?_;clear HK hS;intro hS;try simp only[zP]
     refine zD ?_;try simp only[zP]
     clear hS hS6 hS7 hrun hupd;go_wp2_with fail
     go_roundw
     case rel=>exact .inr ⟨rfl,A6,c6,H7.out.1,H7.out.2.1,H7.out.2.2⟩
     case measure=>simp[intOf]
    ·have HL:=zh (zN m2 (zN hr2 hb2))
     clear m2 hr2 hb2;go_wp2_with fail;refine(wZ _ M true s A2 c2 nn HL.out.1 hs hnn).mono ?_;rintro e w5 ⟨A5,c5,rfl,hr5,hb5⟩;have hrow:dL w5 w.heap.size (.slice A2 nn c2) q nn:=aG HL.out.2.1 (S:=fun _=>False) (Keeps.of_below hb5) (fun _ _ h=>h);have H5:=zh (zN (Kn (b:=true) hr5 (fun _=>hrow.Fx)) (V.aB HL.out.2.2 hb5));clear hr5 hb5 hrow;go_wp2_with fail;go_ret2;exact⟨A5,c5,A2,c2,rfl,H5.out.1,H5.out.2⟩
theorem El(w:World)(low:Int): Calls Tryz.prog 96 #[.slice none 0 0,.int .i64 low] w fun e w'=>e=.returned (.slice none 0 0)/\Below w.heap.size w w':=by
 go_enter Tryz.func96,Tryz.ntmps96
 go_wp2_with fail
 go_loopw [5,13] (fun o i wr=>o=.slice none 0 0/\i=.int .i64 0/\Below w.heap.size w wr) (fun _ _ _=>0)
 case atStart=>exact ⟨rfl,rfl,Below.refl _ _⟩
 case round=>
  obtain⟨rfl,rfl,hb⟩:=hrel;have HB:=zh hb;clear hb;go_wp2_with fail;go_ret;exact⟨rfl,HB.out⟩
theorem Jl(w:World)(s:ByteArray)(v:Value)(hv:v.oneCell'=true)(x:Nat)(h:w.cell? ⟨x,0,none⟩=some (.string s)): Calls Tryz.prog 187 #[.agg #[.string s,v],.pointer (some ⟨x,0,none⟩)] w fun e w'=>e=.returned (.bool true)/\Below w.heap.size w w':=by
 obtain⟨y,hy⟩:∃ y,y=w.heap.size:=⟨_,rfl⟩
 have o0:=Own.bn w hy 266 #[.string s,v]
 have hx:x < w.heap.size:=World.block_lt_of_cell? w _ h;have HD:=zh (zN o0 h);clear o0 h
 go_enter Tryz.func187,Tryz.ntmps187
 go_upto_region 1 with (fail)
 rw[<-hy];clear hy;refine aC (Own w [(y,266,#[.string s,v])]) HD.out.1 ?_;intro w1 h1;have z0:=h1.c 0 0;have zx:=(h1.av.cell (p:=⟨x,0,none⟩) hx).trans HD.out.2;have hss:(s.toList == s.toList)=true:=by simp
 have H1:=zh h1;clear h1;go_wp2_with fail;go_ret;exact⟨rfl,H1.out.av⟩
theorem Es(w:World)(A:Option Addr)(c x:Nat): Calls Tryz.prog 186 #[.slice A 0 c,.func (.func 187) #[] #[.pointer (some ⟨x,0,none⟩)]] w fun e w'=>e=.returned (.int .i64 (-1))/\Below w.heap.size w w':=by
 go_enter Tryz.func186,Tryz.ntmps186
 go_wp2_with fail
 go_loopw [8] (fun i wr=>i=.int .i64 0/\Below w.heap.size w wr) (fun _ _=>0)
 case atStart=>exact ⟨rfl,Below.refl _ _⟩
 case round=>
  obtain⟨rfl,hb⟩:=hrel;have HB:=zh hb;clear hb;go_wp2_with fail;go_ret;exact⟨rfl,HB.out⟩
theorem Et(w:World)(A:Option Addr)(c x:Nat)(s:ByteArray)(At:Option Addr)(ct nn:Nat)(q:Nat->bC)(h:P1 w A 1 s At ct nn q)(hx:w.cell? ⟨x,0,none⟩=some (.string s)): Calls Tryz.prog 186 #[.slice A 1 c,.func (.func 187) #[] #[.pointer (some ⟨x,0,none⟩)]] w fun e w'=>e=.returned (.int .i64 0)/\Below w.heap.size w w':=by
 have HD:=zh (zN h hx);clear h hx
 go_enter Tryz.func186,Tryz.ntmps186
 go_wp2_with fail
 go_loopw [8] (fun i wr=>i=.int .i64 0/\Below w.heap.size w wr) (fun _ _=>0)
 case atStart=>exact ⟨rfl,Below.refl _ _⟩
 case round=>
  obtain⟨rfl,hb⟩:=hrel;obtain⟨bb,rfl,hbl,hc⟩:=(HD.out.1.below hb).1 J;obtain⟨u0,u1⟩:=hc 0 J;simp only[Nat.zero_mul,Nat.zero_add] at u0 u1
  have hxl:x < w.heap.size:=World.block_lt_of_cell? w _ HD.out.2;have HB:=zh (zN hb ((hb.cell (p:=⟨x,0,none⟩) hxl).trans HD.out.2));clear hb hbl hc;go_wp2_with fail;refine(Jl wr s (.slice At nn ct) rfl x HB.out.2).mono ?_;rintro e w2 ⟨rfl,hb2⟩;have H2:=zh (V.aB HB.out.1 hb2);clear hb2 u0 u1;go_wp2_with fail;go_ret;exact⟨rfl,H2.out⟩
theorem Jj(w:World)(A:Option Addr)(c:Nat)(s:ByteArray)(a b:Int): Calls Tryz.prog 114 #[.slice A 0 c,.string s,.agg #[Z a,Z b]] w fun e w'=>e=.returned (.slice none 0 0)/\Below w.heap.size w w':=by
 obtain⟨x,hx⟩:∃ x,x=w.heap.size:=⟨_,rfl⟩
 have o0:=Own.eD w hx 9 #[.string s] 171 #[Z a,Z b]
 have HD:=zh o0;clear o0
 go_enter Tryz.func114,Tryz.ntmps114
 go_upto_region 1 with (fail)
 rw[<-hx];clear hx;refine aC (Own w [(x,9,#[.string s]),(x+1,171,#[Z a,Z b])]) HD.out ?_;intro w1 h1;have H1:=zh h1;clear h1;go_wp2_with fail;refine(Es w1 A c x).mono ?_;rintro e w2 ⟨rfl,hb2⟩;have H2:=zh (H1.out.call hb2);clear hb2;go_wp2_with fail;go_ret;exact⟨rfl,H2.out.av⟩
def Di(w:World)(nn:Nat)(q:Nat->bC)(e:Ending)(w':World): Prop:=∃ A c,e=.returned (.slice A nn c)/\dL w' w.heap.size (.slice A nn c) q nn/\Below w.heap.size w w'
theorem Jk(w:World)(A:Option Addr)(c:Nat)(s:ByteArray)(At:Option Addr)(ct nn:Nat)(q:Nat->bC)(a b:Int)(h:P1 w A 1 s At ct nn q)(hin:∀ i,i < nn->a<=(q i).a/\(q i).b<=b)(hn:nn<=900): Calls Tryz.prog 114 #[.slice A 1 c,.string s,.agg #[.int .i64 a,.int .i64 b]] w (Di w nn q):=by
 obtain⟨x,hx⟩:∃ x,x=w.heap.size:=⟨_,rfl⟩
 have o0:=Own.eD w hx 9 #[.string s] 171 #[.int .i64 a,.int .i64 b]
 have HD:=zh (zN o0 (zN h hin));clear o0 h hin
 go_enter Tryz.func114,Tryz.ntmps114
 go_upto_region 1 with (fail)
 rw[<-hx];clear hx;refine aC (Own w [(x,9,#[.string s]),(x+1,171,#[.int .i64 a,.int .i64 b])]) HD.out.1 ?_;intro w1 h1;have H1:=zh h1;clear h1;go_wp2_with fail;refine(Et w1 A c x s At ct nn q (HD.out.2.1.below H1.out.av) (H1.out.cell 0 0 rfl rfl)).mono ?_;rintro e w2 ⟨rfl,hb2⟩;have h2:=H1.out.call hb2;obtain⟨bb,rfl,hbl,hc⟩:=(HD.out.2.1.below h2.av).1 J;obtain⟨u0,u1⟩:=hc 0 J;simp only[Nat.zero_mul,Nat.zero_add] at u0 u1
 have H2:=zh h2;clear h2 hb2 hbl hc;go_wp2_with fail
 go_loopw [8,22] (fun o i wr=>∃ k,k<=nn/\i=.int .i64 (k:Nat)/\dL wr w.heap.size o q k/\Own w [(x,9,#[.string s]),(x+1,171,#[.int .i64 a,.int .i64 b])] wr) (fun _ i _=>nn-(intOf i).toNat)
 case atStart=>exact ⟨0,Nat.zero_le _,rfl,⟨rfl,.inl ⟨rfl,rfl⟩⟩,H2.out⟩
 case round=>
  obtain⟨k,hk,rfl,hr,hO⟩:=hrel;obtain⟨wo,rfl⟩:∃ wo,wo=wr:=⟨wr,rfl⟩
  obtain⟨A3,c3,hv3,-,-⟩:=aH hr;subst hv3
  by_cases hlt:k < nn
  ·have hki:(k:Int) < (nn:Int):=J
   have hsl:jw wo At nn q:=(HD.out.2.1.below hO.av).2 0 J;obtain⟨b2,rfl,hb2,hc2⟩:=hsl J;have hck:=hc2 k hlt;have hik:=HD.out.2.2 k hlt;have hv8:gZ q (k+1)=gZ q k ++ mI (q k):=rfl;obtain⟨p,hp⟩:∃ p,p=q k:=⟨_,rfl⟩
   rw[<-hp] at hck hik hv8
   have v0:=hck 0 _ rfl;have v1:=hck 1 _ rfl;have v2:=hck 2 _ rfl;have v3:=hck 3 _ rfl;have v4:=hck 4 _ rfl;have v5:=hck 5 _ rfl;have v6:=hck 6 _ rfl;have v7:=hck 7 _ rfl;have v8:=hck 8 _ rfl;have v9:=hck 9 _ rfl;have v10:=hck 10 _ rfl;have v11:=hck 11 _ rfl;have v12:=hck 12 _ rfl;simp only[Nat.add_zero] at v0
   have d1:decide (a<=p.a)=true:=decide_eq_true hik.1;have d2:decide (p.b<=b)=true:=decide_eq_true hik.2;have HB:=zh (zN hr (zN hO hv8));clear hr hO hv8 hsl hc2 hck hik hp hb2;go_upto_region 8 with (fail)
   obtain⟨y,hy⟩:∃ y,y=wo.heap.size:=⟨_,rfl⟩
   have oy:=HB.out.2.1.alloc hy 197 #[.int .i64 p.a,.int .i64 p.b,.int .i64 p.x.n,.int .i64 (aj p.x.s),.int .u64 (au p.x.s),.int .i64 p.x.lo,.int .i64 p.x.hi,.int .i64 p.x.f.t,.int .i64 p.x.f.v,.int .i64 p.x.f.s,.int .i64 p.x.l.t,.int .i64 p.x.l.v,.int .i64 p.x.l.s]
   have al:Below wo.heap.size wo (wo.alloc (.cells #[.int .i64 p.a,.int .i64 p.b,.int .i64 p.x.n,.int .i64 (aj p.x.s),.int .u64 (au p.x.s),.int .i64 p.x.lo,.int .i64 p.x.hi,.int .i64 p.x.f.t,.int .i64 p.x.f.v,.int .i64 p.x.f.s,.int .i64 p.x.l.t,.int .i64 p.x.l.v,.int .i64 p.x.l.s] 197)):=(Below.refl _ _).alloc (Nat.le_refl _) _;have ra:dL (wo.alloc (.cells #[.int .i64 p.a,.int .i64 p.b,.int .i64 p.x.n,.int .i64 (aj p.x.s),.int .u64 (au p.x.s),.int .i64 p.x.lo,.int .i64 p.x.hi,.int .i64 p.x.f.t,.int .i64 p.x.f.v,.int .i64 p.x.f.s,.int .i64 p.x.l.t,.int .i64 p.x.l.v,.int .i64 p.x.l.s] 197)) w.heap.size (.slice A3 k c3) q k:=aG HB.out.1 (S:=fun _=>False) (Keeps.of_below al) (fun _ _ h=>h);rw[<-hy];refine aC (fun wx=>Own w [(x,9,#[.string s]),(x+1,171,#[.int .i64 a,.int .i64 b]),(y,197,#[.int .i64 p.a,.int .i64 p.b,.int .i64 p.x.n,.int .i64 (aj p.x.s),.int .u64 (au p.x.s),.int .i64 p.x.lo,.int .i64 p.x.hi,.int .i64 p.x.f.t,.int .i64 p.x.f.v,.int .i64 p.x.f.s,.int .i64 p.x.l.t,.int .i64 p.x.l.v,.int .i64 p.x.l.s])] wx/\dL wx w.heap.size (.slice A3 k c3) q k) ⟨oy,ra⟩ ?_;clear oy hy al ra v0 v1 v2 v3 v4 v5 v6 v7 v8 v9 v10 v11 v12;rintro w5 ⟨h5,hr5⟩;have z0_0:=h5.c 0 0;have z1_0:=h5.c2 1;have z2_0:=h5.c13 2;obtain⟨A7,c7,w7,hrun,hap⟩:=iO (P:=Tryz.prog) (w:=w5) (t:=190) (ty:=190) (cs:=#[.int .i64 p.a,.int .i64 p.b,.int .i64 p.x.n,.int .i64 (aj p.x.s),.int .u64 (au p.x.s),.int .i64 p.x.lo,.int .i64 p.x.hi,.int .i64 p.x.f.t,.int .i64 p.x.f.v,.int .i64 p.x.f.s,.int .i64 p.x.l.t,.int .i64 p.x.l.v,.int .i64 p.x.l.s]) Tryz.underlying190 lM rfl J hr5 rfl (List.all_eq_true.1 rfl) J J h5.size;have hb7:=hap.av hr5 h5.av h5.size;have ho7:Own w [(x,9,#[.string s]),(x+1,171,#[.int .i64 a,.int .i64 b])] w7:=⟨hb7,fun bq hbq=>⟨((h5.take 2).blk bq hbq).1,((h5.take 2).blk bq hbq).2.keeps hap.keeps (fun hs=>by
    refine own_ne hr5 ((h5.take 2).blk bq hbq).2 ?_ hs;simp only[List.mem_cons,List.not_mem_nil,or_false] at hbq
    rcases hbq with rfl | rfl
    ·show 197≠9;decide
    ·show 197≠171;decide)⟩,(h5.take 2).nd⟩
   have hr7:dL w7 w.heap.size (.slice A7 (k+1) c7) q (k+1):=by
    show w7.ownsRow _ _ _ _ _ (gZ q (k+1))
    rw[HB.out.2.2];exact hap.row
   have H7:=zh (zN hr7 ho7);clear hap hb7 ho7 hr7 h5 hr5;go_wp2_with (at_builtin;refine wpList_append_run rfl (.tmp 40) (.tmp 42) rfl rfl rfl hrun ?_)
   go_roundw
   case rel=>exact ⟨k+1,J,by first | rfl | go_num,H7.out.1,H7.out.2⟩
   case measure=>simp[intOf]<;>omega
  ·obtain rfl:k=nn:=J
   have HB:=zh (zN hr hO);clear hr hO;go_wp2_with fail;go_ret;exact⟨A3,c3,rfl,HB.out.1,HB.out.2.av⟩
theorem F7(w:World)(y:Ag)(h:0 < y.n): Calls Tryz.prog 107 #[.agg #[Z y.n,Z (aj y.s),.int .u64 (au y.s),Z y.lo,Z y.hi,Z y.f.t,Z y.f.v,Z y.f.s,Z y.l.t,Z y.l.v,Z y.l.s],Z 1] w fun e w'=>e=.returned (.tuple #[.agg #[Z (aj y.s),.int .u64 (au y.s)],.bool true])/\Below w.heap.size w w':=by
 obtain⟨x,hx⟩:∃ x,x=w.heap.size:=⟨_,rfl⟩
 have o0:=Own.eD w hx 195 #[Z y.n,Z (aj y.s),.int .u64 (au y.s),Z y.lo,Z y.hi,Z y.f.t,Z y.f.v,Z y.f.s,Z y.l.t,Z y.l.v,Z y.l.s] 52 #[Z 0,.int .u64 0]
 have d1:decide (y.n<=0)=false:=decide_eq_false J;have HD:=zh o0;clear o0 h
 go_enter Tryz.func107,Tryz.ntmps107
 go_upto_region 1 with (fail)
 rw[<-hx];clear hx;refine aC (Own w [(x,195,#[Z y.n,Z (aj y.s),.int .u64 (au y.s),Z y.lo,Z y.hi,Z y.f.t,Z y.f.v,Z y.f.s,Z y.l.t,Z y.l.v,Z y.l.s]),(x+1,52,#[Z 0,.int .u64 0])]) HD.out ?_;intro w1 h1;have H1:=zh h1;have z0_0:=h1.c11 0;have z1_0:=h1.c2 1;clear h1;go_upto_region 4 with (fail)
 clear z0_0 z1_0;obtain⟨z,hz⟩:∃ z,z=w1.heap.size:=⟨_,rfl⟩
 have o2:=H1.out.alloc hz 193 #[Z 0,.int .u64 0]
 rw[<-hz];refine aC (Own w [(x,195,#[Z y.n,Z (aj y.s),.int .u64 (au y.s),Z y.lo,Z y.hi,Z y.f.t,Z y.f.v,Z y.f.s,Z y.l.t,Z y.l.v,Z y.l.s]),(x+1,52,#[Z 0,.int .u64 0]),(z,193,#[Z 0,.int .u64 0])]) o2 ?_;clear o2 hz;intro w2 h2;have H2:=zh h2;have z0_0:=h2.c11 0;have z1_0:=h2.c2 1;have z2_0:=h2.c2 2;have zf:=h2.free 2 rfl;clear h2;go_upto_region 20 with (fail)
 clear z0_0 z1_0 z2_0 zf;have h3:=((H2.out.set 2 0 rfl (Z (aj y.s))).set 2 1 rfl (.int .u64 (au y.s)))
 refine aC (Own w [(x,195,#[Z y.n,Z (aj y.s),.int .u64 (au y.s),Z y.lo,Z y.hi,Z y.f.t,Z y.f.v,Z y.f.s,Z y.l.t,Z y.l.v,Z y.l.s]),(x+1,52,#[Z 0,.int .u64 0]),(z,193,#[Z (aj y.s),.int .u64 (au y.s)])]) h3 ?_;clear h3;intro w4 h4;have H4:=zh h4;have s0:=h4.c2 2;have b0:=h4.c2 1;have bf:=h4.free 1 rfl;clear h4;go_wp2_with fail;have h5:=((H4.out.set 1 0 rfl (Z (aj y.s))).set 1 1 rfl (.int .u64 (au y.s)))
 have y0:=h5.c2 1;refine bodyPost_ret (v:=.tuple #[.agg #[Z (aj y.s),.int .u64 (au y.s)],.bool true]) (by simp[results,Tryz.results107,go_sem,y0]) rfl ?_;exact⟨rfl,h5.av⟩
theorem Jf(w:World)(A:Option Addr)(n c:Nat)(q:Nat->bC)(m:Nat->Nat)(W O:Int)(hsl:jw w A n q)(hn:n<=900)(hj:mq W O n q m)(hk:bP W O):
  Calls Tryz.prog 184 #[.slice A n c,.agg (bX W O)] w (Af w W (gQ W O q n)):=by
 obtain⟨x,hx⟩:∃ x,x=w.heap.size:=⟨_,rfl⟩
 have o0:=Own.bn w hx 211 (bX W O);have hmm:=@run_makeMap Tryz.prog;have HD:=zh (zN o0 (zN hsl (zN hj hk)));have nt:∀ w:World,(Op.unary .not (.bool true)).run Tryz.prog w=.ok (.bool false) w:=bJ
 clear o0 hsl hj hk;unfold bX
 go_enter Tryz.func184,Tryz.ntmps184
 go_upto_region 1 with (fail)
 rw[<-hx];clear hx;refine aC (Own w [(x,211,bX W O)]) HD.out.1 ?_;intro w1 h1;have H1:=zh h1;have z0_0:=h1.c3 0;clear h1;go_wp2_with fail;refine(gH w1 W O HD.out.2.2.2).mono ?_;rintro e w2 ⟨rfl,hb2⟩;have h2:=H1.out.call hb2;have H2:=zh h2;clear hb2 z0_0;have z0_0:=h2.c3 0;clear h2;go_upto_region 4 with (fail)
 clear z0_0;obtain⟨M,hM⟩:∃ M,M=w2.heap.size:=⟨_,rfl⟩
 have hG0:eT w.heap.size w (M+1) M W O (gQ W O q 0) 0 ((w2.alloc (.map #[] 0)).alloc (.cells #[.int .i64 W,.int .i64 W,.int .i64 O,.map (some M)] 394))/\ay ((w2.alloc (.map #[] 0)).alloc (.cells #[.int .i64 W,.int .i64 W,.int .i64 O,.map (some M)] 394)) x 211 (bX W O):=by
  have hsz:=H2.out.av.size;refine⟨⟨?_,⟨0,.map [],?_,Nat.le_refl _,mE.nil⟩,?_,J,J,Nat.le_refl _⟩,((H2.out.get 0 rfl).alloc _).alloc _⟩
  ·have h:=ay.fresh (w2.alloc (.map #[] 0)) 394 #[.int .i64 W,.int .i64 W,.int .i64 O,.map (some M)]
   rw[show (w2.alloc (.map #[] 0)).heap.size=M+1 by rw[hM];simp] at h
   exact h
  ·rw[hM]
   exact(World.ownsMap_made _ _ _ _:World.ownsMap _ _ _ _ _ _ _).alloc _
  ·exact (H2.out.av.alloc hsz _).alloc (by simp;omega) _
 rw[<-hM];refine aC (fun wx=>eT w.heap.size w (M+1) M W O (gQ W O q 0) 0 wx/\ay wx x 211 (bX W O)) hG0 ?_;clear hG0 hM;intro w4 h4;have H4:=zh h4;clear h4;go_wp2_with fail
 go_loopw [21] (fun i wr=>∃ k:Nat,k<=n/\i=.int .i64 (k:Nat)/\eT w.heap.size w (M+1) M W O (gQ W O q 0) 0 wr/\ay wr x 211 (bX W O)) (fun i _=>n-(intOf i).toNat)
 case atStart=>exact ⟨0,Nat.zero_le _,rfl,H4.out⟩
 case round=>
  obtain⟨k,hk,rfl,hG,hbx⟩:=hrel
  by_cases hlt:k < n
  ·have hki:(k:Int) < (n:Int):=J
   obtain⟨bb,rfl,hbl,hc⟩:=(HD.out.2.1.below hG.av) J;have hck:=hc k hlt;have ho1:=HD.out.2.2.1.one k hlt;have ho2:=HD.out.2.2.1.tb k hlt;have ho3:=HD.out.2.2.1.lt k hlt;have ho4:=HD.out.2.2.1.valid k hlt;have ho5:=HD.out.2.2.1.is k hlt;have ho6:=HD.out.2.2.1.pos k hlt;have ho7:=HD.out.2.2.1.max k hlt;have hpr:∀ k',k=k'+1->(q k').b<=(q k).a/\wr.cell? ⟨bb,k'*13+1,none⟩=some (.int .i64 (q k').b):=fun k' e=>by
    subst e;exact⟨HD.out.2.2.1.ord k' hlt,hc k' J 1 _ rfl⟩
   obtain⟨p,hpe⟩:∃ p,p=q k:=⟨_,rfl⟩
   rw[<-hpe] at hck ho1 ho2 ho3 ho4 ho5 hpr
   obtain⟨a,b,y⟩:=p;have u0:=hck 0 _ rfl;have u1:=hck 1 _ rfl;have u2:=hck 2 _ rfl;have u3:=hck 3 _ rfl;have u4:=hck 4 _ rfl;have u5:=hck 5 _ rfl;have u6:=hck 6 _ rfl;have u7:=hck 7 _ rfl;have u8:=hck 8 _ rfl;have u9:=hck 9 _ rfl;have u10:=hck 10 _ rfl;have u11:=hck 11 _ rfl;have u12:=hck 12 _ rfl;have hv:=A.vO y (ho5.ok J);rw[ho4] at hv
   unfold A.qb at hv
   have hyn:(y.n == 0)=false:=by
    have:y.n=(m k:Nat):=ho5.n;simp;omega
   have dab:decide (b<=a)=false:=decide_eq_false (Int.not_le.2 ho3);have hta:=ho1.ta;have HB:=zh (zN hG (zN hbx (zN hv (zN hta (zN ho2 (zN ho1 (zN hpr hbl)))))));clear hc hck hG hbx ho1 ho2 ho4 ho5 ho6 ho7 hpr hv hta hbl hpe;simp only[Nat.add_zero] at u0
   go_upto_region 7 with (fail)
   obtain⟨bx,hbxe⟩:∃ y,y=wr.heap.size:=⟨_,rfl⟩
   have oy:=Own.bn wr hbxe 197 #[.int .i64 a,.int .i64 b,.int .i64 y.n,.int .i64 (aj y.s),.int .u64 (au y.s),.int .i64 y.lo,.int .i64 y.hi,.int .i64 y.f.t,.int .i64 y.f.v,.int .i64 y.f.s,.int .i64 y.l.t,.int .i64 y.l.v,.int .i64 y.l.s]
   rw[<-hbxe];refine aC (Own wr [(bx,197,#[.int .i64 a,.int .i64 b,.int .i64 y.n,.int .i64 (aj y.s),.int .u64 (au y.s),.int .i64 y.lo,.int .i64 y.hi,.int .i64 y.f.t,.int .i64 y.f.v,.int .i64 y.f.s,.int .i64 y.l.t,.int .i64 y.l.v,.int .i64 y.l.s])]) oy ?_;clear oy u0 u1 u2 u3 u4 u5 u6 u7 u8 u9 u10 u11 u12 hbxe;intro w5 h5;have hS:=h5.drew;have H5:=zh h5;clear h5
   cases k with
   | zero=>
    have d0:decide ((0:Int) < ((0:Nat):Int))=false:=by simp
    have hS:(Own wr [(bx,197,#[.int .i64 a,.int .i64 b,.int .i64 y.n,.int .i64 (aj y.s),.int .u64 (au y.s),.int .i64 y.lo,.int .i64 y.hi,.int .i64 y.f.t,.int .i64 y.f.v,.int .i64 y.f.s,.int .i64 y.l.t,.int .i64 y.l.v,.int .i64 y.l.s])]) (w5.drew):=hS;refine aA (Own wr [(bx,197,#[.int .i64 a,.int .i64 b,.int .i64 y.n,.int .i64 (aj y.s),.int .u64 (au y.s),.int .i64 y.lo,.int .i64 y.hi,.int .i64 y.f.t,.int .i64 y.f.v,.int .i64 y.f.s,.int .i64 y.l.t,.int .i64 y.l.v,.int .i64 y.l.s])]) (by kernel_rfl) hS ?_;refine zB [0,1] ?_;iterate 2 (refine zV ?_ ?_ hS ?_;rotate_left;(intro w' hSw;obtain⟨v0,v1,v2,v3,v4,v5,v6,v7,v8,v9,v10,v11,v12⟩:=hSw.c13 0;go_simp<;>with_reducible rfl);try simp only[zP])
    refine zE ?_;refine zC 2 fun K HK=>?_
    go_simp;refine(HB.out.2.2.1 w5.drew).mono ?_;rintro e w6 ⟨rfl,hb⟩;have H6:=zh (H5.out.drew.call hb);clear hb;go_wp2_with fail;refine HK.out.zt (Own wr [(bx,197,#[.int .i64 a,.int .i64 b,.int .i64 y.n,.int .i64 (aj y.s),.int .u64 (au y.s),.int .i64 y.lo,.int .i64 y.hi,.int .i64 y.f.t,.int .i64 y.f.v,.int .i64 y.f.s,.int .i64 y.l.t,.int .i64 y.l.v,.int .i64 y.l.s])]) (fun _ h=>h) (H6.out) ?_;clear HK hS;intro hS;try simp only[zP]
    refine zB [3,4,5,6,7,8,9,10,11,12,13] ?_;iterate 11 (refine zV ?_ ?_ hS ?_;rotate_left;(intro w' hSw;have v0:=hSw.c 0 0;have v2:=hSw.c 0 2;go_simp<;>with_reducible rfl);try simp only[zP])
    refine zE ?_;refine zC 14 fun K HK=>?_
    go_simp;refine(mK w6 a HB.out.2.2.2.1).mono ?_;rintro e w7 ⟨rfl,hb⟩;have H7:=zh (H6.out.call hb);clear hb;go_wp2_with fail;refine HK.out.zt (Own wr [(bx,197,#[.int .i64 a,.int .i64 b,.int .i64 y.n,.int .i64 (aj y.s),.int .u64 (au y.s),.int .i64 y.lo,.int .i64 y.hi,.int .i64 y.f.t,.int .i64 y.f.v,.int .i64 y.f.s,.int .i64 y.l.t,.int .i64 y.l.v,.int .i64 y.l.s])]) (fun _ h=>h) (H7.out) ?_;clear HK hS;intro hS;try simp only[zP]
    refine zB [15,16,17,18,19,20] ?_;iterate 6 (refine zV ?_ ?_ hS ?_;rotate_left;(intro w' hSw;have v1:=hSw.c 0 1;go_simp<;>with_reducible rfl);try simp only[zP])
    refine zE ?_;refine zC 21 fun K HK=>?_
    go_simp;refine(mK w7 b HB.out.2.2.2.2.1).mono ?_;rintro e w8 ⟨rfl,hb⟩;have H8:=zh (H7.out.call hb);clear hb;go_wp2_with fail;refine HK.out.zt (Own wr [(bx,197,#[.int .i64 a,.int .i64 b,.int .i64 y.n,.int .i64 (aj y.s),.int .u64 (au y.s),.int .i64 y.lo,.int .i64 y.hi,.int .i64 y.f.t,.int .i64 y.f.v,.int .i64 y.f.s,.int .i64 y.l.t,.int .i64 y.l.v,.int .i64 y.l.s])]) (fun _ h=>h) (H8.out) ?_;clear HK hS;intro hS;try simp only[zP]
    refine zB [22,23,24,25,26,27,28,29,30,31,32,33,34,35,36] ?_;iterate 15 (refine zV ?_ ?_ hS ?_;rotate_left;(intro w' hSw;obtain⟨v0,v1⟩:=hSw.c2 0;go_simp<;>with_reducible rfl);try simp only[zP])
    refine zE ?_;refine zB [37,38,39,40,41,42,43,44,45,46,47] ?_;iterate 11 (refine zW hS ?_;try simp only[zP])
    refine zE ?_;refine zB [48,49,50] ?_;iterate 3 (refine zv hS ?_;try simp only[zP])
    refine zE ?_;refine zT 51 ?_ ?_ hS ?_;rotate_left
    ·(intro w' hSw;obtain⟨v0,v1,v2,v3,v4,v5,v6,v7,v8,v9,v10,v11,v12⟩:=hSw.c13 0;go_simp<;>with_reducible rfl)
    try simp only[zP]
    refine zT 52 ?_ ?_ hS ?_;rotate_left
    ·(intro w' hSw;have hx':ay w' x 211 #[.int .i64 W,.int .i64 W,.int .i64 O]:=HB.out.2.1.below hSw.av HB.out.2.1.lt;have v0:=hx'.cell 0;have v1:=hx'.cell 1;have v2:=hx'.cell 2;go_simp<;>with_reducible rfl)
    try simp only[zP]
    refine zC 53 fun K HK=>?_
    go_simp;refine(yX w8 W O a b y HD.out.2.2.2 HB.out.2.2.2.2.2.1).mono ?_;rintro e w9 ⟨rfl,hb⟩;have H9:=zh (H8.out.call hb);clear hb;go_wp2_with fail;refine HK.out.zt (Own wr [(bx,197,#[.int .i64 a,.int .i64 b,.int .i64 y.n,.int .i64 (aj y.s),.int .u64 (au y.s),.int .i64 y.lo,.int .i64 y.hi,.int .i64 y.f.t,.int .i64 y.f.v,.int .i64 y.f.s,.int .i64 y.l.t,.int .i64 y.l.v,.int .i64 y.l.s])]) (fun _ h=>h) (H9.out) ?_;clear HK hS;intro hS;try simp only[zP]
    refine zB [54,55] ?_;iterate 2 (refine zv hS ?_;try simp only[zP])
    refine zE ?_;refine zD ?_;try simp only[zP]
    clear hS;go_wp2_with fail
    go_roundw
    case rel=>exact ⟨1,J,by first | rfl | go_num,HB.out.1.call H9.out.av,HB.out.2.1.below H9.out.av HB.out.2.1.lt⟩
    case measure=>simp[intOf]<;>omega
   | succ k'=>
    obtain⟨hpr1,hpr2⟩:=HB.out.2.2.2.2.2.2.1 k' rfl;obtain⟨pb,hpb⟩:∃ z,z=(q k').b:=⟨_,rfl⟩
    rw[<-hpb] at hpr1 hpr2
    have dk:IntKind.i64.wrap ((k':Int))=(k':Int):=by simp only[IntKind.wrap_i64];omega
    have dl:decide (a < pb)=false:=decide_eq_false (Int.not_lt.2 hpr1);have d0:decide ((0:Int) < (k':Int)+1)=true:=decide_eq_true J;have dk1:(0:Int)<=(k':Int):=J;have dk2:(k':Int) < (n:Int):=J;have HP:=zh hpr2;clear hpr2 hpr1 hpb;have hS:(Own wr [(bx,197,#[.int .i64 a,.int .i64 b,.int .i64 y.n,.int .i64 (aj y.s),.int .u64 (au y.s),.int .i64 y.lo,.int .i64 y.hi,.int .i64 y.f.t,.int .i64 y.f.v,.int .i64 y.f.s,.int .i64 y.l.t,.int .i64 y.l.v,.int .i64 y.l.s])]) (w5.drew):=hS;refine aA (Own wr [(bx,197,#[.int .i64 a,.int .i64 b,.int .i64 y.n,.int .i64 (aj y.s),.int .u64 (au y.s),.int .i64 y.lo,.int .i64 y.hi,.int .i64 y.f.t,.int .i64 y.f.v,.int .i64 y.f.s,.int .i64 y.l.t,.int .i64 y.l.v,.int .i64 y.l.s])]) (by kernel_rfl) hS ?_;refine zB [0,1] ?_;iterate 2 (refine zV ?_ ?_ hS ?_;rotate_left;(intro w' hSw;obtain⟨v0,v1,v2,v3,v4,v5,v6,v7,v8,v9,v10,v11,v12⟩:=hSw.c13 0;go_simp<;>with_reducible rfl);try simp only[zP])
    refine zE ?_;refine zC 2 fun K HK=>?_
    go_simp;refine(HB.out.2.2.1 w5.drew).mono ?_;rintro e w6 ⟨rfl,hb⟩;have H6:=zh (H5.out.drew.call hb);clear hb;go_wp2_with fail;refine HK.out.zt (Own wr [(bx,197,#[.int .i64 a,.int .i64 b,.int .i64 y.n,.int .i64 (aj y.s),.int .u64 (au y.s),.int .i64 y.lo,.int .i64 y.hi,.int .i64 y.f.t,.int .i64 y.f.v,.int .i64 y.f.s,.int .i64 y.l.t,.int .i64 y.l.v,.int .i64 y.l.s])]) (fun _ h=>h) (H6.out) ?_;clear HK hS;intro hS;try simp only[zP]
    refine zB [3,4,5,6,7,8,9,10,11,12,13] ?_;iterate 11 (refine zV ?_ ?_ hS ?_;rotate_left;(intro w' hSw;have v0:=hSw.c 0 0;have v2:=hSw.c 0 2;go_simp<;>with_reducible rfl);try simp only[zP])
    refine zE ?_;refine zC 14 fun K HK=>?_
    go_simp;refine(mK w6 a HB.out.2.2.2.1).mono ?_;rintro e w7 ⟨rfl,hb⟩;have H7:=zh (H6.out.call hb);clear hb;go_wp2_with fail;refine HK.out.zt (Own wr [(bx,197,#[.int .i64 a,.int .i64 b,.int .i64 y.n,.int .i64 (aj y.s),.int .u64 (au y.s),.int .i64 y.lo,.int .i64 y.hi,.int .i64 y.f.t,.int .i64 y.f.v,.int .i64 y.f.s,.int .i64 y.l.t,.int .i64 y.l.v,.int .i64 y.l.s])]) (fun _ h=>h) (H7.out) ?_;clear HK hS;intro hS;try simp only[zP]
    refine zB [15,16,17,18,19,20] ?_;iterate 6 (refine zV ?_ ?_ hS ?_;rotate_left;(intro w' hSw;have v1:=hSw.c 0 1;go_simp<;>with_reducible rfl);try simp only[zP])
    refine zE ?_;refine zC 21 fun K HK=>?_
    go_simp;refine(mK w7 b HB.out.2.2.2.2.1).mono ?_;rintro e w8 ⟨rfl,hb⟩;have H8:=zh (H7.out.call hb);clear hb;go_wp2_with fail;refine HK.out.zt (Own wr [(bx,197,#[.int .i64 a,.int .i64 b,.int .i64 y.n,.int .i64 (aj y.s),.int .u64 (au y.s),.int .i64 y.lo,.int .i64 y.hi,.int .i64 y.f.t,.int .i64 y.f.v,.int .i64 y.f.s,.int .i64 y.l.t,.int .i64 y.l.v,.int .i64 y.l.s])]) (fun _ h=>h) (H8.out) ?_;clear HK hS;intro hS;try simp only[zP]
    refine zB [22,23,24,25,26,27,28,29,30,31,32,33,34,35,36] ?_;iterate 15 (refine zV ?_ ?_ hS ?_;rotate_left;(intro w' hSw;obtain⟨v0,v1⟩:=hSw.c2 0;go_simp<;>with_reducible rfl);try simp only[zP])
    refine zE ?_;refine zB [37,38,39,40,41,42,43,44,45,46,47] ?_;iterate 11 (refine zV ?_ ?_ hS ?_;rotate_left;(intro w' hSw;have v0:=hSw.c 0 0;have pc:=(hSw.av.cell (p:=⟨bb,k'*13+1,none⟩) HB.out.2.2.2.2.2.2.2).trans HP.out;go_simp<;>with_reducible rfl);try simp only[zP])
    refine zE ?_;refine zB [48,49,50] ?_;iterate 3 (refine zv hS ?_;try simp only[zP])
    refine zE ?_;refine zT 51 ?_ ?_ hS ?_;rotate_left
    ·(intro w' hSw;obtain⟨v0,v1,v2,v3,v4,v5,v6,v7,v8,v9,v10,v11,v12⟩:=hSw.c13 0;go_simp<;>with_reducible rfl)
    try simp only[zP]
    refine zT 52 ?_ ?_ hS ?_;rotate_left
    ·(intro w' hSw;have hx':ay w' x 211 #[.int .i64 W,.int .i64 W,.int .i64 O]:=HB.out.2.1.below hSw.av HB.out.2.1.lt;have v0:=hx'.cell 0;have v1:=hx'.cell 1;have v2:=hx'.cell 2;go_simp<;>with_reducible rfl)
    try simp only[zP]
    refine zC 53 fun K HK=>?_
    go_simp;refine(yX w8 W O a b y HD.out.2.2.2 HB.out.2.2.2.2.2.1).mono ?_;rintro e w9 ⟨rfl,hb⟩;have H9:=zh (H8.out.call hb);clear hb;go_wp2_with fail;refine HK.out.zt (Own wr [(bx,197,#[.int .i64 a,.int .i64 b,.int .i64 y.n,.int .i64 (aj y.s),.int .u64 (au y.s),.int .i64 y.lo,.int .i64 y.hi,.int .i64 y.f.t,.int .i64 y.f.v,.int .i64 y.f.s,.int .i64 y.l.t,.int .i64 y.l.v,.int .i64 y.l.s])]) (fun _ h=>h) (H9.out) ?_;clear HK hS;intro hS;try simp only[zP]
    refine zB [54,55] ?_;iterate 2 (refine zv hS ?_;try simp only[zP])
    refine zE ?_;refine zD ?_;try simp only[zP]
    clear hS;go_wp2_with fail
    go_roundw
    case rel=>exact ⟨k'+1+1,J,by first | rfl | go_num,HB.out.1.call H9.out.av,HB.out.2.1.below H9.out.av HB.out.2.1.lt⟩
    case measure=>simp[intOf]<;>omega
  ·obtain rfl:k=n:=J
   have HG:=zh hG;clear hG hbx;go_wp2_with fail
   go_loopw [85] (fun i wr=>∃ j:Nat,j<=k/\i=.int .i64 (j:Nat)/\eT w.heap.size w (M+1) M W O (gQ W O q j) j wr) (fun i _=>k-(intOf i).toNat)
   case atStart=>exact ⟨0,Nat.zero_le _,rfl,HG.out⟩
   case round=>
    obtain⟨j,hj,rfl,hG⟩:=hrel
    by_cases hlt:j < k
    ·have hki:(j:Int) < (k:Int):=J
     obtain⟨bb,rfl,hbl,hc⟩:=(HD.out.2.1.below hG.av) J;have hck:=hc j hlt;have hta:=(HD.out.2.2.1.one j hlt).ta;have hok:=(HD.out.2.2.1.is j hlt).ok (by have:=HD.out.2.2.1.max j hlt;omega);have hgm:=LD HD.out.2.2.1 hn j hlt;have hgs:gQ W O q (j+1)=dR (gQ W O q j) (aD W O (q j).a) (bE ((gQ W O q j (aD W O (q j).a)).getD aQ) (q j).x).1:=rfl;obtain⟨p,hpe⟩:∃ p,p=q j:=⟨_,rfl⟩
     rw[<-hpe] at hck hta hok hgm hgs
     obtain⟨a,b,y⟩:=p;have u0:=hck 0 _ rfl;have u1:=hck 1 _ rfl;have u2:=hck 2 _ rfl;have u3:=hck 3 _ rfl;have u4:=hck 4 _ rfl;have u5:=hck 5 _ rfl;have u6:=hck 6 _ rfl;have u7:=hck 7 _ rfl;have u8:=hck 8 _ rfl;have u9:=hck 9 _ rfl;have u10:=hck 10 _ rfl;have u11:=hck 11 _ rfl;have u12:=hck 12 _ rfl;have HB:=zh (zN hG (zN (show aP a from hta) (zN (show kU y from hok) (zN hgm hgs))));clear hc hck hta hok hgm hgs hG hpe;simp only[Nat.add_zero] at u0
     go_upto_region 13 with (fail)
     obtain⟨bx,hbx⟩:∃ z,z=wr.heap.size:=⟨_,rfl⟩
     have oy:=Own.bn wr hbx 197 #[.int .i64 a,.int .i64 b,.int .i64 y.n,.int .i64 (aj y.s),.int .u64 (au y.s),.int .i64 y.lo,.int .i64 y.hi,.int .i64 y.f.t,.int .i64 y.f.v,.int .i64 y.f.s,.int .i64 y.l.t,.int .i64 y.l.v,.int .i64 y.l.s]
     rw[<-hbx];refine aC (Own wr [(bx,197,#[.int .i64 a,.int .i64 b,.int .i64 y.n,.int .i64 (aj y.s),.int .u64 (au y.s),.int .i64 y.lo,.int .i64 y.hi,.int .i64 y.f.t,.int .i64 y.f.v,.int .i64 y.f.s,.int .i64 y.l.t,.int .i64 y.l.v,.int .i64 y.l.s])]) oy ?_;clear oy u0 u1 u2 u3 u4 u5 u6 u7 u8 u9 u10 u11 u12;intro w5 h5;have hyM:bx≠M:=by have:=HB.out.1.lt.2;omega
     have H5:=zh (zN (HB.out.1.call h5.av) (zN hyM (h5.get 0 rfl)));have v0:=h5.c 0 0;have v2:=h5.c 0 2;have v3:=h5.c 0 3;have v4:=h5.c 0 4;have v5:=h5.c 0 5;have v6:=h5.c 0 6;have v7:=h5.c 0 7;have v8:=h5.c 0 8;have v9:=h5.c 0 9;have v10:=h5.c 0 10;have v11:=h5.c 0 11;have v12:=h5.c 0 12;clear h5 hyM hbx;go_wp2_with fail;refine(BO w5 w.heap.size w (M+1) M W O (gQ W O q j) j a y _ _ H5.out.1 HD.out.2.2.2 HB.out.2.1 HB.out.2.2.1 rfl HB.out.2.2.2.1.1 HB.out.2.2.2.1.2 J).mono ?_;rintro e w7 ⟨rfl,hG7,k7⟩;have hgs:=HB.out.2.2.2.2;rw[<-hgs] at hG7
     have H7:=zh hG7;clear hG7 k7 hgs v0 v2 v3 v4 v5 v6 v7 v8 v9 v10 v11 v12;go_wp2_with fail
     go_roundw
     case rel=>exact ⟨j+1,J,by go_num,H7.out⟩
     case measure=>simp[intOf]<;>omega
    ·obtain rfl:j=k:=J
     have HB:=zh hG;clear hG;have hkb:∀ z,(gQ W O q j z).isSome=true->-2305843009213693952<=z/\z<=2305843009213693952:=fun z hz=>by
      obtain⟨i,hi,rfl⟩:=Ht W O q j z hz;have h1:=dD HD.out.2.2.2 (t:=(q i).a);have h2:=(HD.out.2.2.1.one i hi).ta;have h3:=HD.out.2.2.2.w2;have h4:=h2.1;have h5:=h2.2;omega
     have HK:=zh hkb;clear hkb;go_wp2_with fail;refine(uI wr w.heap.size w (M+1) M W O (gQ W O q j) j HB.out HD.out.2.2.2 HK.out J).mono ?_;rintro e w5 ⟨d,A',c',rfl,hr,hb,hbk⟩;have H5:=zh (zN (aN hr HB.out.av.size) (zN (HB.out.av.trans (hb.mono HB.out.av.size)) hbk));clear hr hb hbk;go_wp2_with fail;go_ret2;exact⟨d,A',c',rfl,H5.out⟩
end
section
open Go.RowKit Go.ChangeShapes Go.WideShapes Go.Deep
theorem Oj{H:Type}{enc:TypeId × Value->H}{w:World}{fuel:Nat}{a:Option Addr}{len cap:Nat}{x:DataW H × List MemPlace}(h:DataW.trod enc Tryz.prog w 0 (fun _=>true) true fuel 45 (Value.cells (.slice a len cap)).toList=some x): ∃ f:Nat->Bool,Sl w (fun q=>q < w.heap.size) a len (fun j=>.bool (f j)):=by
 rcases open_bools Tryz.underlying45 Tryz.underlying4 (by kernel_rfl) h with ⟨hcs,_⟩ | ⟨ad,l,c,B,hcs,_,hl,hm,_,hcell⟩
 ·simp[Value.cells] at hcs
  obtain⟨rfl,rfl,rfl⟩:=hcs;exact⟨fun _=>false,fun hn=>absurd hn J⟩
 ·simp[Value.cells] at hcs
  obtain⟨rfl,rfl,rfl⟩:=hcs;refine⟨B,fun hn=>?_⟩;obtain⟨b,off,spot⟩:=ad;have hspot:spot=none:=by
   have:=hcell 0 J
   simpa [Addr.add] using World.cell?_spot this
  subst hspot;have hadd:∀ i,(⟨b,off,none⟩:Addr).add i=⟨b,off+i,none⟩:=fun i=>by unfold Addr.add;split<;>simp_all
  refine⟨b,off,rfl,World.block_lt_of_cell? w _ (hcell 0 J),fun j hj=>?_⟩;have:=hcell j J
  rwa [hadd] at this
end
end Go.Proofs.YtmffkpkgbdcnjaaGreatDoor
