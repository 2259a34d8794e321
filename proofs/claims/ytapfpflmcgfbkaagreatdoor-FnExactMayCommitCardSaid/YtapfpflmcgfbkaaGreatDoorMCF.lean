/-
  The texts UD, UEa, UF, UG, UH, UI, UJ, UK, UL, UM, RICM, G, GXL of this proof, one behind the other: what each proves stands at its head. No condition.
-/
import Derived.Test.YtapfpflmcgfbkaaGreatDoorProg
import Derived.KernelRfl
import Derived.Test.YtapfpflmcgfbkaaGreatDoorMCA
import Derived.Test.YtapfpflmcgfbkaaGreatDoorMCB
import Derived.Test.YtapfpflmcgfbkaaGreatDoorMCC
import Derived.Test.YtapfpflmcgfbkaaGreatDoorMCD
import Derived.Test.YtapfpflmcgfbkaaGreatDoorMCE
namespace Go.Proofs.YtapfpflmcgfbkaaGreatDoor.Ri
open Go.Proofs.YtapfpflmcgfbkaaGreatDoor.Fw
set_option linter.unusedVariables false
set_option linter.unusedSimpArgs false
set_option maxRecDepth 100000
theorem begB_list {z p:ByteArray} (h:begB z p=true):sbytes z=sbytes p++sbytes (cutS z p.size z.size):=by
 have hs:=begB_size h
 have hc:=of_decide_eq_true (Bool.and_eq_true_iff.1 h).2
 have h1:=congrArg sbytes hc
 rw[cutS_list,List.drop_zero] at h1
 have ht:(sbytes z).take z.size=sbytes z:=List.take_of_length_le (by rw[sbytes_lenE];exact Nat.le_refl _)
 rw[cutS_list,ht,←h1]
 exact(List.take_append_drop _ _).symm
theorem sbytes_kn (h:ByteArray) (n:Int) (t:ByteArray):sbytes (kn h n t)=sbytes h++(sbytes (itoaS n)++sbytes t):=by
 unfold kn
 rw[sbytes_app,sbytes_app,List.append_assoc]
theorem dec_ne47: ∀ u:Nat,47 ∉ Lib.decDigits u:=by
 intro u
 have key: ∀ d:Fin 10,(47:UInt8)≠UInt8.ofNat (48+d.val):=by decide +kernel
 induction u using Nat.strongRecOn with
 | _ u ih =>
  rw[Lib.decDigits]
  split
  ·rename_i h
   intro hm
   exact key ⟨u,h⟩ (List.mem_singleton.1 hm)
  ·rename_i h
   intro hm
   rcases List.mem_append.1 hm with hm | hm
   ·exact ih (u / 10) (by omega) hm
   ·exact key ⟨u % 10,by omega⟩ (List.mem_singleton.1 hm)
theorem itoa_ne47 {n:Int} (h:I6 n):47 ∉ sbytes (itoaS n):=by
 rw[itoaS_list h.1 h.2]
 unfold Lib.itoa
 split
 ·intro hm
  rcases List.mem_cons.1 hm with hm | hm
  ·exact absurd hm (by decide)
  ·exact dec_ne47 _ hm
 ·exact dec_ne47 _
theorem parse47: ∀ {a b x y:List UInt8},47 ∉ a→47 ∉ b→a++47::x=b++47::y→x=y
 | [],[],x,y,_,_,h=>(List.cons.inj h).2
 | [], c :: b, x, y, _, hb, h => by
  have:=(List.cons.inj h).1
  exact absurd (this▸List.mem_cons_self) hb
 | c :: a, [], x, y, ha, _, h => by
  have:=(List.cons.inj h).1
  exact absurd (this▸List.mem_cons_self) ha
 | c::a,d::b,x,y,ha,hb,h=>parse47 (fun m=>ha (List.mem_cons_of_mem _ m)) (fun m=>hb (List.mem_cons_of_mem _ m)) (List.cons.inj h).2
theorem head_rest {z:ByteArray} {f j:Int} {r:List UInt8} (hf:I6 f) (hj:I6 j) (h:begB z (kn (tx [109,47]) f (tx [47]))=true) (hz:sbytes z=sbytes (kn (tx [109,47]) j (tx [47]))++r):sbytes (cutS z (kn (tx [109,47]) f (tx [47])).size z.size)=r:=by
 have h1:=begB_list h
 rw[hz,sbytes_kn,sbytes_kn] at h1
 have e:sbytes (tx [109,47])=[109,47]:=rfl
 have e2:sbytes (tx [47])=[47]:=rfl
 rw[e,e2] at h1
 simp only[List.append_assoc,List.cons_append,List.nil_append,List.cons.injEq,true_and] at h1
 exact(parse47 (itoa_ne47 hj) (itoa_ne47 hf) h1).symm
theorem head_no {z p:ByteArray} {c:UInt8} {r:List UInt8} {f:Int} (h:begB z (kn (tx [109,47]) f (tx [47]))=true) (hz:sbytes z=c::r) (hc:c≠109):False:=by
 have h1:=begB_list h
 rw[hz,sbytes_kn] at h1
 exact hc (List.cons.inj h1).1
def rng (n:Nat):List Int:=(List.range n).map fun k:Nat=>(k:Int)
theorem rng_mem {n:Nat} {k:Int} (h:0≤k) (h':k<n):k∈rng n:=List.mem_map.2 ⟨k.toNat,List.mem_range.2 (by omega),by omega⟩
theorem rng_in {n:Nat} {k:Int} (h:k∈rng n):0≤k∧k<n:=by
 obtain⟨j,hj,rfl⟩:=List.mem_map.1 h
 have:=List.mem_range.1 hj
 omega
theorem rng_len (n:Nat):(rng n).length=n:=by unfold rng;rw[List.length_map,List.length_range]
def CL:List ByteArray:=[tx [99,47,102,105,108,101],tx [99,47,112,105,112,101],tx [99,47,112,114,111,99],tx [99,47,99,108,111,99,107],tx [100,47,110],tx [110,47]++tx [42],tx [114,47]++tx [42],tx [116,47]++tx [42]]
def NFL (i:Int):List ByteArray:=[kn (tx [105,47]) i (tx [47,108]),kn (tx [105,47]) i (tx [47,115]),kn (tx [105,47]) i (tx [47])++tx [42]]++(rng 201).map fun k=>kn (kn (tx [105,47]) i (tx [47,98,47])) k (tx [])
def NDB (i:Int):List ByteArray:=[kn (tx [112,47]) i (tx [47,111]),kn (tx [112,47]) i (tx [47,116]),kn (tx [112,47]) i (tx [47,104]),kn (tx [114,47]) i (tx [47,115]),kn (tx [114,47]) i (tx [47,112]),kn (tx [114,47]) i (tx [47,120]),kn (tx [114,47]) i (tx [47])++tx [42],kn (tx [103,47]) i (tx [47,116]),kn (tx [103,47]) i (tx [47,104]),kn (tx [116,47]) i (tx [])]
def NDL (i:Int):List ByteArray:=NDB i++(((rng 1001).map fun k=>kn (kn (tx [112,47]) i (tx [47,113,47])) k (tx []))++((rng 1001).map fun k=>kn (kn (tx [103,47]) i (tx [47,113,47])) k (tx [])))
def NDM (i:Int):List ByteArray:=(kn (tx [109,47]) i (tx [47])++tx [42])::(rng 4).map fun k=>kn (kn (tx [109,47]) i (tx [47])) k (tx [])
def KL:List ByteArray:=(rng 1001).map fun k=>kn (tx [100,47]) k (tx [])
def FNL (ns:List ByteArray):List ByteArray:=ns.map fun n=>tx [110,47]++n
def sufs (k:ByteArray):List ByteArray:=(List.range (k.size+1)).map fun j=>cutS k j k.size
def rests (s:List Fw.Cell):List ByteArray:=(s.flatMap fun c=>sufs c.Key)++(tx [42]::(rng 4).map fun k=>itoaS k)
def MKL (s:List Fw.Cell):List ByteArray:=(rng 1000).flatMap fun j=>(rests s).map fun r=>kn (tx [109,47]) j (tx [47])++r
def FLL:List ByteArray:=(rng 1000).flatMap NFL
structure PN (s:List Fw.Cell) (ids:List Int) (ns:List ByteArray) (z:ByteArray):Prop where
 m:z∈s.map (·.Key)∨z∈CL∨z∈FLL∨z∈ids.flatMap NDL∨z∈ids.flatMap NDM∨z∈KL∨z∈FNL ns∨z∈MKL s
def allN (s:List Fw.Cell) (ids:List Int) (ns:List ByteArray):List ByteArray:=s.map (·.Key)++(CL++(FLL++(ids.flatMap NDL++(ids.flatMap NDM++(KL++(FNL ns++MKL s))))))
theorem PN.all {s:List Fw.Cell} {ids:List Int} {ns:List ByteArray} {z:ByteArray} (h:PN s ids ns z):z∈allN s ids ns:=by
 unfold allN
 rcases h.m with h | h | h | h | h | h | h | h<;>simp only[List.mem_append,h,true_or,or_true]
theorem flen {α β:Type} (f:α→List β) (n:Nat): ∀ {l:List α},(∀ x∈l,(f x).length≤n)→(l.flatMap f).length≤l.length*n
 | [],_=>Nat.zero_le _
 | x :: l, h => by
  rw[List.flatMap_cons,List.length_append,List.length_cons,Nat.succ_mul]
  have:=h x List.mem_cons_self
  have:=flen f n (l:=l) fun y hy=>h y (List.mem_cons_of_mem _ hy)
  omega
theorem sufs_len (k:ByteArray):(sufs k).length=k.size+1:=by unfold sufs;rw[List.length_map,List.length_range]
theorem rests_len: ∀ s:List Fw.Cell,(s.flatMap fun c=>sufs c.Key).length≤cL cCell s
 | []=>Nat.zero_le _
 | c :: s => by
  rw[List.flatMap_cons,List.length_append,sufs_len]
  have:=rests_len s
  have e:cL cCell (c::s)=(s.length+1)+((c.Key.size+c.Val.size)+(s.map cCell).sum):=rfl
  unfold cL at this
  omega
theorem allN_len {s:List Fw.Cell} {ids:List Int} {ns:List ByteArray} (h1:cL cCell s≤1048576) (h2:ids.length≤2100000) (h3:ns.length≤4200000):(allN s ids ns).length≤100000000000:=by
 unfold allN
 have a1:(s.map (·.Key)).length≤1048576:=by rw[List.length_map];have:=cL_len cCell s;omega
 have a2:CL.length=8:=rfl
 have a3:FLL.length≤1000*204:=by
  have:=flen NFL 204 (l:=rng 1000) fun x _=>by unfold NFL;rw[List.length_append,List.length_map,rng_len];exact Nat.le_refl _
  rw[rng_len] at this
  exact this
 have a4 : (ids.flatMap NDL).length ≤ ids.length * 2012 := flen NDL 2012 fun x _ => by
  unfold NDL
  rw[List.length_append,List.length_append,List.length_map,List.length_map,rng_len]
  show 10+_≤_
  omega
 have a5:(ids.flatMap NDM).length≤ids.length*5:=flen NDM 5 fun x _=>by unfold NDM;rw[List.length_cons,List.length_map,rng_len];exact Nat.le_refl _
 have a6:KL.length=1001:=by unfold KL;rw[List.length_map,rng_len]
 have a7:(FNL ns).length=ns.length:=by unfold FNL;rw[List.length_map]
 have r:=rests_len s
 have a8:(MKL s).length≤1000*1048600:=by
  have := flen (fun j => (rests s).map fun r => kn (tx [109, 47]) j (tx [47]) ++ r) 1048600 (l := rng 1000) fun x _ => by
   rw[List.length_map]
   unfold rests
   rw[List.length_append,List.length_cons,List.length_map,rng_len]
   omega
  rw[rng_len] at this
  exact this
 have m4:ids.length*2012≤2100000*2012:=Nat.mul_le_mul_right _ h2
 have m5:ids.length*5≤2100000*5:=Nat.mul_le_mul_right _ h2
 simp only[List.length_append]
 omega
theorem key_le {s:List Fw.Cell} (h1:cL cCell s≤1048576) {c:Fw.Cell} (hc:c∈s):c.Key.size≤1048576∧c.Val.size≤1048576:=by
 obtain⟨i,hi,rfl⟩:=List.mem_iff_getElem.1 hc
 have:=cL_nth cCell hi
 rw[nth_getE hi] at this
 have e:cCell s[i]=s[i].Key.size+s[i].Val.size:=rfl
 omega
section
variable {s:List Fw.Cell} {ids:List Int} {ns:List ByteArray}
theorem PN.nf {i:Int} (h:0≤i) (h':i≤999):NF (PN s ids ns) i:=by
 have q: ∀ z∈NFL i,PN s ids ns z:=fun z hz=>⟨.inr (.inr (.inl (List.mem_flatMap.2 ⟨i,rng_mem h (by omega),hz⟩)))⟩
 exact⟨q _ (by simp[NFL]),q _ (by simp[NFL]),q _ (by simp[NFL]),fun k h1 h2=>q _ (List.mem_append_right _ (List.mem_map.2 ⟨k,rng_mem h1 (by omega),rfl⟩))⟩
theorem PN.nd {i:Int} (h:i∈ids):ND (PN s ids ns) i:=by
 have q: ∀ z∈NDL i,PN s ids ns z:=fun z hz=>⟨.inr (.inr (.inr (.inl (List.mem_flatMap.2 ⟨i,h,hz⟩))))⟩
 have q0: ∀ z∈NDB i,PN s ids ns z:=fun z hz=>q z (List.mem_append_left _ hz)
 have qm: ∀ z∈NDM i,PN s ids ns z:=fun z hz=>⟨.inr (.inr (.inr (.inr (.inl (List.mem_flatMap.2 ⟨i,h,hz⟩)))))⟩
 exact {
  po:=q0 _ (by simp[NDB]),pt:=q0 _ (by simp[NDB]),ph:=q0 _ (by simp[NDB])
  pq:=fun k h1 h2=>q _ (List.mem_append_right _ (List.mem_append_left _ (List.mem_map.2 ⟨k,rng_mem h1 (by omega),rfl⟩)))
  rs:=q0 _ (by simp[NDB]),rp:=q0 _ (by simp[NDB]),rx:=q0 _ (by simp[NDB]),rw:=q0 _ (by simp[NDB])
  gt:=q0 _ (by simp[NDB]),gh:=q0 _ (by simp[NDB])
  gq:=fun k h1 h2=>q _ (List.mem_append_right _ (List.mem_append_right _ (List.mem_map.2 ⟨k,rng_mem h1 (by omega),rfl⟩)))
  t:=q0 _ (by simp[NDB]),mw:=qm _ List.mem_cons_self
  mp:=fun k h1 h2=>qm _ (List.mem_cons_of_mem _ (List.mem_map.2 ⟨k,rng_mem h1 (by omega),rfl⟩)) }
theorem PN.mk' {j:Int} {r:ByteArray} (h:0≤j) (h':j≤999) (hr:r∈rests s):PN s ids ns (kn (tx [109,47]) j (tx [47])++r):=
 ⟨.inr (.inr (.inr (.inr (.inr (.inr (.inr (List.mem_flatMap.2 ⟨j,rng_mem h (by omega),List.mem_map.2 ⟨r,hr,rfl⟩⟩)))))))⟩
theorem PN.fork (hi: ∀ i∈ids,I6 i) {z:ByteArray} {f t:Int} (hz:PN s ids ns z) (hf:I6 f) (hb:begB z (kn (tx [109,47]) f (tx [47]))=true) (h:0≤t) (h':t≤999):PN s ids ns (kn (tx [109,47]) t (tx [47])++cutS z (kn (tx [109,47]) f (tx [47])).size z.size):=by
 refine PN.mk' h h' ?_
 have no: ∀ {c:UInt8} {r:List UInt8},sbytes z=c::r→c≠109→cutS z (kn (tx [109,47]) f (tx [47])).size z.size∈rests s:=fun hz hc=>(head_no (p:=z) hb hz hc).elim
 have hkn: ∀ (c d:UInt8) (i:Int) (t:ByteArray),∃ r,sbytes (kn (tx [c,d]) i t)=c::r:=fun c d i t=>⟨_,by rw[sbytes_kn];rfl⟩
 have hkn2 : ∀ (c d : UInt8) (i k : Int) (t u : ByteArray), ∃ r, sbytes (kn (kn (tx [c, d]) i t) k u) = c :: r := fun c d i k t u => by
  obtain⟨r,hr⟩:=hkn c d i t
  exact⟨_,by rw[sbytes_kn,hr];rfl⟩
 rcases hz.m with hz | hz | hz | hz | hz | hz | hz | hz
 ·obtain⟨c,hc,rfl⟩:=List.mem_map.1 hz
  have hs:=begB_size hb
  exact List.mem_append_left _ (List.mem_flatMap.2 ⟨c,hc,List.mem_map.2 ⟨_,List.mem_range.2 (by omega),rfl⟩⟩)
 ·simp only[CL,List.mem_cons,List.not_mem_nil,or_false] at hz
  rcases hz with rfl | rfl | rfl | rfl | rfl | rfl | rfl | rfl
  ·exact no (c:=99) rfl (by decide)
  ·exact no (c:=99) rfl (by decide)
  ·exact no (c:=99) rfl (by decide)
  ·exact no (c:=99) rfl (by decide)
  ·exact no (c:=100) rfl (by decide)
  ·exact no (c:=110) rfl (by decide)
  ·exact no (c:=114) rfl (by decide)
  ·exact no (c:=116) rfl (by decide)
 ·obtain⟨i,_,hz⟩:=List.mem_flatMap.1 hz
  have: ∃ r,sbytes z=105::r:=by
   rcases List.mem_append.1 hz with hz | hz
   ·simp only[List.mem_cons,List.not_mem_nil,or_false] at hz
    rcases hz with rfl | rfl | rfl
    ·exact hkn _ _ _ _
    ·exact hkn _ _ _ _
    ·obtain⟨r,hr⟩:=hkn 105 47 i (tx [47])
     exact⟨_,by rw[sbytes_app,hr];rfl⟩
   ·obtain⟨k,_,rfl⟩:=List.mem_map.1 hz
    exact hkn2 _ _ _ _ _ _
  obtain⟨r,hr⟩:=this
  exact no hr (by decide)
 ·obtain⟨i,_,hz⟩:=List.mem_flatMap.1 hz
  have: ∃ c r,sbytes z=c::r∧c≠109:=by
   rcases List.mem_append.1 hz with hz | hz
   ·simp only[NDB,List.mem_cons,List.not_mem_nil,or_false] at hz
    have q : ∀ (c d : UInt8) (t : ByteArray), c ≠ 109 → ∃ c' r, sbytes (kn (tx [c, d]) i t) = c' :: r ∧ c' ≠ 109 := fun c d t hc => by
     obtain⟨r,hr⟩:=hkn c d i t
     exact⟨c,r,hr,hc⟩
    rcases hz with rfl | rfl | rfl | rfl | rfl | rfl | rfl | rfl | rfl | rfl
    ·exact q _ _ _ (by decide)
    ·exact q _ _ _ (by decide)
    ·exact q _ _ _ (by decide)
    ·exact q _ _ _ (by decide)
    ·exact q _ _ _ (by decide)
    ·exact q _ _ _ (by decide)
    ·obtain⟨r,hr⟩:=hkn 114 47 i (tx [47])
     exact⟨114,_,by rw[sbytes_app,hr];rfl,by decide⟩
    ·exact q _ _ _ (by decide)
    ·exact q _ _ _ (by decide)
    ·exact q _ _ _ (by decide)
   ·rcases List.mem_append.1 hz with hz | hz
    ·obtain⟨k,_,rfl⟩:=List.mem_map.1 hz
     obtain⟨r,hr⟩:=hkn2 112 47 i k (tx [47,113,47]) (tx [])
     exact⟨_,_,hr,by decide⟩
    ·obtain⟨k,_,rfl⟩:=List.mem_map.1 hz
     obtain⟨r,hr⟩:=hkn2 103 47 i k (tx [47,113,47]) (tx [])
     exact⟨_,_,hr,by decide⟩
  obtain⟨c,r,hr,hc⟩:=this
  exact no hr hc
 ·obtain⟨i,hmi,hz⟩:=List.mem_flatMap.1 hz
  rcases List.mem_cons.1 hz with rfl | hz
  ·have e:=head_rest hf (hi i hmi) hb (sbytes_app _ _)
   have e:cutS (kn (tx [109,47]) i (tx [47])++tx [42]) (kn (tx [109,47]) f (tx [47])).size (kn (tx [109,47]) i (tx [47])++tx [42]).size=tx [42]:=sbytes_inj e
   rw[e]
   exact List.mem_append_right _ List.mem_cons_self
  ·obtain⟨k,hk,rfl⟩:=List.mem_map.1 hz
   have e:=head_rest (r:=sbytes (itoaS k)) hf (hi i hmi) hb (by rw[sbytes_kn _ k];show _++(_++[])=_;rw[List.append_nil])
   have e:cutS (kn (kn (tx [109,47]) i (tx [47])) k (tx [])) (kn (tx [109,47]) f (tx [47])).size (kn (kn (tx [109,47]) i (tx [47])) k (tx [])).size=itoaS k:=sbytes_inj e
   rw[e]
   exact List.mem_append_right _ (List.mem_cons_of_mem _ (List.mem_map.2 ⟨k,hk,rfl⟩))
 ·obtain⟨k,_,rfl⟩:=List.mem_map.1 hz
  obtain⟨r,hr⟩:=hkn 100 47 k (tx [])
  exact no hr (by decide)
 ·obtain⟨n,_,rfl⟩:=List.mem_map.1 hz
  exact no (c:=110) (sbytes_app _ _) (by decide)
 ·obtain⟨j,hj,hz⟩:=List.mem_flatMap.1 hz
  obtain⟨r,hr,rfl⟩:=List.mem_map.1 hz
  have hj':=rng_in hj
  have e:=head_rest hf (show I6 j from⟨by omega,by omega⟩) hb (sbytes_app _ _)
  have e:cutS (kn (tx [109,47]) j (tx [47])++r) (kn (tx [109,47]) f (tx [47])).size (kn (tx [109,47]) j (tx [47])++r).size=r:=sbytes_inj e
  rw[e]
  exact hr
theorem PN.siz (h1:cL cCell s≤1048576) (hi: ∀ i∈ids,I6 i) (hn: ∀ n∈ns,n.size≤1048576) {z:ByteArray} (hz:PN s ids ns z):z.size≤2097152:=by
 have t1: ∀ l:List UInt8,(tx l).size=l.length:=fun l=>rfl
 have q : ∀ (c d : UInt8) (i : Int) (l : List UInt8), I6 i → (kn (tx [c, d]) i (tx l)).size ≤ 22 + l.length := fun c d i l hi => by
  have:=kn_size (h:=tx [c,d]) (t:=tx l) hi.1 hi.2
  rw[t1,t1] at this
  exact Nat.le_trans this (by show 2+l.length+20≤_;omega)
 have q2 : ∀ (c d : UInt8) (i k : Int) (l : List UInt8), I6 i → I6 k → (kn (kn (tx [c, d]) i (tx l)) k (tx [])).size ≤ 42 + l.length := fun c d i k l hi hk => by
  have:=kn_size (h:=kn (tx [c,d]) i (tx l)) (t:=tx []) hk.1 hk.2
  have:=q c d i l hi
  have e:(tx []).size=0:=rfl
  omega
 have r6: ∀ {n:Nat} {k:Int},k∈rng n→n≤100000→I6 k:=fun hk hn=>by have:=rng_in hk;exact⟨by omega,by omega⟩
 have sub:z.size≤1000→z.size≤2097152:=fun h=>by omega
 rcases hz.m with hz | hz | hz | hz | hz | hz | hz | hz
 ·obtain⟨c,hc,rfl⟩:=List.mem_map.1 hz
  have:=(key_le h1 hc).1
  show c.Key.size≤_
  omega
 ·simp only[CL,List.mem_cons,List.not_mem_nil,or_false] at hz
  rcases hz with rfl | rfl | rfl | rfl | rfl | rfl | rfl | rfl<;>decide
 ·obtain⟨i,hi',hz⟩:=List.mem_flatMap.1 hz
  have h6:=r6 hi' (by decide)
  rcases List.mem_append.1 hz with hz | hz
  ·simp only[List.mem_cons,List.not_mem_nil,or_false] at hz
   rcases hz with rfl | rfl | rfl
   ·exact Nat.le_trans (q _ _ _ _ h6) (by decide)
   ·exact Nat.le_trans (q _ _ _ _ h6) (by decide)
   ·rw[ByteArray.size_append]
    have:=q 105 47 i [47] h6
    exact Nat.le_trans (Nat.add_le_add_right this _) (by decide)
  ·obtain⟨k,hk,rfl⟩:=List.mem_map.1 hz
   exact Nat.le_trans (q2 _ _ _ _ _ h6 (r6 hk (by decide))) (by decide)
 ·obtain⟨i,hi',hz⟩:=List.mem_flatMap.1 hz
  have h6:=hi i hi'
  rcases List.mem_append.1 hz with hz | hz
  ·simp only[NDB,List.mem_cons,List.not_mem_nil,or_false] at hz
   rcases hz with rfl | rfl | rfl | rfl | rfl | rfl | rfl | rfl | rfl | rfl
   ·exact Nat.le_trans (q _ _ _ _ h6) (by decide)
   ·exact Nat.le_trans (q _ _ _ _ h6) (by decide)
   ·exact Nat.le_trans (q _ _ _ _ h6) (by decide)
   ·exact Nat.le_trans (q _ _ _ _ h6) (by decide)
   ·exact Nat.le_trans (q _ _ _ _ h6) (by decide)
   ·exact Nat.le_trans (q _ _ _ _ h6) (by decide)
   ·rw[ByteArray.size_append]
    have:=q 114 47 i [47] h6
    exact Nat.le_trans (Nat.add_le_add_right this _) (by decide)
   ·exact Nat.le_trans (q _ _ _ _ h6) (by decide)
   ·exact Nat.le_trans (q _ _ _ _ h6) (by decide)
   ·exact Nat.le_trans (q _ _ _ _ h6) (by decide)
  ·rcases List.mem_append.1 hz with hz | hz
   ·obtain⟨k,hk,rfl⟩:=List.mem_map.1 hz
    exact Nat.le_trans (q2 _ _ _ _ _ h6 (r6 hk (by decide))) (by decide)
   ·obtain⟨k,hk,rfl⟩:=List.mem_map.1 hz
    exact Nat.le_trans (q2 _ _ _ _ _ h6 (r6 hk (by decide))) (by decide)
 ·obtain⟨i,hi',hz⟩:=List.mem_flatMap.1 hz
  have h6:=hi i hi'
  rcases List.mem_cons.1 hz with rfl | hz
  ·rw[ByteArray.size_append]
   have:=q 109 47 i [47] h6
   exact Nat.le_trans (Nat.add_le_add_right this _) (by decide)
  ·obtain⟨k,hk,rfl⟩:=List.mem_map.1 hz
   exact Nat.le_trans (q2 _ _ _ _ _ h6 (r6 hk (by decide))) (by decide)
 ·obtain⟨k,hk,rfl⟩:=List.mem_map.1 hz
  exact Nat.le_trans (q _ _ _ _ (r6 hk (by decide))) (by decide)
 ·obtain⟨n,hn',rfl⟩:=List.mem_map.1 hz
  have:=hn n hn'
  rw[ByteArray.size_append]
  show 2+_≤_
  omega
 ·obtain⟨j,hj,hz⟩:=List.mem_flatMap.1 hz
  obtain⟨r,hr,rfl⟩:=List.mem_map.1 hz
  have hq:=q 109 47 j [47] (r6 hj (by decide))
  have hrs:r.size≤1048576:=by
   rcases List.mem_append.1 hr with hr | hr
   ·obtain⟨c,hc,hr⟩:=List.mem_flatMap.1 hr
    obtain⟨k,_,rfl⟩:=List.mem_map.1 hr
    exact Nat.le_trans (cutS_len _ _ _) (key_le h1 hc).1
   ·rcases List.mem_cons.1 hr with rfl | hr
    ·decide
    ·obtain⟨k,hk,rfl⟩:=List.mem_map.1 hr
     have h6:=r6 hk (by decide)
     exact Nat.le_trans (itoaS_size h6.1 h6.2) (by decide)
  rw[ByteArray.size_append]
  have e:[(47:UInt8)].length=1:=rfl
  omega
theorem PN.nms (h1:cL cCell s≤1048576) (h2:ids.length≤2100000) (h3:ns.length≤4200000) (hi: ∀ i∈ids,I6 i) (h0: ∀ i:Int,0≤i→i≤999→i∈ids) (hn: ∀ n∈ns,n.size≤1048576):Nms (PN s ids ns) s.length ⟨[],[]⟩ where
 tr:=SpI.nil
 tw':=SpI.nil
 card l hl hp:=by
  have:=nd_len hl fun x hx=>(hp x hx).all
  have:=allN_len h1 h2 h3
  have:=cL_len cCell s
  omega
 siz x hx:=hx.siz h1 hi hn
 f i h h':=PN.nf h h'
 d i h h':=PN.nd (h0 i h h')
 cf:=⟨.inr (.inl (by simp[CL]))⟩
 cp:=⟨.inr (.inl (by simp[CL]))⟩
 cr:=⟨.inr (.inl (by simp[CL]))⟩
 cc:=⟨.inr (.inl (by simp[CL]))⟩
 dn:=⟨.inr (.inl (by simp[CL]))⟩
 nw:=⟨.inr (.inl (by simp[CL]))⟩
 rw:=⟨.inr (.inl (by simp[CL]))⟩
 tw:=⟨.inr (.inl (by simp[CL]))⟩
 dk k h h':=⟨.inr (.inr (.inr (.inr (.inr (.inl (List.mem_map.2 ⟨k,rng_mem h (by omega),rfl⟩))))))⟩
 fork z f t hz hf hb h h':=hz.fork hi hf hb h h'
theorem PN.sti (h1:cL cCell s≤1048576):StI (PN s ids ns) s.length s:=
 ⟨⟨s.map (·.Key),[],by rw[List.append_nil],by rw[List.length_map];exact Nat.le_refl _,List.nodup_nil,fun x h=>by cases h⟩,fun c hc=>⟨⟨.inl (List.mem_map.2 ⟨c,hc,rfl⟩)⟩,(key_le h1 hc).2⟩⟩
end
end Go.Proofs.YtapfpflmcgfbkaaGreatDoor.Ri

namespace Go.Proofs.YtapfpflmcgfbkaaGreatDoor.Ri
open Go.Proofs.YtapfpflmcgfbkaaGreatDoor.Fw
set_option linter.unusedVariables false
set_option linter.unusedSimpArgs false
set_option maxRecDepth 100000
theorem tn_of {s:List Fw.Cell} {x:Fw.Tx} (hs:cL cCell s≤1048576) (hx:cTx x≤1048576) (hg:Dat.good x):TN s x:=by
 have hx':=hx
 unfold cTx cTouch at hx'
 have l1:=cL_len cCall x.Calls
 have l2:=cL_len cAnswer x.Answers
 have l3:=cL_len cS x.Touch.Reads
 have l4:=cL_len cS x.Touch.Writes
 have hgc:Dat.good x.Calls:=hg.2.2.2.2.1
 have hgp:I6 x.Proc:=hg.2.2.1
 have call : ∀ c ∈ x.Calls, c.Name.size ≤ 1048576 ∧ c.To.size ≤ 1048576 ∧ I6 c.A ∧ I6 c.B := fun c hc => by
  obtain⟨i,hi,rfl⟩:=List.mem_iff_getElem.1 hc
  have:=cL_nth cCall hi
  rw[nth_getE hi] at this
  have e:cCall x.Calls[i]=x.Calls[i].Name.size+(x.Calls[i].To.size+x.Calls[i].Text.size):=rfl
  have hgi:Dat.good x.Calls[i]:=hgc.2 _ hc
  exact⟨by omega,by omega,hgi.2.2.2.1,hgi.2.2.2.2.1⟩
 let ids:List Int:=rng 1000++(x.Proc::x.Calls.map (·.A))
 let ns:List ByteArray:=x.Calls.map (·.Name)++x.Calls.map (·.To)
 have hi : ∀ i ∈ ids, I6 i := fun i hi => by
  rcases List.mem_append.1 hi with hi | hi
  ·have:=rng_in hi;exact⟨by omega,by omega⟩
  ·rcases List.mem_cons.1 hi with rfl | hi
   ·exact hgp
   ·obtain⟨c,hc,rfl⟩:=List.mem_map.1 hi
    exact(call c hc).2.2.1
 have hn : ∀ n ∈ ns, n.size ≤ 1048576 := fun n hn => by
  rcases List.mem_append.1 hn with hn | hn
  ·obtain⟨c,hc,rfl⟩:=List.mem_map.1 hn
   exact(call c hc).1
  ·obtain⟨c,hc,rfl⟩:=List.mem_map.1 hn
   exact(call c hc).2.1
 have hil:ids.length≤2100000:=by
  show(rng 1000++(x.Proc::x.Calls.map (·.A))).length≤_
  rw[List.length_append,List.length_cons,List.length_map,rng_len]
  omega
 have hnl:ns.length≤4200000:=by
  show(x.Calls.map (·.Name)++x.Calls.map (·.To)).length≤_
  rw[List.length_append,List.length_map,List.length_map]
  omega
 have name: ∀ n∈ns,NN (PN s ids ns) n:=fun n hm=>⟨by have:=hn n hm;omega,fun _=>⟨.inr (.inr (.inr (.inr (.inr (.inr (.inl (List.mem_map.2 ⟨n,hm,rfl⟩)))))))⟩⟩
 refine⟨⟨PN s ids ns,s.length,PN.nms hs hil hnl hi (fun i h0 h1=>List.mem_append_left _ (rng_mem h0 (by omega))) hn,PN.sti hs,fun c hc=>?_⟩,by omega,by omega,by omega,by omega⟩
 have hcc:=call c hc
 exact {
  p6:=hgp,a6:=hcc.2.2.1,b6:=hcc.2.2.2
  pd:=PN.nd (List.mem_append_right _ List.mem_cons_self)
  ad:=PN.nd (List.mem_append_right _ (List.mem_cons_of_mem _ (List.mem_map.2 ⟨c,hc,rfl⟩)))
  n:=name _ (List.mem_append_left _ (List.mem_map.2 ⟨c,hc,rfl⟩))
  t:=name _ (List.mem_append_right _ (List.mem_map.2 ⟨c,hc,rfl⟩)) }
end Go.Proofs.YtapfpflmcgfbkaaGreatDoor.Ri

namespace Go.Proofs.YtapfpflmcgfbkaaGreatDoor.Ri
open Go.Proofs.YtapfpflmcgfbkaaGreatDoor.Fw
set_option linter.unusedVariables false
set_option linter.unusedSimpArgs false
set_option maxRecDepth 100000
theorem gm {α:Type} {n m:Nat} (h:n≤140737488355328) (h':m≤9223372036854775807) (k:Option α):(gd (decide (n≤140737488355328)&&decide (m≤9223372036854775807)) k)=k:=by
 rw[decide_eq_true h,decide_eq_true h'];rfl
theorem clX_ok {α:Type} {l:List α} (h:l.length≤1099511627776):cloneX (l,())=some (l,()):=by
 unfold cloneX
 rw[show Nat.ble ((l,()):List α×Unit).1.length 1099511627776=true from Nat.ble_eq_true_of_le h]
 rfl
theorem apLoop {α β:Type} [Inhabited α] {L:Int→List α→Option (β×Unit)} {x:List α} {r:Option (β×Unit)}
  (h: ∀ (i:Nat) (e:List α),i<x.length→e.length=i→L (i:Int) e=L ((i+1:Nat):Int) (e++[nth x i])) (h':L (x.length:Int) x=r):
  ∀ (k i:Nat),i+k=x.length→L (i:Int) (x.take i)=r
 | 0, i, hk => by
  obtain rfl:i=x.length:=by omega
  rw[List.take_length]
  exact h'
 | k + 1, i, hk => by
  have hi:i<x.length:=by omega
  rw[h i _ hi (by rw[List.length_take];omega),←take_nthE hi]
  exact apLoop h h' k (i+1) (by omega)
theorem stLoop {α β:Type} [Inhabited α] {L:Int→List α→Option (β×Unit)} {x:List α} {r:Option (β×Unit)}
  (h: ∀ (i:Nat),i<x.length→L (i:Int) x=L ((i+1:Nat):Int) (x.set i (nth x i))) (h':L (x.length:Int) x=r):
  ∀ (k i:Nat),i+k=x.length→L (i:Int) x=r
 | 0, i, hk => by
  obtain rfl:i=x.length:=by omega
  exact h'
 | k + 1, i, hk => by
  have hi:i<x.length:=by omega
  rw[h i hi,nth_getE hi,List.set_getElem_self]
  exact stLoop h h' k (i+1) (by omega)
theorem e2168 {l:List Fw.Cell} (h:l.length≤1048576):D2168 l=some (l,()):=by rw[E2168];exact clX_ok (by omega)
theorem e2166 {l:List Fw.Answer} (h:l.length≤1048576):D2166 l=some (l,()):=by rw[E2166];exact clX_ok (by omega)
theorem e2290 {l:List Fw.Call} (h:l.length≤1048576):D2290 l=some (l,()):=by rw[E2290];exact clX_ok (by omega)
theorem e2291 {l:List Int} (h:l.length≤1048576):D2291 l=some (l,()):=by rw[E2291];exact clX_ok (by omega)
theorem e2173 {l:List ByteArray} (h:l.length≤1048576):D2173 l=some (l,()):=by rw[E2173];exact clX_ok (by omega)
theorem e2301 {l:List Fw.Slot} (h:l.length≤1048576):D2301 l=some (l,()):=by rw[E2301];exact clX_ok (by omega)
theorem e2224 {l:List Fw.Entry} (h:l.length≤1048576):D2224 l=some (l,()):=by rw[E2224];exact clX_ok (by omega)
theorem e2225 {l:List Fw.Step} (h:l.length≤1048576):D2225 l=some (l,()):=by rw[E2225];exact clX_ok (by omega)
theorem e92 {x:Fw.Tx} (h:cTx x≤1048576):D92 x=some (x,()):=by
 unfold cTx cTouch at h
 have l1:=cL_len cCall x.Calls
 have l2:=cL_len cAnswer x.Answers
 have l3:=cL_len cS x.Touch.Reads
 have l4:=cL_len cS x.Touch.Writes
 have l5:=cL_len c0 x.Marks
 rw[E92,gm (by omega) (by omega),gm (by omega) (by omega),gm (by omega) (by omega),gm (by omega) (by omega),gm (by omega) (by omega)]
 rfl
theorem e2162 {x:Fw.Tx} (h:cTx x≤1048576):D2162 x=some (x,()):=by
 unfold cTx cTouch at h
 have l1:=cL_len cCall x.Calls
 have l2:=cL_len cAnswer x.Answers
 have l3:=cL_len cS x.Touch.Reads
 have l4:=cL_len cS x.Touch.Writes
 have l5:=cL_len c0 x.Marks
 have e:D2292 x.Touch=some (x.Touch,()):=by
  rw[E2292,e2173 (by omega),Option.bind_some,e2173 (by omega),Option.bind_some]
 rw[E2162,e2290 (by omega),Option.bind_some,e2166 (by omega),Option.bind_some,e2291 (by omega),Option.bind_some,e,Option.bind_some]
theorem e54 {x:List Fw.Tx} (h:cL cTx x≤1048576):D54 x=some (x,()):=by
 have hx:=cL_len cTx x
 rw[E54]
 refine apLoop (L:=fun i e=>L54_116 x i e) (x:=x) (fun i e hi he=>?_) (by rw[P54_116,dn,cond_false,P54_15]) x.length 0 (by omega)
 rw[P54_116]
 simp only[d0,d1 hi,i1 hi (show x.length≤1048576 by omega),cond_true,Bool.and_self,gd,Int.toNat_natCast]
 rw[e92 (show _≤1048576 from by have:=cL_nth cTx hi;omega),Option.bind_some]
 exact gm (by omega) (by omega) _
theorem e2171 {x:List Fw.Tx} (h:cL cTx x≤1048576):D2171 x=some (x,()):=by
 have hx:=cL_len cTx x
 rw[E2171,P2171_116]
 by_cases h0:0<x.length
 ·have e0:decide ((0:Int)<(x.length:Int))=true:=decide_eq_true (by omega)
  have ht:x.take 1=[nth x 0]:=by rw[take_nthE h0];rfl
  rw[e0,cond_true]
  show((D2162 (nth x 0)).bind _)=_
  rw[e2162 (show _≤1048576 from by have:=cL_nth cTx h0;omega),Option.bind_some]
  show L2171_116b x (x.length:Int) ((1:Nat):Int) [nth x 0]=_
  rw[←ht]
  refine apLoop (L:=fun i e=>L2171_116b x (x.length:Int) i e) (x:=x) (fun i e hi he=>?_) (by rw[P2171_116b,dn,cond_false,P2171_15b]) (x.length - 1) 1 (by omega)
  rw[P2171_116b]
  simp only[d0,d1 hi,i1 hi (show x.length≤1048576 by omega),cond_true,Bool.and_self,gd,Int.toNat_natCast]
  rw[e2162 (show _≤1048576 from by have:=cL_nth cTx hi;omega),Option.bind_some]
  exact gm (by omega) (by omega) _
 ·have e0:decide ((0:Int)<(x.length:Int))=false:=decide_eq_false (by omega)
  rw[e0,cond_false,P2171_15]
  rw[List.eq_nil_of_length_eq_zero (by omega:x.length=0)]
theorem e55 {x:Fw.Disk} (h:cDisk x≤1048576):D55 x=some (x,()):=by
 unfold cDisk at h
 have hx:=cL_len cSlot x.Slots
 have hs : ∀ {i : Nat}, i < x.Slots.length → (nth x.Slots i).Cells.length ≤ 1048576 := fun {i} hi => by
  have h1:=cL_nth cSlot hi
  have h2:=cL_len cCell (nth x.Slots i).Cells
  have h3:cSlot (nth x.Slots i)=cL cCell (nth x.Slots i).Cells:=rfl
  omega
 rw[E55,P55_116]
 by_cases h0:0<x.Slots.length
 ·have e0:decide ((0:Int)<(x.Slots.length:Int))=true:=decide_eq_true (by omega)
  have ht:x.Slots.take 1=[nth x.Slots 0]:=by rw[take_nthE h0];rfl
  have h3:=hs h0
  have g1:(decide ((0+(nth x.Slots 0).Cells.length)*32≤140737488355328)&&decide (0+(nth x.Slots 0).Cells.length≤9223372036854775807))=true:=by rw[decide_eq_true (by omega),decide_eq_true (by omega)];rfl
  rw[e0,cond_true]
  show(gd (decide ((0+(nth x.Slots 0).Cells.length)*32≤140737488355328)&&decide (0+(nth x.Slots 0).Cells.length≤9223372036854775807)) _)=_
  rw[g1]
  show L55_116b ((1:Nat):Int) x.Slots x.Journal.Text x.Journal.Sure (tx []) 0 x.Journal.Text x.Journal.Sure [nth x.Slots 0]=_
  rw[←ht]
  refine apLoop (L:=fun i e=>L55_116b i x.Slots x.Journal.Text x.Journal.Sure (tx []) 0 x.Journal.Text x.Journal.Sure e) (x:=x.Slots) (fun i e hi he=>?_) (by rw[P55_116b,dn,cond_false,P55_15b]) (x.Slots.length - 1) 1 (by omega)
  have h4:=hs hi
  rw[P55_116b]
  simp only[d0,d1 hi,i1 hi (show x.Slots.length≤1048576 by omega),cond_true,Bool.and_self,gd,Int.toNat_natCast]
  exact(gm (by omega) (by omega) _).trans (gm (by omega) (by omega) _)
 ·have e0:decide ((0:Int)<(x.Slots.length:Int))=false:=decide_eq_false (by omega)
  rw[e0,cond_false,P55_15]
  obtain⟨sl,jn⟩:=x
  obtain rfl:sl=[]:=List.eq_nil_of_length_eq_zero (by show sl.length=0;have: ¬ 0<sl.length:=h0;omega)
  rfl
theorem e2172 {x:Fw.Disk} (h:cDisk x≤1048576):D2172 x=some (x,()):=by
 unfold cDisk at h
 have hx:=cL_len cSlot x.Slots
 have hs : ∀ {i : Nat}, i < x.Slots.length → (nth x.Slots i).Cells.length ≤ 1048576 := fun {i} hi => by
  have h1:=cL_nth cSlot hi
  have h2:=cL_len cCell (nth x.Slots i).Cells
  have h3:cSlot (nth x.Slots i)=cL cCell (nth x.Slots i).Cells:=rfl
  omega
 rw[E2172,e2301 (by omega),Option.bind_some]
 refine stLoop (L:=fun i e=>L2172_116 (x.Slots.length:Int) i (tx []) 0 x.Journal.Text x.Journal.Sure e) (x:=x.Slots) (fun i hi=>?_) (by rw[P2172_116,dn,cond_false,P2172_15]) x.Slots.length 0 (by omega)
 rw[P2172_116]
 simp only[d0,d1 hi,i1 hi (show x.Slots.length≤1048576 by omega),cond_true,Bool.and_self,gd,Int.toNat_natCast]
 rw[e2168 (hs hi),Option.bind_some]
theorem e56 {x:Fw.Entry} (h:cEntry x≤1048576):D56 x=some (x,()):=by
 unfold cEntry at h
 have l1:=cL_len cStep x.Steps
 have l2:=cL_len cAnswer x.Answers
 rw[E56,gm (by omega) (by omega),gm (by omega) (by omega)]
 rfl
theorem e2115 {x:List Fw.Entry} (h:cL cEntry x≤1048576):D2115 x=some (x,()):=by
  have hx:=cL_len cEntry x
  rw[E2115,e2224 (by omega),Option.bind_some]
  refine stLoop (L:=fun i e=>L2115_116 (x.length:Int) i e) (x:=x) (fun i hi=>?_) (by rw[P2115_116,dn,cond_false,P2115_15]) x.length 0 (by omega)
  have h1:=cL_nth cEntry hi
  have h2:=cL_len cStep (nth x i).Steps
  have h3:=cL_len cAnswer (nth x i).Answers
  have h4:cEntry (nth x i)=cL cStep (nth x i).Steps+cL cAnswer (nth x i).Answers:=rfl
  have hl:(x.set i { (nth x i) with Steps:=(nth x i).Steps }).length=x.length:=by rw[List.length_set]
  have hn:x.set i { (nth x i) with Steps:=(nth x i).Steps }=x:=by
    show x.set i (nth x i)=x
    rw[nth_getE hi,List.set_getElem_self]
  rw[P2115_116]
  simp only[d0,d1 hi,i1 hi (show x.length≤1048576 by omega),cond_true,Bool.and_self,gd,Int.toNat_natCast]
  rw[e2225 (by omega),Option.bind_some,e2166 (by omega),Option.bind_some]
  simp only[hn,d1 hi,Bool.and_self,cond_true]
structure KSz (k:Fw.Kernel):Prop where
 st:cL cCell k.Store≤1048576
 tx:cL cTx k.Txs≤1048576
 dk:cDisk k.Disk≤1048576
 hs:cL cEntry k.History≤1048576
 sn:cL cS k.Seen≤1048576
theorem KSz.of {k:Fw.Kernel} (h:cKernel k≤1048576):KSz k:=by
 unfold cKernel at h
 exact⟨by omega,by omega,by omega,by omega,by omega⟩
theorem e40 {k:Fw.Kernel} (h:KSz k):D40 k=some (k,()):=by
 have l1:=cL_len cCell k.Store
 have l2:=cL_len cEntry k.History
 have l3:=cL_len cS k.Seen
 have b1:=h.st
 have b2:=h.hs
 have b3:=h.sn
 rw[E40,gm (by omega) (by omega),e54 h.tx,Option.bind_some,e55 h.dk,Option.bind_some]
 refine apLoop (L:=fun i e=>L40_1012 i k.Disk.Journal.Text k.Disk.Journal.Sure k.Seq k.Next k.Time k.History k.Seen k.Room ([]++k.Store) k.Txs k.Disk.Slots (Ri.tx []) 0 0 0 0 false e) (x:=k.History) (fun i e hi he=>?_) (by rw[P40_1012,dn,cond_false,P40_127,gm (by omega) (by omega)];rfl) k.History.length 0 (by omega)
 rw[P40_1012]
 simp only[d0,d1 hi,i1 hi (show k.History.length≤1048576 by omega),cond_true,Bool.and_self,gd,Int.toNat_natCast]
 rw[e56 (show _≤1048576 from by have:=cL_nth cEntry hi;omega),Option.bind_some]
 exact gm (by omega) (by omega) _
theorem e2074 {k:Fw.Kernel} (h:KSz k):D2074 k=some (k,()):=by
 have l1:=cL_len cCell k.Store
 have l3:=cL_len cS k.Seen
 have b1:=h.st
 have b3:=h.sn
 rw[E2074,e2168 (by omega),Option.bind_some,e2171 h.tx,Option.bind_some,e2172 h.dk,Option.bind_some,e2173 (by omega),Option.bind_some,e2115 h.hs,Option.bind_some]
end Go.Proofs.YtapfpflmcgfbkaaGreatDoor.Ri

namespace Go.Proofs.YtapfpflmcgfbkaaGreatDoor.Ri
open Go.Proofs.YtapfpflmcgfbkaaGreatDoor.Fw
set_option linter.unusedVariables false
set_option linter.unusedSimpArgs false
set_option maxRecDepth 100000
def opB (x:ByteArray):ByteArray×Bool:=bif sufB x (tx [42]) then(cutS x 0 (x.size - 1),true) else(x,false)
theorem last_star {x:ByteArray} (h:0<x.size):sufB x (tx [42])=decide (((byteAt x (x.size - 1)).toNat:Int)=42):=by
 unfold sufB
 have e1:(tx [42]).size=1:=rfl
 rw[e1,decide_eq_true (show((x.size:Int)≥((1:Nat):Int)) by omega),Bool.true_and,Bool.eq_iff_iff,decide_eq_true_eq,decide_eq_true_eq]
 have hl:sbytes (cutS x (x.size - 1) x.size)=[byteAt x (x.size - 1)]:=by
  rw[cutS_list,List.take_of_length_le (by rw[sbytes_lenE];omega),drop_atE x (show x.size - 1<x.size by omega),List.drop_eq_nil_of_le (by rw[sbytes_lenE];omega)]
 constructor
 ·intro h2
  have h3:=congrArg sbytes h2
  rw[hl] at h3
  have h4:byteAt x (x.size - 1)=42:=List.head_eq_of_cons_eq h3
  rw[h4]
  rfl
 ·intro h2
  apply sbytes_inj
  rw[hl]
  have h4:byteAt x (x.size - 1)=42:=by
   apply UInt8.toNat_inj.1
   show(byteAt x (x.size - 1)).toNat=42
   omega
  rw[h4]
  rfl
theorem e190 {x:ByteArray} (hx:x.size≤4611686018427387904):D190 x=some ((opB x).1,((opB x).2,())):=by
 rw[E190]
 unfold opB
 by_cases h:0<x.size
 ·have ew : IntKind.wrap .i64 ((x.size : Int) - 1) = ((x.size - 1 : Nat) : Int) := by rw [i64_id (by omega) (by omega)]; omega
  rw[last_star h,ew]
  have g1:decide ((x.size:Int)>0)=true:=decide_eq_true (by omega)
  have g2:decide (0≤((x.size - 1:Nat):Int))=true:=decide_eq_true (by omega)
  have g3:decide (((x.size - 1:Nat):Int)<(x.size:Int))=true:=decide_eq_true (by omega)
  have g4:decide (((x.size - 1:Nat):Int)≤(x.size:Int))=true:=decide_eq_true (by omega)
  simp only[g1,g2,g3,g4,Bool.and_self,Bool.true_or,Bool.true_and,gd,cond_true,Int.toNat_natCast,decide_true]
  cases decide (((byteAt x (x.size - 1)).toNat:Int)=42)<;>rfl
 ·have g1:decide ((x.size:Int)>0)=false:=decide_eq_false (by omega)
  have hs:sufB x (tx [42])=false:=by
   unfold sufB
   rw[decide_eq_false (show ¬ ((x.size:Int)≥((tx [42]).size:Int)) by show ¬ ((x.size:Int)≥1);omega)]
   rfl
  rw[g1,hs,Bool.not_false,Bool.or_true]
  rfl
theorem e2499s {x:ByteArray} (hx:x.size≤4611686018427387904):D2499 x (tx [42])=some ((opB x).1,((opB x).2,())):=by
 rw[e2499 hx (by decide)]
 unfold opB
 cases sufB x (tx [42])<;>rfl
def shB (x y:ByteArray):Bool:=bif (opB x).2 then begB y (opB x).1 else decide (x=y)
theorem e192 {x y:ByteArray} (hx:x.size≤4611686018427387904):D192 x y=some (shB x y,()):=by
 rw[E192,e190 hx,Option.bind_some]
 unfold shB
 generalize opB x=p
 obtain⟨q,b⟩:=p
 cases b with
 | true=>simp only[cond_true];rw[e191];rfl
 | false=>simp only[cond_false]
theorem e2548 {x y:ByteArray} (hx:x.size≤4611686018427387904):D2548 x y=some (shB x y,()):=by
 rw[E2548,e2499s hx,Option.bind_some]
 unfold shB
 generalize opB x=p
 obtain⟨q,b⟩:=p
 cases b with
 | true=>simp only[cond_true];rw[e2547];rfl
 | false=>simp only[cond_false]
def smB (x y:ByteArray):Bool:=bif (opB x).2&&(opB y).2 then begB (opB x).1 (opB y).1||begB (opB y).1 (opB x).1 else bif (opB x).2 then begB y (opB x).1 else shB y x
theorem smB_comm (x y:ByteArray):smB x y=smB y x:=by
 unfold smB shB
 cases(opB x).2<;>cases(opB y).2
 ·show decide (y=x)=decide (x=y)
  rw[Bool.eq_iff_iff,decide_eq_true_eq,decide_eq_true_eq]
  exact⟨Eq.symm,Eq.symm⟩
 ·rfl
 ·rfl
 ·exact Bool.or_comm _ _
theorem e184 {x y:ByteArray} (hx:x.size≤4611686018427387904) (hy:y.size≤4611686018427387904):D184 x y=some (smB x y,()):=by
 have e:D192 y x=some (shB y x,()):=e192 hy
 rw[E184,e190 hx,Option.bind_some,e190 hy,Option.bind_some]
 unfold smB
 generalize shB y x=s at *
 generalize opB x=p
 generalize opB y=q
 obtain⟨p,b⟩:=p
 obtain⟨q,c⟩:=q
 cases b<;>cases c
 ·simp only[Bool.and_self,cond_false,e,Option.bind_some]
 ·simp only[Bool.and_true,cond_false,e,Option.bind_some]
 ·simp only[Bool.and_false,cond_false,cond_true,e191,Option.bind_some]
 ·simp only[Bool.and_self,cond_true,e191,Option.bind_some]
  cases begB p q<;>rfl
theorem e2481 {x y:ByteArray} (hx:x.size≤4611686018427387904) (hy:y.size≤4611686018427387904):D2481 x y=some (smB x y,()):=by
 have e:D2548 y x=some (shB y x,()):=e2548 hy
 have e':D2548 x y=some (shB x y,()):=e2548 hx
 have es:(opB x).2=true→shB x y=begB y (opB x).1:=fun h=>by unfold shB;rw[h];rfl
 rw[E2481,e2499s hx,Option.bind_some,e2499s hy,Option.bind_some]
 unfold smB
 generalize shB y x=s at *
 generalize shB x y=s' at *
 generalize opB x=p at *
 generalize opB y=q
 obtain⟨p,b⟩:=p
 obtain⟨q,c⟩:=q
 cases b<;>cases c
 ·simp only[Bool.and_self,cond_false,e,Option.bind_some]
 ·simp only[Bool.and_true,cond_false,e,Option.bind_some]
 ·simp only[Bool.and_false,cond_false,cond_true,e',es rfl,Option.bind_some]
 ·simp only[Bool.and_self,cond_true,e2547,Option.bind_some]
  cases begB p q<;>rfl
structure SpS (l:List ByteArray):Prop where
 n:l.length≤1048576
 m: ∀ i,i<l.length→(nth l i).size≤1048576
theorem SpS.of {l : List ByteArray} (h : cL cS l ≤ 1048576) : SpS l := ⟨by have := cL_len cS l; omega, fun i hi => by
 have h1:=cL_nth cS hi
 have h2:cS (nth l i)=(nth l i).size:=rfl
 omega⟩
def maB (a b:List ByteArray):Bool:=a.any fun x=>b.any fun y=>smB x y
theorem maB_comm (a b:List ByteArray):maB a b=maB b a:=by
 unfold maB
 rw[Bool.eq_iff_iff,List.any_eq_true,List.any_eq_true]
 constructor
 ·rintro ⟨x,hx,h⟩
  obtain⟨y,hy,h⟩:=List.any_eq_true.1 h
  exact⟨y,hy,List.any_eq_true.2 ⟨x,hx,smB_comm x y▸h⟩⟩
 ·rintro ⟨y,hy,h⟩
  obtain⟨x,hx,h⟩:=List.any_eq_true.1 h
  exact⟨x,hx,List.any_eq_true.2 ⟨y,hy,smB_comm y x▸h⟩⟩
theorem any_at {α:Type} [Inhabited α] {p:α→Bool} {l:List α} {i:Nat} (h:i<l.length):(l.drop i).any p=(p (nth l i)||(l.drop (i+1)).any p):=by
 rw[nth_getE h,List.drop_eq_getElem_cons h,List.any_cons]
theorem w155i {a b : List ByteArray} (ha : SpS a) (hb : SpS b) {i : Nat} (hi : i < a.length) : ∀ (n k : Nat), k + n = b.length → L155_3364 a b (i : Int) (k : Int) = bif (b.drop k).any (fun y => smB (nth a i) y) then some (true, ()) else L155_211 a b (i : Int)
 | 0, k, hn => by
  obtain rfl:k=b.length:=by omega
  rw[P155_3364,dn,cond_false,List.drop_length]
  rfl
 | n + 1, k, hn => by
  have hk:k<b.length:=by omega
  have h1:=ha.n
  have h2:=hb.n
  rw[P155_3364,any_at hk]
  simp only[d0,d1 hi,d1 hk,i1 hk h2,cond_true,Bool.and_self,gd,Int.toNat_natCast]
  rw[e184 (by have:=ha.m i hi;omega) (by have:=hb.m k hk;omega),Option.bind_some]
  cases smB (nth a i) (nth b k) with
  | true=>rfl
  | false=>exact w155i ha hb hi n (k+1) (by omega)
theorem w155 {a b:List ByteArray} (ha:SpS a) (hb:SpS b): ∀ (n i:Nat),i+n=a.length→L155_52 a b (i:Int)=some ((a.drop i).any (fun x=>b.any fun y=>smB x y),())
 | 0, i, hn => by
  obtain rfl:i=a.length:=by omega
  rw[P155_52,dn,cond_false,P155_7,List.drop_length]
  rfl
 | n + 1, i, hn => by
  have hi:i<a.length:=by omega
  have h1:=ha.n
  rw[P155_52,d1 hi,cond_true,any_at hi]
  refine(w155i ha hb hi b.length 0 (by omega)).trans ?_
  rw[List.drop_zero]
  cases b.any (fun y=>smB (nth a i) y) with
  | true=>rfl
  | false =>
   rw[cond_false,P155_211,i1 hi h1,Bool.false_or]
   exact w155 ha hb n (i+1) (by omega)
theorem e155 {a b:List ByteArray} (ha:SpS a) (hb:SpS b):D155 a b=some (maB a b,()):=by
 rw[E155]
 exact w155 ha hb a.length 0 (by omega)
theorem e2344 {b:List ByteArray} {x:ByteArray} (hx:x.size≤1048576) (hb:SpS b):D2344 b x=some (b.any (fun y=>smB x y),()):=by
 have h2:=hb.n
 rw[E2344,E4417]
 have h := fun i : Nat => (show L4417_52 b x (b.length : Int) (i : Int) = bif decide ((i : Int) < (b.length : Int)) then (gd (decide (0 ≤ (i : Int)) && decide ((i : Int) < (b.length : Int))) <| bif smB x (nth b i) then some ((i : Int), ()) else L4417_52 b x (b.length : Int) (IntKind.wrap .i64 ((i : Int) + 1))) else some (-1, ()) from by
  rw[P4417_52,P4417_7]
  by_cases hi:i<b.length
  ·simp only[d0,d1 hi,cond_true,Bool.and_self,gd,Int.toNat_natCast]
   rw[E2480,e2481 (by omega) (by have:=hb.m i hi;omega),Option.bind_some,Option.bind_some]
  ·rw[decide_eq_false (show ¬ ((i:Int)<(b.length:Int)) by omega),cond_false,cond_false])
 rw[show L4417_52 b x (b.length:Int) 0=some (idxI (fun y=>smB x y) b 0,()) from scan (L:=fun i=>L4417_52 b x (b.length:Int) i) (by omega) h _ 0 rfl,Option.bind_some]
 show some (decide (idxI (fun y=>smB x y) b 0≥0),())=_
 rw[idxI_any]
def clB (a b:Fw.Touch):Bool:=maB a.Writes b.Reads||(maB a.Writes b.Writes||maB a.Reads b.Writes)
structure ToS (t:Fw.Touch):Prop where
 r:SpS t.Reads
 w:SpS t.Writes
theorem e102 {a b:Fw.Touch} (ha:ToS a) (hb:ToS b):D102 a b=some (clB a b,()):=by
 rw[E102,e155 ha.w hb.r,Option.bind_some]
 unfold clB
 show(bif !maB a.Writes b.Reads then _ else _)=_
 cases maB a.Writes b.Reads with
 | true=>rfl
 | false =>
  show((D155 a.Writes b.Writes).bind _)=_
  rw[e155 ha.w hb.w,Option.bind_some]
  show(bif !maB a.Writes b.Writes then _ else _)=_
  cases maB a.Writes b.Writes with
  | true=>rfl
  | false=>show((D155 a.Reads b.Writes).bind _)=_;rw[e155 ha.r hb.w];rfl
theorem w2392 {a b:List ByteArray} (ha:SpS a) (hb:SpS b): ∀ (n i:Nat),i+n=a.length→L2392_52 b a (a.length:Int) (i:Int)=some ((a.drop i).any (fun x=>b.any fun y=>smB x y),())
 | 0, i, hn => by
  obtain rfl:i=a.length:=by omega
  rw[P2392_52,dn,cond_false,P2392_7,List.drop_length]
  rfl
 | n + 1, i, hn => by
  have hi:i<a.length:=by omega
  have h1:=ha.n
  rw[P2392_52,any_at hi]
  simp only[d0,d1 hi,i1 hi h1,cond_true,Bool.and_self,gd,Int.toNat_natCast]
  rw[e2344 (ha.m i hi) hb,Option.bind_some]
  cases b.any (fun y=>smB (nth a i) y) with
  | true=>rfl
  | false=>exact w2392 ha hb n (i+1) (by omega)
theorem e2392 {a b:List ByteArray} (ha:SpS a) (hb:SpS b):D2392 a b=some (maB a b,()):=by
 rw[E2392]
 exact w2392 ha hb a.length 0 (by omega)
end Go.Proofs.YtapfpflmcgfbkaaGreatDoor.Ri

namespace Go.Proofs.YtapfpflmcgfbkaaGreatDoor.Ri
open Go.Proofs.YtapfpflmcgfbkaaGreatDoor.Fw
set_option linter.unusedVariables false
set_option linter.unusedSimpArgs false
set_option maxRecDepth 100000
theorem e2302 {a b:Fw.Touch} (ha:ToS a) (hb:ToS b):D2302 a b=some (clB a b,()):=by
 rw[E2302]
 simp only[e2392 ha.w hb.r,e2392 ha.w hb.w,e2392 hb.w ha.r,Option.bind_some]
 unfold clB
 rw[maB_comm b.Writes a.Reads]
 generalize maB a.Writes b.Reads=p
 generalize maB a.Writes b.Writes=q
 generalize maB a.Reads b.Writes=r
 cases p<;>cases q<;>rfl
structure TxL (l:List Fw.Tx):Prop where
 n:l.length≤1048576
 t: ∀ i,i<l.length→ToS (nth l i).Touch
theorem TxL.of {l : List Fw.Tx} (h : cL cTx l ≤ 1048576) : TxL l := ⟨by have := cL_len cTx l; omega, fun i hi => by
 have h1:=cL_nth cTx hi
 have h2:cTx (nth l i)=cL cCall (nth l i).Calls+(cL cAnswer (nth l i).Answers+((cL cS (nth l i).Touch.Reads+cL cS (nth l i).Touch.Writes)+cL c0 (nth l i).Marks)):=rfl
 exact⟨SpS.of (by omega),SpS.of (by omega)⟩⟩
theorem cut0_len {α:Type} {l:List α} {i:Nat} (h:i≤l.length):(cutL l 0 i).length=i:=by
 unfold cutL
 rw[List.drop_zero,List.length_take];omega
theorem cut0_nth {α:Type} [Inhabited α] {l:List α} {i k:Nat} (h:k<i) (hi:i≤l.length):nth (cutL l 0 i) k=nth l k:=by
 have e:(cutL l 0 i)=l.take i:=by unfold cutL;rw[List.drop_zero]
 rw[e,nth_getE (by rw[List.length_take];omega),nth_getE (by omega)]
 simp
theorem w96i {l:List Fw.Tx} (hl:TxL l) {i:Nat} (hi:i<l.length) (O: ∃ b,L96_52 l ((i+1:Nat):Int)=some (b,())∧L2176_52 l l (l.length:Int) ((i+1:Nat):Int)=some (b,())): ∀ (n k:Nat),k+n=i→
  ∃ b,L96_3364 l (i:Int) (k:Int)=some (b,())∧L2176_13516 l l (l.length:Int) (i:Int) (cutL l 0 i) ((cutL l 0 i).length:Int) (k:Int) (nth l i).Id (nth l i).Age (nth l i).Proc (nth l i).Began (nth l i).Calls (nth l i).Answers (nth l i).Touch.Reads (nth l i).Touch.Writes (nth l i).Marks (nth l i).State=some (b,())
 | 0, k, hn => by
  obtain rfl:k=i:=by omega
  rw[P96_3364,P2176_13516,cut0_len (by omega),dn,cond_false,cond_false,P96_211,P2176_423,i1 hi hl.n]
  exact O
 | n + 1, k, hn => by
  have hk:k<i:=by omega
  have hkl:k<l.length:=by omega
  have h1:=hl.n
  obtain⟨b,f1,f2⟩:=w96i hl hi O n (k+1) (by omega)
  rw[P96_3364,P2176_13516]
  rw[cut0_len (by omega)] at f2 ⊢
  simp only[d0,d1 hi,d1 hk,d1 hkl,i1 hkl h1,cond_true,Bool.and_self,Bool.true_or,gd,Int.toNat_natCast,cut0_nth hk (by omega:i≤l.length)]
  have e2:D2302 (⟨(nth l i).Touch.Reads,(nth l i).Touch.Writes⟩:Fw.Touch) (nth l k).Touch=some (clB (nth l i).Touch (nth l k).Touch,()):=e2302 (hl.t i hi) (hl.t k hkl)
  rw[e102 (hl.t i hi) (hl.t k hkl),e2,Option.bind_some,Option.bind_some]
  cases decide ((nth l i).State=1)&&decide ((nth l k).State=1) with
  | false=>exact⟨b,f1,f2⟩
  | true =>
   cases clB (nth l i).Touch (nth l k).Touch with
   | true=>exact⟨_,rfl,rfl⟩
   | false=>exact⟨b,f1,f2⟩
theorem w96 {l:List Fw.Tx} (hl:TxL l): ∀ (n i:Nat),i+n=l.length→ ∃ b,L96_52 l (i:Int)=some (b,())∧L2176_52 l l (l.length:Int) (i:Int)=some (b,())
 | 0, i, hn => by
  obtain rfl:i=l.length:=by omega
  rw[P96_52,P2176_52,dn,cond_false,cond_false,P96_7,P2176_7]
  exact⟨_,rfl,rfl⟩
 | n + 1, i, hn => by
  have hi:i<l.length:=by omega
  have O:=w96 hl n (i+1) (by omega)
  obtain⟨b,f1,f2⟩:=w96i hl hi O i 0 (by omega)
  have g:decide ((i:Int)≤(l.length:Int))=true:=decide_eq_true (by omega)
  have g0:decide ((0:Int)≤0)=true:=rfl
  refine⟨b,?_,?_⟩
  ·rw[P96_52,d1 hi,cond_true];exact f1
  ·rw[P2176_52]
   simp only[d0,d1 hi,g,g0,cond_true,Bool.and_self,gd,Int.toNat_natCast]
   exact f2
theorem t96 {l:List Fw.Tx} (hl:TxL l): ∃ b,D96 l=some (b,())∧D2176 l=some (b,()):=by
 rw[E96,E2176]
 exact w96 hl l.length 0 (by omega)
theorem e93 {l:List Fw.Tx} {id:Int} (hl:l.length≤1048576):D93 l id=some (idxI (fun x=>decide (x.Id=id)) l 0,()):=by
 rw[E93]
 exact scan (L:=fun i=>L93_52 l id i) (by omega) (fun i=>by rw[P93_52,P93_7];rfl) _ 0 rfl
theorem e2161 {l:List Fw.Tx} {id:Int} (hl:l.length≤1048576):D2161 l id=some (idxI (fun x=>decide (x.Id=id)) l 0,()):=by
 rw[E2161,E2183,show L2183_52 l id (l.length:Int) 0=some (idxI (fun x=>decide (x.Id=id)) l 0,()) from scan (L:=fun i=>L2183_52 l id (l.length:Int) i) (by omega) (fun i=>by rw[P2183_52,P2183_7];simp only[E2289,Option.bind_some];rfl) _ 0 rfl]
 rfl
def liveB (id:Int) (x:Fw.Tx):Bool:=decide (x.Id=id)&&decide (x.State=1)
theorem e58 {k:Fw.Kernel} {id:Int} (hl:k.Txs.length≤1048576):D58 k id=some (idxI (liveB id) k.Txs 0,()):=by
 rw[E58]
 refine scan (L:=fun i=>L58_52 id i k.Store k.Txs k.Disk.Slots k.Disk.Journal.Text k.Disk.Journal.Sure k.Seq k.Next k.Time k.History k.Seen k.Room) (by omega) (fun i=>?_) _ 0 rfl
 show L58_52 id (i:Int) k.Store k.Txs k.Disk.Slots k.Disk.Journal.Text k.Disk.Journal.Sure k.Seq k.Next k.Time k.History k.Seen k.Room=_
 rw[P58_52,P58_7]
 by_cases hi:i<k.Txs.length
 ·simp only[d0,d1 hi,cond_true,Bool.and_self,Bool.true_or,gd,Int.toNat_natCast]
  rfl
 ·rw[decide_eq_false (show ¬ ((i:Int)<(k.Txs.length:Int)) by omega),cond_false,cond_false]
theorem e2085 {k:Fw.Kernel} {id:Int} (hl:k.Txs.length≤1048576):D2085 k id=some (idxI (liveB id) k.Txs 0,()):=by
 rw[E2085,E3183,show L3183_52 k.Txs id (k.Txs.length:Int) 0=some (idxI (liveB id) k.Txs 0,()) from scan (L:=fun i=>L3183_52 k.Txs id (k.Txs.length:Int) i) (by omega) (fun i=>by rw[P3183_52,P3183_7];simp only[E2184,Option.bind_some];rfl) _ 0 rfl]
 rfl
structure StS (s:List Fw.Cell):Prop where
 n:s.length≤1048576
 k: ∀ i,i<s.length→(nth s i).Key.size≤1048576
theorem StS.of {s : List Fw.Cell} (h : cL cCell s ≤ 1048576) : StS s := ⟨by have := cL_len cCell s; omega, fun i hi => by
 have h1:=cL_nth cCell hi
 have h2:cCell (nth s i)=(nth s i).Key.size+(nth s i).Val.size:=rfl
 omega⟩
theorem lt_not (x y:ByteArray):(!ltB x y)=(ltB y x||decide (y=x)):=by
 cases h:ltB x y with
 | true =>
  have h1:ltB y x=false:=by
   cases h2:ltB y x with
   | false=>rfl
   | true=>exact(lt_asym h h2).elim
  rw[h1,decide_eq_false (fun e=>by rw[e,lt_irr] at h;cases h)]
  rfl
 | false =>
  by_cases e:y=x
  ·rw[decide_eq_true e,Bool.or_true];rfl
  ·rw[lt_tri h (fun e2=>e e2.symm)];rfl
theorem w94 {s:List Fw.Cell} (hs:StS s): ∀ (n i:Nat),i+n=s.length→ ∃ b,L94_52 s (i:Int)=some (b,())∧L2174_52 s s (s.length:Int) (i:Int)=some (b,())
 | 0, i, hn => by
  obtain rfl:i=s.length:=by omega
  rw[P94_52,P2174_52,dn,cond_false,cond_false,P94_7,P2174_7]
  exact⟨_,rfl,rfl⟩
 | n + 1, i, hn => by
  have hi:i<s.length:=by omega
  have h1:=hs.n
  have h2:=hs.k i hi
  obtain⟨b,f1,f2⟩:=w94 hs n (i+1) (by omega)
  rw[P94_52,P2174_52]
  simp only[d0,d1 hi,i1 hi h1,cond_true,Bool.and_self,Bool.true_or,Bool.or_true,gd,Int.toNat_natCast,Bool.not_not]
  rw[e132 (by omega),e2254 (by omega),Option.bind_some,Option.bind_some]
  cases keyOkL (nth s i).Key.data.toList with
  | false=>exact⟨_,rfl,rfl⟩
  | true =>
   simp only[cond_true,E27,E2090,Option.bind_some]
   cases decide (((nth s i).Val.size:Int)≥1)&&decide (((nth s i).Val.size:Int)≤60) with
   | false =>
    simp only[Bool.not_false,Bool.not_true,Bool.false_and,Bool.or_true,Bool.true_or,cond_true]
    exact⟨_,rfl,rfl⟩
   | true =>
    by_cases h0:0<i
    ·have ew : IntKind.wrap .i64 ((i : Int) - 1) = ((i - 1 : Nat) : Int) := by rw [i64_id (by omega) (by omega)]; omega
     have g0:decide ((i:Int)>0)=true:=decide_eq_true (by omega)
     simp only[ew,g0,d0,d1 (show i - 1<s.length by omega),Bool.not_true,Bool.false_or,Bool.true_and,Bool.and_self,Bool.true_or,cond_true,Int.toNat_natCast,lt_not]
     cases ltB (nth s i).Key (nth s (i - 1)).Key||decide ((nth s i).Key=(nth s (i - 1)).Key) with
     | true=>exact⟨_,rfl,rfl⟩
     | false=>exact⟨b,f1,f2⟩
    ·have g0:decide ((i:Int)>0)=false:=decide_eq_false (by omega)
     simp only[g0,Bool.not_true,Bool.not_false,Bool.and_false,Bool.false_and,Bool.or_false,Bool.or_true,Bool.false_or,cond_true,cond_false]
     exact⟨b,f1,f2⟩
theorem t94 {s:List Fw.Cell} (hs:StS s): ∃ b,D94 s=some (b,())∧D2174 s=some (b,()):=by
 rw[E94,E2174]
 exact w94 hs s.length 0 (by omega)
end Go.Proofs.YtapfpflmcgfbkaaGreatDoor.Ri

namespace Go.Proofs.YtapfpflmcgfbkaaGreatDoor.Ri
open Go.Proofs.YtapfpflmcgfbkaaGreatDoor.Fw
set_option linter.unusedVariables false
set_option linter.unusedSimpArgs false
set_option maxRecDepth 100000
def whB (x:Fw.Slot):Bool:=x.Whole
theorem w114 {s:List Fw.Slot} (hs:s.length≤1048576) (t:ByteArray) (u:Int): ∀ (n i:Nat) (b:Int),i+n=s.length→b<s.length→ ∃ r:Int,L114_116 b (i:Int) s t u=some (r,())∧decide (r≥0)=(decide (b≥0)||(s.drop i).any whB)
 | 0, i, b, hn, hb => by
  obtain rfl:i=s.length:=by omega
  rw[P114_116,dn,cond_false,P114_15,List.drop_length]
  exact⟨b,rfl,by rw[List.any_nil,Bool.or_false]⟩
 | n + 1, i, b, hn, hb => by
  have hi:i<s.length:=by omega
  have g3:((decide (0≤b)&&decide (b<(s.length:Int)))||(!((nth s i).Whole&&(!(decide (b<0))))))=true:=by
   by_cases h0:b<0
   ·rw[decide_eq_true h0,Bool.not_true,Bool.and_false,Bool.not_false,Bool.or_true]
   ·rw[decide_eq_true (show 0≤b by omega),decide_eq_true hb];rfl
  rw[P114_116]
  simp only[d0,d1 hi,g3,cond_true,Bool.and_self,Bool.true_or,gd,Int.toNat_natCast]
  rw[any_at hi]
  cases hw:(nth s i).Whole with
  | false =>
   rw[Bool.false_and,cond_false,P114_467,i1 hi hs]
   obtain⟨r,h1,h2⟩:=w114 hs t u n (i+1) b (by omega) hb
   exact⟨r,h1,by rw[h2];unfold whB;rw[hw];rfl⟩
  | true =>
   rw[Bool.true_and]
   cases hq:decide (b<0)||decide ((nth s i).Seq>(nth s b.toNat).Seq) with
   | true =>
    rw[cond_true,P114_467,i1 hi hs]
    obtain⟨r,h1,h2⟩:=w114 hs t u n (i+1) (i:Int) (by omega) (by omega)
    refine⟨r,h1,?_⟩
    rw[h2,decide_eq_true (show(i:Int)≥0 by omega)]
    unfold whB
    rw[hw]
    simp
   | false =>
    rw[cond_false,P114_467,i1 hi hs]
    obtain⟨r,h1,h2⟩:=w114 hs t u n (i+1) b (by omega) hb
    refine⟨r,h1,?_⟩
    have hb0: ¬ b<0:=of_decide_eq_false (Bool.or_eq_false_iff.1 hq).1
    rw[h2,decide_eq_true (show b≥0 by omega),Bool.true_or,Bool.true_or]
theorem e114 {d:Fw.Disk} (hs:d.Slots.length≤1048576): ∃ r:Int,D114 d=some (r,())∧decide (r≥0)=d.Slots.any whB:=by
 obtain⟨r,h1,h2⟩:=w114 hs d.Journal.Text d.Journal.Sure d.Slots.length 0 (-1) (by omega) (by omega)
 refine⟨r,?_,?_⟩
 ·rw[E114];exact h1
 ·rw[h2,List.drop_zero];rfl
def jnB (j:Fw.Journal):Bool:=bif decide ((j.Text.size:Int)≤20000) then decide (j.Sure≥0)&&decide (j.Sure≤(j.Text.size:Int)) else false
theorem e110 (j:Fw.Journal):D110 j=some (jnB j,()):=by
 rw[E110,E27]
 unfold jnB
 cases decide ((j.Text.size:Int)≤20000)<;>rfl
theorem e2192 (j:Fw.Journal):D2192 j=some (jnB j,()):=by
 rw[E2192,E2090]
 unfold jnB
 cases decide ((j.Text.size:Int)≤20000)<;>rfl
structure DkS (d:Fw.Disk):Prop where
 n:d.Slots.length≤1048576
 s: ∀ i,i<d.Slots.length→StS (nth d.Slots i).Cells
theorem DkS.of {d:Fw.Disk} (h:cDisk d≤1048576):DkS d:=by
 unfold cDisk at h
 exact ⟨by have := cL_len cSlot d.Slots; omega, fun i hi => StS.of (by
  have h1:=cL_nth cSlot hi
  have h2:cSlot (nth d.Slots i)=cL cCell (nth d.Slots i).Cells:=rfl
  omega)⟩
theorem w95 {s:List Fw.Slot} (t:ByteArray) (u:Int) (hn0:s.length≤1048576) (hs: ∀ i,i<s.length→StS (nth s i).Cells): ∀ (n i:Nat),i+n=s.length→
  ∃ c:Bool,L95_52 (i:Int) s t u=(bif c then L95_7 s t u else some (false,()))∧L2175_116 s (s.length:Int) (i:Int) s t u=(bif c then L2175_15 s t u else some (false,()))
 | 0, i, hn => by
  obtain rfl:i=s.length:=by omega
  rw[P95_52,P2175_116,dn,cond_false,cond_false]
  exact⟨true,rfl,rfl⟩
 | n + 1, i, hn => by
  have hi:i<s.length:=by omega
  obtain⟨c,f1,f2⟩:=w95 t u hn0 hs n (i+1) (by omega)
  obtain⟨b,q1,q2⟩:=t94 (hs i hi)
  rw[P95_52,P2175_116]
  simp only[d0,d1 hi,i1 hi hn0,cond_true,Bool.and_self,gd,Int.toNat_natCast]
  cases(nth s i).Whole with
  | false=>exact⟨c,f1,f2⟩
  | true =>
   simp only[cond_true,E27,E2090,Option.bind_some,q1,q2]
   cases decide ((nth s i).Seq≥0)&&decide ((nth s i).Seq≤99999) with
   | false=>exact⟨false,rfl,rfl⟩
   | true =>
    cases b with
    | false=>exact⟨false,rfl,rfl⟩
    | true=>exact⟨c,f1,f2⟩
theorem t95 {d:Fw.Disk} (h:DkS d): ∃ b,D95 d=some (b,())∧D2175 d=some (b,()):=by
 obtain⟨c,f1,f2⟩:=w95 d.Journal.Text d.Journal.Sure h.n h.s d.Slots.length 0 (by omega)
 have f1:L95_52 0 d.Slots d.Journal.Text d.Journal.Sure=_:=f1
 have f2:L2175_116 d.Slots (d.Slots.length:Int) 0 d.Slots d.Journal.Text d.Journal.Sure=_:=f2
 obtain⟨r,e1,e2⟩:=e114 h.n
 have e1:D114 (⟨d.Slots,(⟨d.Journal.Text,d.Journal.Sure⟩:Fw.Journal)⟩:Fw.Disk)=some (r,()):=e1
 rw[E95,E2175,f1,f2,P95_7,P2175_15,e1,Option.bind_some,e110,e2192]
 simp only[Option.bind_some]
 by_cases hl:d.Slots.length=2
 ·have g2:decide ((d.Slots.length:Int)=2)=true:=decide_eq_true (by omega)
  have g0:decide ((0:Int)<(d.Slots.length:Int))=true:=decide_eq_true (by omega)
  have g1:decide ((1:Int)<(d.Slots.length:Int))=true:=decide_eq_true (by omega)
  have ha:d.Slots.any whB=((nth d.Slots 0).Whole||(nth d.Slots 1).Whole):=by
   have h1:=any_at (p:=whB) (show 0<d.Slots.length by omega)
   have h2:=any_at (p:=whB) (show 1<d.Slots.length by omega)
   rw[List.drop_zero] at h1
   rw[h1,h2,List.drop_eq_nil_of_le (by omega),List.any_nil,Bool.or_false]
   rfl
  have z0:Int.toNat 0=0:=rfl
  have z1:Int.toNat 1=1:=rfl
  rw[g2,g0,g1,z0,z1]
  show ∃ b,(bif c then(bif decide (r≥0) then some (jnB d.Journal,()) else some (false,())) else some (false,()))=some (b,())∧(bif (!(nth d.Slots 0).Whole)&&(!(nth d.Slots 1).Whole) then some (false,()) else bif c then some (jnB d.Journal,()) else some (false,()))=some (b,())
  rw[e2,ha]
  cases(nth d.Slots 0).Whole<;>cases(nth d.Slots 1).Whole<;>cases c<;>exact⟨_,rfl,rfl⟩
 ·have g2:decide ((d.Slots.length:Int)=2)=false:=decide_eq_false (by omega)
  rw[g2]
  refine⟨false,?_,?_⟩
  ·cases c<;>rfl
  ·simp only[Bool.not_false,Bool.not_true,Bool.or_true,Bool.true_or,Bool.false_and,gd,cond_true]
def idB (l:List Fw.Tx) (nx:Int) (i:Nat):Bool:=(!decide ((nth l i).Id≥nx))&&decide (idxI (fun x=>decide (x.Id=(nth l i).Id)) l 0=(i:Int))
def idsB (l:List Fw.Tx) (nx:Int):Nat→Nat→Bool
 | 0,_=>true
 | n+1,i=>idB l nx i&&idsB l nx n (i+1)
theorem first_iff {α:Type} [Inhabited α] {p:α→Bool} {l:List α} {i:Nat} (hi:i<l.length) (hp:p (nth l i)=true):decide (idxI p (cutL l 0 i) 0≥0)=!decide (idxI p l 0=(i:Int)):=by
 rw[idxI_any]
 have ec:cutL l 0 i=l.take i:=by unfold cutL;rw[List.drop_zero]
 rw[ec]
 unfold idxI
 rw[List.drop_zero]
 rw[nth_getE hi] at hp
 cases h:l.findIdx? p with
 | none =>
  rw[List.findIdx?_eq_none_iff] at h
  rw[h _ (List.getElem_mem hi)] at hp
  cases hp
 | some j =>
  obtain⟨hj,h1,h2⟩:=List.findIdx?_eq_some_iff_getElem.1 h
  have hji:j≤i:=Nat.le_of_not_lt fun hlt=>h2 i hlt hp
  show _=!decide (((0+j:Nat):Int)=(i:Int))
  by_cases e:j=i
  ·rw[decide_eq_true (show((0+j:Nat):Int)=(i:Int) by omega),Bool.not_true,List.any_eq_false]
   intro x hx
   obtain⟨k,hk,rfl⟩:=List.mem_iff_getElem.1 hx
   rw[List.length_take] at hk
   rw[List.getElem_take]
   exact h2 k (by omega)
  ·rw[decide_eq_false (show ¬ ((0+j:Nat):Int)=(i:Int) by omega),Bool.not_false,List.any_eq_true]
   exact⟨l[j],List.mem_iff_getElem.2 ⟨j,by rw[List.length_take];omega,List.getElem_take⟩,h1⟩
section
variable {k:Fw.Kernel} (hl:k.Txs.length≤1048576)
include hl
theorem w57 : ∀ (n i : Nat), i + n = k.Txs.length → L57_52 (i : Int) k.Store k.Txs k.Disk.Slots k.Disk.Journal.Text k.Disk.Journal.Sure k.Seq k.Next k.Time k.History k.Seen k.Room = bif idsB k.Txs k.Next n i then L57_7 k.Store k.Txs k.Disk.Slots k.Disk.Journal.Text k.Disk.Journal.Sure k.Seq k.Next k.Time k.History k.Seen k.Room else some (false, ())
 | 0, i, hn => by
  obtain rfl:i=k.Txs.length:=by omega
  rw[P57_52,dn,cond_false]
  rfl
 | n + 1, i, hn => by
  have hi:i<k.Txs.length:=by omega
  rw[P57_52]
  simp only[d0,d1 hi,i1 hi hl,cond_true,Bool.and_self,Bool.true_or,gd,Int.toNat_natCast]
  rw[e93 hl,Option.bind_some]
  unfold idsB idB
  cases !decide ((nth k.Txs i).Id≥k.Next) with
  | false=>rfl
  | true =>
   cases decide (idxI (fun x=>decide (x.Id=(nth k.Txs i).Id)) k.Txs 0=(i:Int)) with
   | false=>rfl
   | true=>exact w57 n (i+1) (by omega)
theorem w2075 : ∀ (n i : Nat), i + n = k.Txs.length → L2075_116 k.Txs (k.Txs.length : Int) (i : Int) k.Store k.Txs k.Disk.Slots k.Disk.Journal.Text k.Disk.Journal.Sure k.Seq k.Next k.Time k.History k.Seen k.Room = bif idsB k.Txs k.Next n i then L2075_15 k.Store k.Txs k.Disk.Slots k.Disk.Journal.Text k.Disk.Journal.Sure k.Seq k.Next k.Time k.History k.Seen k.Room else some (false, ())
 | 0, i, hn => by
  obtain rfl:i=k.Txs.length:=by omega
  rw[P2075_116,dn,cond_false]
  rfl
 | n + 1, i, hn => by
  have hi:i<k.Txs.length:=by omega
  have g:decide ((i:Int)≤(k.Txs.length:Int))=true:=decide_eq_true (by omega)
  have g0:decide ((0:Int)≤0)=true:=rfl
  have z0:Int.toNat 0=0:=rfl
  rw[P2075_116]
  simp only[d0,d1 hi,i1 hi hl,g,g0,z0,cond_true,Bool.and_self,Bool.true_or,gd,Int.toNat_natCast]
  rw[e2161 (by rw[cut0_len (by omega)];omega),Option.bind_some]
  have hp:(fun x:Fw.Tx=>decide (x.Id=(nth k.Txs i).Id)) (nth k.Txs i)=true:=decide_eq_true rfl
  have hf:=first_iff (p:=fun x:Fw.Tx=>decide (x.Id=(nth k.Txs i).Id)) hi hp
  unfold idsB idB
  cases !decide ((nth k.Txs i).Id≥k.Next) with
  | false=>rfl
  | true =>
   show(bif decide (idxI (fun x=>decide (x.Id=(nth k.Txs i).Id)) (cutL k.Txs 0 i) 0≥0) then _ else _)=_
   rw[hf]
   cases decide (idxI (fun x=>decide (x.Id=(nth k.Txs i).Id)) k.Txs 0=(i:Int)) with
   | false=>rfl
   | true=>exact w2075 n (i+1) (by omega)
end
theorem t57 {k:Fw.Kernel} (h:KSz k): ∃ b,D57 k=some (b,())∧D2075 k=some (b,()):=by
 have hx:=TxL.of h.tx
 obtain⟨b1,p1,p2⟩:=t94 (StS.of h.st)
 obtain⟨b2,q1,q2⟩:=t95 (DkS.of h.dk)
 obtain⟨b5,r1,r2⟩:=t96 hx
 have q1:D95 (⟨k.Disk.Slots,(⟨k.Disk.Journal.Text,k.Disk.Journal.Sure⟩:Fw.Journal)⟩:Fw.Disk)=some (b2,()):=q1
 have e1:=w57 hx.n k.Txs.length 0 (by omega)
 have e2:=w2075 hx.n k.Txs.length 0 (by omega)
 rw[P57_7,p1,q1,r1,E27] at e1
 rw[P2075_15,r2] at e2
 rw[E57,E2075,p2,q2,E2090]
 have e1:L57_52 0 k.Store k.Txs k.Disk.Slots k.Disk.Journal.Text k.Disk.Journal.Sure k.Seq k.Next k.Time k.History k.Seen k.Room=_:=e1
 have e2:L2075_116 k.Txs (k.Txs.length:Int) 0 k.Store k.Txs k.Disk.Slots k.Disk.Journal.Text k.Disk.Journal.Sure k.Seq k.Next k.Time k.History k.Seen k.Room=_:=e2
 rw[e1]
 simp only[Option.bind_some]
 rw[e2]
 cases b1<;>cases b2<;>cases decide (k.Seq≥0)&&decide (k.Seq≤99000)<;>cases idsB k.Txs k.Next k.Txs.length 0<;>cases b5<;>exact⟨_,rfl,rfl⟩
end Go.Proofs.YtapfpflmcgfbkaaGreatDoor.Ri

namespace Go.Proofs.YtapfpflmcgfbkaaGreatDoor.Ri
open Go.Proofs.YtapfpflmcgfbkaaGreatDoor.Fw
set_option linter.unusedVariables false
set_option linter.unusedSimpArgs false
set_option linter.unusedSectionVars false
set_option maxRecDepth 100000
theorem bl_eq: ∀ (x y:List UInt8),Op.bytesLess x y=decide (x<y)
 | [],[]=>by simp[Op.bytesLess]
 | _::_,[]=>by simp[Op.bytesLess]
 | [],_::_=>by simp[Op.bytesLess]
 | a :: x, b :: y => by
  rw[Op.bytesLess,bl_eq x y]
  simp only[List.cons_lt_cons_iff]
  by_cases h1:a<b<;>by_cases h2:a=b<;>by_cases h3:x<y<;>simp[h1,h2,h3]
theorem ltB_eq (x y:ByteArray):ltB x y=decide (sbytes x<sbytes y):=by
 unfold ltB
 rw[bl_eq,Lib.toList_data,Lib.toList_data]
 rfl
theorem getK_head (c : Fw.Cell) (r : List Fw.Cell) (z : ByteArray) : getK (c :: r) z = if c.Key = z then c.Val else getK r z := by
 unfold getK
 rw[List.find?_cons]
 by_cases h:c.Key=z
 ·rw[decide_eq_true h,if_pos h]
 ·rw[decide_eq_false h,if_neg h]
theorem getV_eq (z:ByteArray): ∀ s:List Fw.Cell,getV s (sbytes z)=sbytes (getK s z)
 | []=>rfl
 | c :: r => by
  rw[getK_head]
  unfold getV
  by_cases h:c.Key=z
  ·have h':c.Key.data.toList=sbytes z:=congrArg sbytes h
   rw[if_pos h,if_pos h']
   rfl
  ·have h' : ¬ c.Key.data.toList = sbytes z := fun e => h (sbytes_inj e)
   rw[if_neg h,if_neg h',getV_eq z r]
theorem neq_iff (a b:List Fw.Cell) (z:ByteArray):neq a b (sbytes z)=true↔getK a z≠getK b z:=by
 unfold neq
 rw[getV_eq,getV_eq,Bool.not_eq_true',decide_eq_false_iff_not]
 exact⟨fun h e=>h (congrArg sbytes e),fun h e=>h (sbytes_inj e)⟩
def keysA (a b:List Fw.Cell):List ByteArray:=a.map (·.Key)++b.map (·.Key)
def dstep (a b:List Fw.Cell) (out:List ByteArray) (z:ByteArray):List ByteArray:=bif !(decide (getK a z=getK b z)) then addS out z else out
def difF (a b:List Fw.Cell):List ByteArray:=(keysA a b).foldl (dstep a b) []
theorem fold_mem (a b:List Fw.Cell) {z:ByteArray}: ∀ (ks e:List ByteArray),z∈ks.foldl (dstep a b) e↔z∈e∨(z∈ks∧getK a z≠getK b z)
 | [],e=>by simp
 | k :: ks, e => by
  rw[List.foldl_cons,fold_mem a b ks]
  unfold dstep
  by_cases h:getK a k=getK b k
  ·rw[decide_eq_true h,Bool.not_true,cond_false,List.mem_cons]
   constructor
   ·rintro (h1 | ⟨h1,h2⟩)
    ·exact .inl h1
    ·exact .inr ⟨.inr h1,h2⟩
   ·rintro (h1 | ⟨rfl | h1,h2⟩)
    ·exact .inl h1
    ·exact absurd h h2
    ·exact .inr ⟨h1,h2⟩
  ·rw[decide_eq_false h,Bool.not_false,cond_true,addS_iff,List.mem_cons]
   constructor
   ·rintro ((rfl | h1) | ⟨h1,h2⟩)
    ·exact .inr ⟨.inl rfl,h⟩
    ·exact .inl h1
    ·exact .inr ⟨.inr h1,h2⟩
   ·rintro (h1 | ⟨rfl | h1,h2⟩)
    ·exact .inl (.inr h1)
    ·exact .inl (.inl rfl)
    ·exact .inr ⟨h1,h2⟩
theorem fold_srt (a b:List Fw.Cell): ∀ (ks e:List ByteArray),Srt e→Srt (ks.foldl (dstep a b) e)
 | [],e,h=>h
 | k :: ks, e, h => by
  rw[List.foldl_cons]
  refine fold_srt a b ks _ ?_
  unfold dstep
  cases !(decide (getK a k=getK b k)) with
  | false=>exact h
  | true=>exact h.add k
theorem fold_len (a b:List Fw.Cell): ∀ (ks e:List ByteArray),(ks.foldl (dstep a b) e).length≤e.length+ks.length
 | [],e=>by simp
 | k :: ks, e => by
  rw[List.foldl_cons]
  have h1:=fold_len a b ks (dstep a b e k)
  have h2:(dstep a b e k).length≤e.length+1:=by
   unfold dstep
   cases !(decide (getK a k=getK b k)) with
   | false=>exact Nat.le_succ _
   | true=>exact addS_len k e
  rw[List.length_cons]
  omega
theorem keys_iff {s:List Fw.Cell} {z:ByteArray}:hasK s (sbytes z)=true↔z∈s.map (·.Key):=by
 rw[hasK_mem,List.mem_map,List.mem_map]
 exact⟨fun⟨c,hc,h⟩=>⟨c,hc,sbytes_inj h⟩,fun⟨c,hc,h⟩=>⟨c,hc,congrArg sbytes h⟩⟩
theorem diff_eq (a b:List Fw.Cell):((diffS a b).map fun k=>(⟨k.toArray⟩:ByteArray))=difF a b:=by
 rw[diffS_eq]
 have tr: ∀ a b c:List UInt8,Go.leB a b=true→Go.leB b c=true→Go.leB a c=true:=fun a b c h1 h2=>by simp only[Go.leB,decide_eq_true_eq] at *;exact List.le_trans h1 h2
 have to: ∀ a b:List UInt8,(Go.leB a b||Go.leB b a)=true:=fun a b=>by simp only[Go.leB,Bool.or_eq_true,decide_eq_true_eq];exact List.le_total a b
 have hp:(diffM a b).Pairwise fun x y=>Go.leB x y=true:=List.pairwise_mergeSort tr to _
 have hnd:(diffM a b).Nodup:=(List.mergeSort_perm _ _).nodup_iff.2 (keysOf_nodup a b)
 refine Srt.ext ?_ (fold_srt a b _ _ List.Pairwise.nil) fun z=>?_
 ·refine List.pairwise_map.2 ((hp.and hnd).imp fun {x y} hxy=>?_)
  obtain⟨h1,h2⟩:=hxy
  rw[ltB_eq]
  have e1:sbytes (⟨x.toArray⟩:ByteArray)=x:=List.toList_toArray
  have e2:sbytes (⟨y.toArray⟩:ByteArray)=y:=List.toList_toArray
  rw[e1,e2,decide_eq_true_eq]
  have h1:x≤y:=of_decide_eq_true h1
  apply Classical.byContradiction
  intro hn
  exact h2 (List.le_antisymm h1 hn)
 ·have hm:z∈(diffM a b).map (fun k=>(⟨k.toArray⟩:ByteArray))↔sbytes z∈keysOf a b:=by
   rw[List.mem_map]
   unfold diffM
   constructor
   ·rintro ⟨k,hk,rfl⟩
    rw[show sbytes (⟨k.toArray⟩:ByteArray)=k from List.toList_toArray]
    exact(List.mergeSort_perm _ _).mem_iff.1 hk
   ·intro h
    exact⟨sbytes z,(List.mergeSort_perm _ _).mem_iff.2 h,bstr_sbytes z⟩
  rw[hm,keysOf_mem,Bool.and_eq_true,Bool.or_eq_true,keys_iff,keys_iff,neq_iff]
  unfold difF
  rw[fold_mem]
  unfold keysA
  rw[List.mem_append]
  exact⟨fun h=> .inr h,fun h=>h.elim (fun h=>by cases h) id⟩
theorem e156 {l:List ByteArray} {x:ByteArray} (hl:l.length≤1099511627776):D156 l x=some (addS l x,()):=by
 rw[E156]
 exact w156 l x hl l.length 0 (by omega)
theorem keysA_len (a b:List Fw.Cell):(keysA a b).length=a.length+b.length:=by
 unfold keysA
 rw[List.length_append,List.length_map,List.length_map]
theorem keysA_fst {a b:List Fw.Cell} {i:Nat} (h:i<a.length):nth (keysA a b) i=(nth a i).Key:=by
 rw[nth_getE (by rw[keysA_len];omega),nth_getE h]
 unfold keysA
 rw[List.getElem_append_left (by rw[List.length_map];exact h),List.getElem_map]
theorem keysA_snd {a b:List Fw.Cell} {i:Nat} (h: ¬ i<a.length) (h':i<a.length+b.length):nth (keysA a b) i=(nth b (i - a.length)).Key:=by
 rw[nth_getE (by rw[keysA_len];omega),nth_getE (by omega)]
 unfold keysA
 rw[List.getElem_append_right (by rw[List.length_map];omega),List.getElem_map]
 simp only[List.length_map]
section
variable {a b:List Fw.Cell} (ha:a.length≤1000000000) (hb:b.length≤1000000000)
include ha hb
theorem drop_key {i:Nat} (h:i<a.length+b.length):(keysA a b).drop i=nth (keysA a b) i::(keysA a b).drop (i+1):=by
 rw[nth_getE (by rw[keysA_len];exact h),←List.drop_eq_getElem_cons (by rw[keysA_len];exact h)]
theorem w103b: ∀ (n i:Nat) (e:List ByteArray),i+n=a.length+b.length→e.length≤i→L103_116b a b e (i:Int)=some (((keysA a b).drop i).foldl (dstep a b) e,())
 | 0, i, e, hn, he => by
  have ew:IntKind.wrap .i64 ((a.length:Int)+(b.length:Int))=((a.length+b.length:Nat):Int):=by rw[i64_id (by omega) (by omega)];rfl
  rw[P103_116b,ew,decide_eq_false (show ¬ ((i:Int)<((a.length+b.length:Nat):Int)) by omega),cond_false,P103_15b,List.drop_eq_nil_of_le (by rw[keysA_len];omega)]
  rfl
 | n + 1, i, e, hn, he => by
  have ew:IntKind.wrap .i64 ((a.length:Int)+(b.length:Int))=((a.length+b.length:Nat):Int):=by rw[i64_id (by omega) (by omega)];rfl
  have ei:IntKind.wrap .i64 ((i:Int)+1)=((i+1:Nat):Int):=by rw[i64_id (by omega) (by omega)];rfl
  have step:L103_3731b a b e (i:Int) (nth (keysA a b) i)=some (((keysA a b).drop i).foldl (dstep a b) e,()):=by
   rw[P103_3731b,e104 (by omega),e104 (by omega),Option.bind_some,Option.bind_some,drop_key ha hb (by omega),List.foldl_cons]
   have hs:dstep a b e (nth (keysA a b) i)=bif !(decide (getK a (nth (keysA a b) i)=getK b (nth (keysA a b) i))) then addS e (nth (keysA a b) i) else e:=rfl
   show(bif !(decide (getK a (nth (keysA a b) i)=getK b (nth (keysA a b) i))) then _ else _)=_
   cases hq:!(decide (getK a (nth (keysA a b) i)=getK b (nth (keysA a b) i))) with
   | true =>
    rw[hq,cond_true] at hs
    have hl:=addS_len (nth (keysA a b) i) e
    rw[cond_true,e156 (by omega),Option.bind_some,hs]
    show L103_467b a b (addS e (nth (keysA a b) i)) (i:Int)=_
    rw[P103_467b,ei]
    exact w103b n (i+1) _ (by omega) (by omega)
   | false =>
    rw[hq,cond_false] at hs
    rw[cond_false,hs,P103_467b,ei]
    exact w103b n (i+1) _ (by omega) (by omega)
  rw[P103_116b,ew,decide_eq_true (show((i:Int)<((a.length+b.length:Nat):Int)) by omega),cond_true]
  by_cases h:i<a.length
  ·rw[keysA_fst h] at step
   simp only[d0,d1 h,cond_true,Bool.and_self,gd,Int.toNat_natCast]
   exact step
  ·rw[keysA_snd h (by omega)] at step
   have es:IntKind.wrap .i64 ((i:Int) - (a.length:Int))=((i - a.length:Nat):Int):=by rw[i64_id (by omega) (by omega)];omega
   have g:decide ((i:Int)<(a.length:Int))=false:=decide_eq_false (by omega)
   simp only[g,es,d0,d1 (show i - a.length<b.length by omega),cond_true,cond_false,Bool.and_self,gd,Int.toNat_natCast]
   exact step
theorem w103: ∀ (n i:Nat) (e:List ByteArray),i+n=a.length+b.length→e.length≤i→L103_116 a b (i:Int) e=some (((keysA a b).drop i).foldl (dstep a b) e,())
 | 0, i, e, hn, he => by
  have ew:IntKind.wrap .i64 ((a.length:Int)+(b.length:Int))=((a.length+b.length:Nat):Int):=by rw[i64_id (by omega) (by omega)];rfl
  rw[P103_116,ew,decide_eq_false (show ¬ ((i:Int)<((a.length+b.length:Nat):Int)) by omega),cond_false,P103_15,List.drop_eq_nil_of_le (by rw[keysA_len];omega)]
  rfl
 | n + 1, i, e, hn, he => by
  have ew:IntKind.wrap .i64 ((a.length:Int)+(b.length:Int))=((a.length+b.length:Nat):Int):=by rw[i64_id (by omega) (by omega)];rfl
  have ei:IntKind.wrap .i64 ((i:Int)+1)=((i+1:Nat):Int):=by rw[i64_id (by omega) (by omega)];rfl
  have step:L103_3731 a b (i:Int) (nth (keysA a b) i) e=some (((keysA a b).drop i).foldl (dstep a b) e,()):=by
   rw[P103_3731,e104 (by omega),e104 (by omega),Option.bind_some,Option.bind_some,drop_key ha hb (by omega),List.foldl_cons]
   have hs:dstep a b e (nth (keysA a b) i)=bif !(decide (getK a (nth (keysA a b) i)=getK b (nth (keysA a b) i))) then addS e (nth (keysA a b) i) else e:=rfl
   show(bif !(decide (getK a (nth (keysA a b) i)=getK b (nth (keysA a b) i))) then _ else _)=_
   cases hq:!(decide (getK a (nth (keysA a b) i)=getK b (nth (keysA a b) i))) with
   | true =>
    rw[hq,cond_true] at hs
    have hl:=addS_len (nth (keysA a b) i) e
    rw[cond_true,e156 (by omega),Option.bind_some,hs]
    show L103_467b a b (addS e (nth (keysA a b) i)) (i:Int)=_
    rw[P103_467b,ei]
    exact w103b ha hb n (i+1) _ (by omega) (by omega)
   | false =>
    rw[hq,cond_false] at hs
    rw[cond_false,hs,P103_467,ei]
    exact w103 n (i+1) _ (by omega) (by omega)
  rw[P103_116,ew,decide_eq_true (show((i:Int)<((a.length+b.length:Nat):Int)) by omega),cond_true]
  by_cases h:i<a.length
  ·rw[keysA_fst h] at step
   simp only[d0,d1 h,cond_true,Bool.and_self,gd,Int.toNat_natCast]
   exact step
  ·rw[keysA_snd h (by omega)] at step
   have es:IntKind.wrap .i64 ((i:Int) - (a.length:Int))=((i - a.length:Nat):Int):=by rw[i64_id (by omega) (by omega)];omega
   have g:decide ((i:Int)<(a.length:Int))=false:=decide_eq_false (by omega)
   simp only[g,es,d0,d1 (show i - a.length<b.length by omega),cond_true,cond_false,Bool.and_self,gd,Int.toNat_natCast]
   exact step
theorem e103:D103 a b=some (difF a b,()):=by
 rw[E103]
 exact w103 ha hb (a.length+b.length) 0 [] (by omega) (Nat.zero_le _)
theorem e2258:D2258 a b=some (difF a b,()):=by
 rw[E2258]
 unfold diffX
 show(bif Nat.ble a.length 34359738368&&Nat.ble b.length 34359738368 then some ((diffS a b).map fun k=>(⟨k.toArray⟩:ByteArray),()) else none)=_
 rw[Nat.ble_eq_true_of_le (show a.length≤34359738368 by omega),Nat.ble_eq_true_of_le (show b.length≤34359738368 by omega),diff_eq]
 rfl
end
def chgP (b:List Fw.Cell) (ks:List ByteArray):List Fw.Cell:=ks.map fun k=>⟨k,getK b k⟩
theorem mpLoop {α β γ:Type} [Inhabited α] {f:α→γ} {L:Int→List γ→Option (β×Unit)} {x:List α} {r:Option (β×Unit)}
  (h: ∀ (i:Nat) (e:List γ),i<x.length→e.length=i→L (i:Int) e=L ((i+1:Nat):Int) (e++[f (nth x i)])) (h':L (x.length:Int) (x.map f)=r):
  ∀ (k i:Nat),i+k=x.length→L (i:Int) ((x.take i).map f)=r
 | 0, i, hk => by
  obtain rfl:i=x.length:=by omega
  rw[List.take_length]
  exact h'
 | k + 1, i, hk => by
  have hi:i<x.length:=by omega
  rw[h i _ hi (by rw[List.length_map,List.length_take];omega)]
  have e:(x.take i).map f++[f (nth x i)]=(x.take (i+1)).map f:=by rw[take_nthE hi,List.map_append];rfl
  rw[e]
  exact mpLoop h h' k (i+1) (by omega)
theorem i2 {i n:Nat} (h:i<n) (hn:n≤1000000000000):IntKind.wrap .i64 ((i:Int)+1)=((i+1:Nat):Int):=by rw[i64_id (by omega) (by omega)];rfl
theorem e66 {a b:List Fw.Cell} (ha:a.length≤1000000000) (hb:b.length≤1000000000):D66 a b=some (chgP b (difF a b),()):=by
 have hl:(difF a b).length≤2000000000:=by have:=fold_len a b (keysA a b) [];rw[keysA_len] at this;unfold difF;simp only[List.length_nil] at this;omega
 rw[E66,e103 ha hb,Option.bind_some]
 generalize difF a b=ks at *
 refine mpLoop (f:=fun k=>(⟨k,getK b k⟩:Fw.Cell)) (L:=fun i e=>L66_244 b ks i e) (x:=ks) (fun i e hi he=>?_) (by rw[P66_244,dn,cond_false,P66_31];rfl) ks.length 0 (by omega)
 rw[P66_244]
 simp only[d0,d1 hi,i2 hi (show ks.length≤1000000000000 by omega),cond_true,Bool.and_self,gd,Int.toNat_natCast]
 rw[e104 (by omega),Option.bind_some]
 exact gm (by omega) (by omega) _
theorem e2144 {a b:List Fw.Cell} (ha:a.length≤1000000000) (hb:b.length≤1000000000):D2144 a b=some (chgP b (difF a b),()):=by
 have hl:(difF a b).length≤2000000000:=by have:=fold_len a b (keysA a b) [];rw[keysA_len] at this;unfold difF;simp only[List.length_nil] at this;omega
 rw[E2144,e2258 ha hb,Option.bind_some]
 generalize difF a b=ks at *
 show L2144_116 b (ks.length:Int) 0 ks=_
 rw[P2144_116]
 by_cases h0:0<ks.length
 ·have e0:decide ((0:Int)<(ks.length:Int))=true:=decide_eq_true (by omega)
  have ht:(ks.take 1).map (fun k=>(⟨k,getK b k⟩:Fw.Cell))=[⟨nth ks 0,getK b (nth ks 0)⟩]:=by rw[take_nthE h0];rfl
  rw[e0,cond_true]
  show((D2078 b (nth ks 0)).bind _)=_
  rw[t2078 (by omega),Option.bind_some]
  show L2144_116b b (ks.length:Int) ((1:Nat):Int) [⟨nth ks 0,getK b (nth ks 0)⟩] ks=_
  rw[←ht]
  refine mpLoop (f:=fun k=>(⟨k,getK b k⟩:Fw.Cell)) (L:=fun i e=>L2144_116b b (ks.length:Int) i e ks) (x:=ks) (fun i e hi he=>?_) (by rw[P2144_116b,dn,cond_false,P2144_15b];rfl) (ks.length - 1) 1 (by omega)
  rw[P2144_116b]
  simp only[d0,d1 hi,i2 hi (show ks.length≤1000000000000 by omega),cond_true,Bool.and_self,gd,Int.toNat_natCast]
  rw[t2078 (by omega),Option.bind_some]
  exact gm (by omega) (by omega) _
 ·have e0:decide ((0:Int)<(ks.length:Int))=false:=decide_eq_false (by omega)
  rw[e0,cond_false,P2144_15]
  rw[List.eq_nil_of_length_eq_zero (by omega:ks.length=0)]
  rfl
end Go.Proofs.YtapfpflmcgfbkaaGreatDoor.Ri

namespace Go.Proofs.YtapfpflmcgfbkaaGreatDoor.Ri
open Go.Proofs.YtapfpflmcgfbkaaGreatDoor.Fw
set_option linter.unusedVariables false
set_option linter.unusedSimpArgs false
set_option maxRecDepth 100000
def sstep (n:Nat) (b:UInt8):Nat:=(31*n+b.toNat) % 9973
theorem sumL_eq (l:List UInt8):sumL l=l.foldl sstep 7:=rfl
theorem sstep_lt (n:Nat) (b:UInt8):sstep n b<9973:=Nat.mod_lt _ (by decide)
theorem w158 (s:ByteArray) (hs:s.size≤4611686018427387904): ∀ (n i m:Nat),i+n=s.size→m<9973→L158_116 s (m:Int) (i:Int)=some (((((sbytes s).drop i).foldl sstep m:Nat):Int),())
 | 0, i, m, hn, hm => by
  obtain rfl:i=s.size:=by omega
  rw[P158_116,dn,cond_false,P158_15,List.drop_eq_nil_of_le (by rw[sbytes_lenE];omega)]
  rfl
 | n + 1, i, m, hn, hm => by
  have hi:i<s.size:=by omega
  have hb:(byteAt s i).toNat<256:=(byteAt s i).toNat_lt
  have e1:IntKind.wrap .i64 (31*(m:Int))=31*(m:Int):=i64_id (by omega) (by omega)
  have e2:IntKind.wrap .i64 (((byteAt s i).toNat:Nat):Int)=(((byteAt s i).toNat:Nat):Int):=i64_id (by omega) (by omega)
  have e3:IntKind.wrap .i64 (31*(m:Int)+(((byteAt s i).toNat:Nat):Int))=((31*m+(byteAt s i).toNat:Nat):Int):=by rw[i64_id (by omega) (by omega)];omega
  have e4:Int.tmod ((31*m+(byteAt s i).toNat:Nat):Int) 9973=((sstep m (byteAt s i):Nat):Int):=rfl
  have ei:IntKind.wrap .i64 ((i:Int)+1)=((i+1:Nat):Int):=by rw[i64_id (by omega) (by omega)];rfl
  have g:(!(decide ((9973:Int)=0)))=true:=rfl
  rw[P158_116,drop_atE s hi,List.foldl_cons]
  simp only[d0,d1 hi,g,ei,e1,e2,e3,e4,cond_true,Bool.and_self,gd,Int.toNat_natCast]
  exact w158 s hs n (i+1) _ (by omega) (sstep_lt _ _)
theorem e158 {s:ByteArray} (hs:s.size≤4611686018427387904):D158 s=some (((sumL (sbytes s):Nat):Int),()):=by
 rw[E158]
 exact w158 s hs s.size 0 7 (by omega) (by decide)
theorem sumL_lu (l:List UInt8):sumL l<9973:=by
 rw[sumL_eq]
 rcases List.eq_nil_or_concat l with rfl | ⟨i,x,rfl⟩
 ·decide
 ·rw[List.concat_eq_append,List.foldl_append]
  exact sstep_lt _ _
theorem hexP_le {s:ByteArray} (h:s.size≤20000):hexP s=(hexS (sbytes s),(true,())):=by
 unfold hexP
 rw[decide_eq_false (show ¬ ((s.size:Int)>20000) by omega)]
 rfl
theorem hexS_list (l:List UInt8):sbytes (hexS l)=Lib.Hx.encode l:=List.toList_toArray
theorem key40 {x:ByteArray} (h:keyOkL x.data.toList=true):x.size≤40:=by
 unfold keyOkL at h
 rw[Bool.and_eq_true,Bool.and_eq_true] at h
 have:=Nat.le_of_ble_eq_true h.2.2
 rw[Array.length_toList] at this
 exact this
theorem blt_dec (n m:Nat):decide ((m:Int)>(n:Int))=Nat.blt n m:=by
 rw[Bool.eq_iff_iff,decide_eq_true_eq]
 constructor
 ·intro h
  exact Nat.ble_eq_true_of_le (show n+1≤m by omega)
 ·intro h
  have:=Nat.le_of_ble_eq_true h
  omega
theorem itoaS_sb {n:Int} (h: -9223372036854775808≤n) (h':n≤9223372036854775807):sbytes (itoaS n)=itoaL n:=by
 rw[itoaS_list h h',itoaL_eq (by omega)]
theorem t31 {out:List UInt8} (h:out.length≤4300):L108_31 out=some (bstr (bif Nat.blt 4000 (out++32::35::(itoaL (sumL out)++[10])).length then[] else out++32::35::(itoaL (sumL out)++[10])),()):=by
 have hl:=sumL_lu out
 have hb:(bstr out).size=out.length:=bstr_size out
 have hi:=itoaS_size (n:=((sumL out:Nat):Int)) (by omega) (by omega)
 have z1:(tx [32,35]).size=2:=rfl
 have z2:(tx [10]).size=1:=rfl
 have s1:(bstr out++tx [32,35]).size=out.length+2:=by rw[ByteArray.size_append,hb,z1]
 have s2:((bstr out++tx [32,35])++itoaS ((sumL out:Nat):Int)).size=out.length+2+(itoaS ((sumL out:Nat):Int)).size:=by rw[ByteArray.size_append,s1]
 have s3:(((bstr out++tx [32,35])++itoaS ((sumL out:Nat):Int))++tx [10]).size=out.length+2+(itoaS ((sumL out:Nat):Int)).size+1:=by rw[ByteArray.size_append,s2,z2]
 have hfin:((bstr out++tx [32,35])++itoaS ((sumL out:Nat):Int))++tx [10]=bstr (out++32::35::(itoaL (sumL out)++[10])):=by
  apply sbytes_inj
  rw[sbytes_app,sbytes_app,sbytes_app,sbytes_bstr,sbytes_bstr,itoaS_sb (by omega) (by omega)]
  show((out++[32,35])++itoaL (sumL out))++[10]=_
  simp
 have hlen:(out++32::35::(itoaL (sumL out)++[10])).length=out.length+2+(itoaS ((sumL out:Nat):Int)).size+1:=by
  rw[←s3,hfin,bstr_size]
 have g1:decide ((bstr out).size+(tx [32,35]).size≤9223372036854775807)=true:=decide_eq_true (by omega)
 have g2:decide ((bstr out++tx [32,35]).size+(itoaS ((sumL out:Nat):Int)).size≤9223372036854775807)=true:=decide_eq_true (by omega)
 have g3:decide (((bstr out++tx [32,35])++itoaS ((sumL out:Nat):Int)).size+(tx [10]).size≤9223372036854775807)=true:=decide_eq_true (by omega)
 have eb:D158 (bstr out)=some (((sumL out:Nat):Int),()):=by rw[e158 (by omega),sbytes_bstr]
 rw[P108_31]
 simp only[List.map_id',g1,gd,cond_true,eb,Option.bind_some,e122 (show -9223372036854775808≤((sumL out:Nat):Int) by omega) (by omega),g2,g3]
 have hc:decide ((((((bstr out++tx [32,35])++itoaS ((sumL out:Nat):Int))++tx [10]).size:Nat):Int)>4000)=Nat.blt 4000 (((bstr out++tx [32,35])++itoaS ((sumL out:Nat):Int))++tx [10]).size:=blt_dec 4000 _
 rw[hc,s3,hlen,hfin]
 cases Nat.blt 4000 (out.length+2+(itoaS ((sumL out:Nat):Int)).size+1)<;>rfl
theorem w108 {l:List Fw.Cell} (hl:l.length≤1000000000000) (hk: ∀ i,i<l.length→(nth l i).Key.size≤1048576): ∀ (n i:Nat) (e:List UInt8),i+n=l.length→e.length≤4300→
  L108_244 l (i:Int) e=(match recGo e (l.drop i) with
   | none=>some (tx [],())
   | some o=>L108_31 o)
 | 0, i, e, hn, he => by
  obtain rfl:i=l.length:=by omega
  rw[P108_244,dn,cond_false,List.drop_length]
  rfl
 | n + 1, i, e, hn, he => by
  have hi:i<l.length:=by omega
  have hks:=hk i hi
  have hd:l.drop i=nth l i::l.drop (i+1):=by rw[nth_getE hi,List.drop_eq_getElem_cons hi]
  rw[P108_244,hd]
  unfold recGo
  simp only[d0,d1 hi,i2 hi hl,cond_true,Bool.and_self,Bool.true_or,gd,Int.toNat_natCast]
  rw[e132 (by omega),Option.bind_some]
  have q1:decide (((nth l i).Val.size:Int)>60)=Nat.blt 60 (nth l i).Val.size:=blt_dec 60 _
  have q2:decide ((e.length:Int)>4000)=Nat.blt 4000 e.length:=blt_dec 4000 _
  show(bif (((!keyOkL (nth l i).Key.data.toList)||decide (((nth l i).Val.size:Int)>60))||decide ((e.length:Int)>4000)) then _ else _)=_
  rw[q1,q2]
  cases hq:((!keyOkL (nth l i).Key.data.toList)||Nat.blt 60 (nth l i).Val.size)||Nat.blt 4000 e.length with
  | true=>rfl
  | false =>
   rw[Bool.or_eq_false_iff,Bool.or_eq_false_iff,Bool.not_eq_false'] at hq
   obtain⟨⟨h1,h2⟩,h3⟩:=hq
   have h1:=key40 h1
   have h2:(nth l i).Val.size≤60:=Nat.le_of_not_lt fun hh=>by rw[show Nat.blt 60 (nth l i).Val.size=true from Nat.ble_eq_true_of_le hh] at h2;cases h2
   have h3:e.length≤4000:=Nat.le_of_not_lt fun hh=>by rw[show Nat.blt 4000 e.length=true from Nat.ble_eq_true_of_le hh] at h3;cases h3
   have z1:(hexS (sbytes (nth l i).Key)).size=2*(nth l i).Key.size:=by rw[hexS_size,sbytes_lenE]
   have z2:(hexS (sbytes (nth l i).Val)).size=2*(nth l i).Val.size:=by rw[hexS_size,sbytes_lenE]
   have y1:(Lib.Hx.encode (sbytes (nth l i).Key)).length=2*(nth l i).Key.size:=by rw[←hexS_list,sbytes_lenE,z1]
   have y2:(Lib.Hx.encode (sbytes (nth l i).Val)).length=2*(nth l i).Val.size:=by rw[←hexS_list,sbytes_lenE,z2]
   rw[cond_false,cond_false,e157,Option.bind_some,e157,Option.bind_some,hexP_le (by omega),hexP_le (by omega)]
   simp only[List.map_id',hexS_list]
   have o1:(e++[u8of 32]).length=e.length+1:=by rw[List.length_append];rfl
   have o2:((e++[u8of 32])++Lib.Hx.encode (sbytes (nth l i).Key)).length=e.length+1+2*(nth l i).Key.size:=by rw[List.length_append,o1,y1]
   have o3:(((e++[u8of 32])++Lib.Hx.encode (sbytes (nth l i).Key))++[u8of 61]).length=e.length+1+2*(nth l i).Key.size+1:=by rw[List.length_append,o2];rfl
   have o4:((((e++[u8of 32])++Lib.Hx.encode (sbytes (nth l i).Key))++[u8of 61])++Lib.Hx.encode (sbytes (nth l i).Val)).length=e.length+1+2*(nth l i).Key.size+1+2*(nth l i).Val.size:=by rw[List.length_append,o3,y2]
   have ee:(((e++[u8of 32])++Lib.Hx.encode (sbytes (nth l i).Key))++[u8of 61])++Lib.Hx.encode (sbytes (nth l i).Val)=e++32::(Lib.Hx.encode (nth l i).Key.data.toList++61::Lib.Hx.encode (nth l i).Val.data.toList):=by
    have u1:u8of 32=32:=rfl
    have u2:u8of 61=61:=rfl
    rw[u1,u2]
    simp[sbytes]
   rw[z1,z2]
   refine(gm (by omega) (by omega) _).trans ((gm (by omega) (by omega) _).trans ((gm (by omega) (by omega) _).trans ((gm (by omega) (by omega) _).trans ?_)))
   rw[←ee]
   exact w108 hl hk n (i+1) _ (by omega) (by omega)
theorem recGo_len: ∀ (l:List Fw.Cell) (out o:List UInt8),out.length≤4300→recGo out l=some o→o.length≤4300
 | [], out, o, h, e => by
  unfold recGo at e
  cases e
  exact h
 | c :: r, out, o, h, e => by
  unfold recGo at e
  cases hq:((!keyOkL c.Key.data.toList)||Nat.blt 60 c.Val.size)||Nat.blt 4000 out.length with
  | true=>rw[hq] at e;cases e
  | false =>
   rw[hq] at e
   rw[Bool.or_eq_false_iff,Bool.or_eq_false_iff,Bool.not_eq_false'] at hq
   obtain⟨⟨h1,h2⟩,h3⟩:=hq
   have h1:=key40 h1
   have h2:c.Val.size≤60:=Nat.le_of_not_lt fun hh=>by rw[show Nat.blt 60 c.Val.size=true from Nat.ble_eq_true_of_le hh] at h2;cases h2
   have h3:out.length≤4000:=Nat.le_of_not_lt fun hh=>by rw[show Nat.blt 4000 out.length=true from Nat.ble_eq_true_of_le hh] at h3;cases h3
   have y1:(Lib.Hx.encode c.Key.data.toList).length=2*c.Key.size:=by
    have:=hexS_size c.Key.data.toList
    rw[←sbytes_lenE,hexS_list] at this
    rw[this,Array.length_toList];rfl
   have y2:(Lib.Hx.encode c.Val.data.toList).length=2*c.Val.size:=by
    have:=hexS_size c.Val.data.toList
    rw[←sbytes_lenE,hexS_list] at this
    rw[this,Array.length_toList];rfl
   refine recGo_len r _ o ?_ e
   rw[List.length_append,List.length_cons,List.length_append,List.length_cons,y1,y2]
   omega
theorem e108 {seq:Int} {l:List Fw.Cell} (hs: -9223372036854775808≤seq∧seq≤9223372036854775807) (hl:l.length≤1000000000000) (hk: ∀ i,i<l.length→(nth l i).Key.size≤1048576):D108 seq l=some (bstr (recL seq l),()):=by
 rw[E108,E27,Option.bind_some]
 have hc:(decide (seq≥1)&&decide (seq≤100000))=(decide (1≤seq)&&decide (seq≤100000)):=rfl
 unfold recL
 show(bif !(decide (seq≥1)&&decide (seq≤100000)) then _ else _)=_
 rw[hc]
 cases decide (1≤seq)&&decide (seq≤100000) with
 | false=>rfl
 | true =>
  have hsb:=itoaS_sb hs.1 hs.2
  have hz:=itoaS_size hs.1 hs.2
  have hl2:(itoaL seq).length≤20:=by rw[←hsb,sbytes_lenE];exact hz
  rw[Bool.not_true,cond_false,cond_true,e122 hs.1 hs.2,Option.bind_some]
  simp only[List.map_id',hsb]
  refine(w108 hl hk l.length 0 _ (by omega) (by omega)).trans ?_
  rw[List.drop_zero]
  cases hr:recGo (itoaL seq) l with
  | none=>rfl
  | some o=>exact t31 (recGo_len l (itoaL seq) o (by omega) hr)
theorem e2143 (seq:Int) (l:List Fw.Cell):D2143 seq l=some (bstr (recL seq l),()):=by rw[E2143];rfl
end Go.Proofs.YtapfpflmcgfbkaaGreatDoor.Ri

namespace Go.Proofs.YtapfpflmcgfbkaaGreatDoor.Ri
open Go.Proofs.YtapfpflmcgfbkaaGreatDoor.Fw
set_option linter.unusedVariables false
set_option linter.unusedSimpArgs false
set_option maxRecDepth 100000
theorem t109 {j:Fw.Journal} {t:ByteArray} (ht:t.size≤5000): ∃ r,D109 j t=some r∧D2294 j t=some r:=by
 rw[E109,E2294,e110,e2192,Option.bind_some,Option.bind_some]
 cases hj:jnB j with
 | false=>exact⟨_,rfl,rfl⟩
 | true =>
  have hs:j.Text.size≤20000:=by
   unfold jnB at hj
   apply Nat.le_of_not_lt
   intro h
   rw[decide_eq_false (show ¬ ((j.Text.size:Int)≤20000) by omega)] at hj
   cases hj
  have w1:IntKind.wrap .i64 (20000 - (j.Text.size:Int))=20000 - (j.Text.size:Int):=i64_id (by omega) (by omega)
  have w2:IntKind.wrap .i64 ((j.Text.size:Int)+(t.size:Int))=(j.Text.size:Int)+(t.size:Int):=i64_id (by omega) (by omega)
  have g:decide ((t.size:Int)>20000 - (j.Text.size:Int))=decide ((j.Text.size:Int)+(t.size:Int)>20000):=by
   rw[Bool.eq_iff_iff,decide_eq_true_eq,decide_eq_true_eq];omega
  have g2:decide (j.Text.size+t.size≤9223372036854775807)=true:=decide_eq_true (by omega)
  rw[w1,w2,g,g2]
  cases decide ((j.Text.size:Int)+(t.size:Int)>20000)<;>exact⟨_,rfl,rfl⟩
theorem recL_len (seq:Int) (l:List Fw.Cell):(recL seq l).length≤4000:=by
 unfold recL
 cases decide (1≤seq)&&decide (seq≤100000) with
 | false=>exact Nat.zero_le _
 | true =>
  rw[cond_true]
  cases recGo (itoaL seq) l with
  | none=>exact Nat.zero_le _
  | some o =>
   show(bif Nat.blt 4000 (o++32::35::(itoaL (sumL o)++[10])).length then[] else o++32::35::(itoaL (sumL o)++[10])).length≤4000
   cases hb:Nat.blt 4000 (o++32::35::(itoaL (sumL o)++[10])).length with
   | true=>exact Nat.zero_le _
   | false =>
    rw[cond_false]
    apply Nat.le_of_not_lt
    intro h
    rw[show Nat.blt 4000 _=true from Nat.ble_eq_true_of_le h] at hb
    cases hb
theorem t69 {k:Fw.Kernel} {l:List Fw.Cell} (hk:KSz k) (hl:l.length≤1000000000000) (hkey: ∀ i,i<l.length→(nth l i).Key.size≤1048576):
  ∃ (k':Fw.Kernel) (b:Bool),D69 k l=some (k',(b,()))∧D2164 k l=some (b,(k',()))∧k'.Txs=k.Txs∧k'.History=k.History:=by
 rw[E69,E2164,e40 hk,Option.bind_some]
 show ∃ (k':Fw.Kernel) (b:Bool),(bif decide ((l.length:Int)=0) then some (k,(true,())) else _)=_∧(bif decide ((l.length:Int)=0) then some (true,(k,())) else _)=_∧_
 cases decide ((l.length:Int)=0) with
 | true=>exact⟨k,true,rfl,rfl,rfl,rfl⟩
 | false =>
  have hs:=i6_wrap (k.Seq+1)
  rw[cond_false,cond_false,e108 hs hl hkey,e2143,Option.bind_some,Option.bind_some]
  generalize hr:bstr (recL (IntKind.wrap .i64 (k.Seq+1)) l)=t
  have ht:t.size≤5000:=by
   rw[←hr,bstr_size]
   have:=recL_len (IntKind.wrap .i64 (k.Seq+1)) l
   omega
  show ∃ (k':Fw.Kernel) (b:Bool),(bif decide (k.Seq≥99000)||decide (t=tx []) then some (k,(false,())) else _)=_∧(bif decide (k.Seq≥99000)||decide (t=tx []) then some (false,(k,())) else _)=_∧_
  cases decide (k.Seq≥99000)||decide (t=tx []) with
  | true=>exact⟨k,false,rfl,rfl,rfl,rfl⟩
  | false =>
   obtain⟨r,e1,e2⟩:=t109 (j:=k.Disk.Journal) ht
   rw[cond_false,cond_false,e1,e2,Option.bind_some,Option.bind_some]
   obtain⟨j,b,u⟩:=r
   cases b with
   | false=>exact⟨k,false,rfl,rfl,rfl,rfl⟩
   | true=>exact⟨_,true,rfl,rfl,rfl,rfl⟩
def layO (v:List Fw.Cell) (s:List Fw.Cell) (ws:List ByteArray):List Fw.Cell:=ws.foldl (fun s w=>putC s w (getK v w)) s
theorem layO_len (v:List Fw.Cell): ∀ (ws:List ByteArray) (s:List Fw.Cell),(layO v s ws).length≤s.length+ws.length
 | [],s=>Nat.le_refl _
 | w :: ws, s => by
  have h1:=layO_len v ws (putC s w (getK v w))
  have h2:=putC_len s w (getK v w)
  show(layO v (putC s w (getK v w)) ws).length≤_
  rw[List.length_cons]
  omega
theorem putC_mem {s:List Fw.Cell} {k v:ByteArray} {c:Fw.Cell} (h:c∈putC s k v):c∈s∨c.Key=k:=by
 unfold putC at h
 cases h1:!keyOkL k.data.toList||decide ((v.size:Int)>60) with
 | true=>rw[h1,cond_true] at h;exact .inl h
 | false =>
  rw[h1,cond_false] at h
  cases h2:decide (v=tx []) with
  | true =>
   rw[h2,cond_true] at h
   exact .inl (List.mem_filter.1 h).1
  | false =>
   rw[h2,cond_false] at h
   rcases List.mem_cons.1 ((insK_perm _ _).mem_iff.1 h) with h | h
   ·exact .inr (by rw[h])
   ·exact .inl (List.mem_filter.1 h).1
theorem layO_key (v:List Fw.Cell): ∀ (ws:List ByteArray) (s:List Fw.Cell),(∀ c∈s,c.Key.size≤1048576)→(∀ w∈ws,w.size≤1048576)→ ∀ c∈layO v s ws,c.Key.size≤1048576
 | [],s,hs,hw=>hs
 | w::ws,s,hs,hw=>layO_key v ws _ (fun c hc=>(putC_mem hc).elim (hs c) fun e=>e▸hw w List.mem_cons_self) fun x hx=>hw x (List.mem_cons_of_mem _ hx)
section
variable {v:List Fw.Cell} (hv:v.length≤1000000000000) {t:Fw.Touch} (ht:SpS t.Writes)
include hv ht
theorem w164: ∀ (n i:Nat) (s:List Fw.Cell),i+n=t.Writes.length→s.length≤1048576+i→L164_116 v (i:Int) t.Reads t.Writes s=some (layO v s (t.Writes.drop i),())
 | 0, i, s, hn, hs => by
  obtain rfl:i=t.Writes.length:=by omega
  rw[P164_116,dn,cond_false,P164_15,List.drop_length]
  rfl
 | n + 1, i, s, hn, hs => by
  have hi:i<t.Writes.length:=by omega
  have h1:=ht.n
  have h2:=ht.m i hi
  have hd:t.Writes.drop i=nth t.Writes i::t.Writes.drop (i+1):=by rw[nth_getE hi,List.drop_eq_getElem_cons hi]
  have h3:=putC_len s (nth t.Writes i) (getK v (nth t.Writes i))
  rw[P164_116,hd]
  simp only[d0,d1 hi,i1 hi h1,cond_true,Bool.and_self,gd,Int.toNat_natCast]
  rw[e104 (by omega),Option.bind_some,e162 (by omega) (by omega),Option.bind_some]
  exact w164 n (i+1) (putC s (nth t.Writes i) (getK v (nth t.Writes i))) (by omega) (by omega)
theorem w2293: ∀ (n i:Nat) (s:List Fw.Cell),i+n=t.Writes.length→s.length≤1048576+i→L2293_116 v t.Writes (t.Writes.length:Int) (i:Int) s=some (layO v s (t.Writes.drop i),())
 | 0, i, s, hn, hs => by
  obtain rfl:i=t.Writes.length:=by omega
  rw[P2293_116,dn,cond_false,P2293_15,List.drop_length]
  rfl
 | n + 1, i, s, hn, hs => by
  have hi:i<t.Writes.length:=by omega
  have h1:=ht.n
  have h2:=ht.m i hi
  have hd:t.Writes.drop i=nth t.Writes i::t.Writes.drop (i+1):=by rw[nth_getE hi,List.drop_eq_getElem_cons hi]
  have h3:=putC_len s (nth t.Writes i) (getK v (nth t.Writes i))
  rw[P2293_116,hd]
  simp only[d0,d1 hi,i1 hi h1,cond_true,Bool.and_self,gd,Int.toNat_natCast]
  rw[t2078 (by omega),Option.bind_some,e2319 (by omega) (by omega),Option.bind_some]
  exact w2293 n (i+1) (putC s (nth t.Writes i) (getK v (nth t.Writes i))) (by omega) (by omega)
theorem e164 {s:List Fw.Cell} (hs:s.length≤1048576):D164 s v t=some (layO v s t.Writes,()):=by
 rw[E164,gm (by omega) (by omega)]
 exact w164 hv ht t.Writes.length 0 s (by omega) (by omega)
theorem e2293 {s:List Fw.Cell} (hs:s.length≤1048576):D2293 s v t=some (layO v s t.Writes,()):=by
 rw[E2293,e2168 hs,Option.bind_some]
 exact w2293 hv ht t.Writes.length 0 s (by omega) (by omega)
end
theorem t128 {s:List Fw.Cell} {x:Fw.Tx} (h:TN s x) (hw:SpS x.Touch.Writes) (hs:s.length≤1048576): ∃ v:List Fw.Cell,D128 s x=some (layO v s x.Touch.Writes,())∧D2163 s x=some (layO v s x.Touch.Writes,()):=by
  obtain⟨P,a,hN,hst,hc⟩:=h.c
  have h1:=h.cl
  obtain ⟨u, v, e1, e2, rfl, hs', hr, hww, ho⟩ := t134 (l := stepsP x) (by unfold stepsP; rw [List.length_map]; omega) (fun z hz => by
    obtain⟨c,hc',rfl⟩:=List.mem_map.1 hz
    exact hc c hc') hst hN
  have hvl:=StI.len hN hs'
  have emo:D2202 s=some (⟨s,⟨[],[]⟩⟩,()):=by rw[E2202,e2168 hs];rfl
  have ev1:D98 s x=some (u.1,()):=by rw[E98,e129 (by omega),Option.bind_some,e1];rfl
  have ev2:D2188 s x=some (u.1,()):=by
    rw[E2188,e2165 (by omega),Option.bind_some,E2099,emo,Option.bind_some]
    show(((D2203 ⟨s,⟨[],[]⟩⟩ (stepsP x)).bind _).bind _)=_
    rw[e2]
    rfl
  refine⟨u.1,?_,?_⟩
  · rw[E128,ev1,Option.bind_some,e164 (by omega) hw hs];rfl
  · rw[E2163,ev2,Option.bind_some,e2293 (by omega) hw hs];rfl
end Go.Proofs.YtapfpflmcgfbkaaGreatDoor.Ri

namespace Go.Proofs.YtapfpflmcgfbkaaGreatDoor.Ri
open Go.Proofs.YtapfpflmcgfbkaaGreatDoor.Fw
set_option linter.unusedVariables false
set_option linter.unusedSimpArgs false
set_option maxRecDepth 100000
theorem idxI_lt {α:Type} {p:α→Bool} {l:List α} (h: ¬ idxI p l 0<0): ∃ i:Nat,i<l.length∧idxI p l 0=(i:Int):=by
 unfold idxI at h ⊢
 rw[List.drop_zero] at h ⊢
 cases hf:l.findIdx? p with
 | none=>rw[hf] at h;exact absurd (show((-1:Int)<0) by decide) h
 | some j =>
  obtain⟨hj,_,_⟩:=List.findIdx?_eq_some_iff_getElem.1 hf
  exact⟨j,hj,by show((0+j:Nat):Int)=_;rw[Nat.zero_add]⟩
theorem difF_key {a b : List Fw.Cell} (ha : ∀ c ∈ a, c.Key.size ≤ 1048576) (hb : ∀ c ∈ b, c.Key.size ≤ 1048576) : ∀ z ∈ difF a b, z.size ≤ 1048576 := fun z hz => by
 unfold difF at hz
 rcases(fold_mem a b _ _).1 hz with h | ⟨h,_⟩
 ·cases h
 ·unfold keysA at h
  rcases List.mem_append.1 h with h | h
  ·obtain⟨c,hc,rfl⟩:=List.mem_map.1 h
   exact ha c hc
  ·obtain⟨c,hc,rfl⟩:=List.mem_map.1 h
   exact hb c hc
theorem t84 {k:Fw.Kernel} {id:Int} (hk:KSz k) (hg:Dat.good k): ∃ (a b:Fw.Kernel) (c:Int),D84 k id=some (a,(c,()))∧D2070 k id=some (b,(c,())):=by
 have hx:=TxL.of hk.tx
 have hst:=StS.of hk.st
 have hhs:=cL_len cEntry k.History
 have hh:=hk.hs
 have htx:=hk.tx
 have hsz:=hk.st
 obtain⟨b,o1,o2⟩:=t57 hk
 rw[E84,E2070,e40 hk,e2074 hk,Option.bind_some,Option.bind_some,o1,o2,Option.bind_some,Option.bind_some]
 cases b with
 | false=>exact⟨_,_,_,rfl,rfl⟩
 | true =>
  simp only[Bool.not_true,cond_false,e58 hx.n,e2085 hx.n,Option.bind_some]
  by_cases hl:idxI (liveB id) k.Txs 0<0
  ·simp only[decide_eq_true hl,cond_true]
   exact⟨_,_,_,rfl,rfl⟩
  ·obtain⟨i,hi,hii⟩:=idxI_lt hl
   have g0:decide ((i:Int)<0)=false:=decide_eq_false (by omega)
   have hcx:=cL_nth cTx hi
   have hgt:Dat.good k.Txs:=hg.2.1
   have hgx:Dat.good (nth k.Txs i):=gn hgt hi
   have hcx1:cTx (nth k.Txs i)≤1048576:=by omega
   have tn:=tn_of (s:=k.Store) (by omega) hcx1 hgx
   have hww:SpS (nth k.Txs i).Touch.Writes:=(hx.t i hi).w
   obtain⟨v,l1,l2⟩:=t128 tn hww hst.n
   have hkey : ∀ c ∈ k.Store, c.Key.size ≤ 1048576 := fun c hc => by
    obtain⟨j,hj,rfl⟩:=List.mem_iff_getElem.1 hc
    have:=hst.k j hj
    rwa [nth_getE hj] at this
   have hwm : ∀ w ∈ (nth k.Txs i).Touch.Writes, w.size ≤ 1048576 := fun w hw => by
    obtain⟨j,hj,rfl⟩:=List.mem_iff_getElem.1 hw
    have:=hww.m j hj
    rwa [nth_getE hj] at this
   have hln:=layO_len v (nth k.Txs i).Touch.Writes k.Store
   have hlk:=layO_key v (nth k.Txs i).Touch.Writes k.Store hkey hwm
   have hwn:=hww.n
   have hsn:=hst.n
   generalize layO v k.Store (nth k.Txs i).Touch.Writes=s at *
   have hdl:(difF k.Store s).length≤4000000:=by
    have:=fold_len k.Store s (keysA k.Store s) []
    rw[keysA_len] at this
    unfold difF
    simp only[List.length_nil] at this
    omega
   have hdk:=difF_key hkey hlk
   have c1:=e66 (a:=k.Store) (b:=s) (by omega) (by omega)
   have c2:=e2144 (a:=k.Store) (b:=s) (by omega) (by omega)
   have hch:(chgP s (difF k.Store s)).length≤4000000:=by unfold chgP;rw[List.length_map];exact hdl
   have hck : ∀ j, j < (chgP s (difF k.Store s)).length → (nth (chgP s (difF k.Store s)) j).Key.size ≤ 1048576 := fun j hj => by
    have hm:=nth_memE hj
    unfold chgP at hm
    obtain⟨z,hz,e⟩:=List.mem_map.1 hm
    unfold chgP
    rw[←e]
    exact hdk z hz
   generalize chgP s (difF k.Store s)=ch at *
   obtain⟨k',ok,m1,m2,m3,m4⟩:=t69 (l:=ch) hk (by omega) hck
   have hcl:(nth k.Txs i).Calls.length≤1048576:=by
    have h1:=cL_len cCall (nth k.Txs i).Calls
    unfold cTx at hcx1
    omega
   have hal:(nth k.Txs i).Answers.length≤1048576:=by
    have h1:=cL_len cAnswer (nth k.Txs i).Answers
    unfold cTx at hcx1
    omega
   have gi:(decide (0≤(i:Int))&&decide ((i:Int)<(k.Txs.length:Int)))=true:=by rw[d0,d1 hi];rfl
   rw[hii]
   simp only[g0,cond_false,gi,gd,cond_true,Int.toNat_natCast,l1,l2,c1,c2,m1,m2,Option.bind_some]
   cases ok with
   | false=>exact⟨_,_,_,rfl,rfl⟩
   | true =>
    have hle:k'.History.length≤1048576:=by rw[m4];omega
    have gh:(decide ((k'.History.length+1)*96≤140737488355328)&&decide (k'.History.length+1≤9223372036854775807))=true:=by rw[decide_eq_true (by omega),decide_eq_true (by omega)];rfl
    have ga:(decide ((0+(nth k.Txs i).Answers.length)*32≤140737488355328)&&decide (0+(nth k.Txs i).Answers.length≤9223372036854775807))=true:=by rw[decide_eq_true (by omega),decide_eq_true (by omega)];rfl
    simp only[Bool.not_true,cond_false,m3,gi,cond_true,e129 (show(nth k.Txs i).Calls.length≤1000000000000 by omega),e2165 (show(nth k.Txs i).Calls.length≤1000000000000 by omega),e2166 hal,Option.bind_some,ga,gh]
    exact⟨_,_,_,rfl,rfl⟩
theorem law7003 {k:Fw.Kernel} {id:Int} (hg:Dat.good k):D7003 k id=some (true,()):=by
 rw[E7003,e5004 hg 1048576 (by omega) (by omega),Option.bind_some]
 by_cases hc:(cKernel k:Int)≤1048576
 ·have hck : cKernel k ≤ 1048576 := by omega
  obtain⟨a,b,c,e1,e2⟩:=t84 (id:=id) (KSz.of hck) hg
  have e0:=e5006 hck
  have q1:D2057 k id=some (decide (c=0),()):=by rw[E2057,e1];rfl
  have q2:D2058 k id=some (decide (c=0),()):=by rw[E2058,e2];rfl
  rw[szR_yes hc]
  show(bif decide ((1048576:Int) - (cKernel k:Int)<0) then _ else _)=_
  rw[decide_eq_false (by omega),cond_false,e0,Option.bind_some]
  show((D2057 k id).bind _)=_
  rw[q1,Option.bind_some,Option.bind_some]
  show((D2058 k id).bind _)=_
  rw[q2,Option.bind_some]
  show(bif !decide (decide (c=0)=decide (c=0)) then _ else _)=_
  rw[dself,Bool.not_true,cond_false,Option.bind_some]
  show((D5008 k k).bind _)=_
  rw[e5008 hck]
  rfl
 ·rw[szR_no hc]
  rfl
end Go.Proofs.YtapfpflmcgfbkaaGreatDoor.Ri

namespace Go.Proofs.YtapfpflmcgfbkaaGreatDoor.Ri
open Go.Proofs.YtapfpflmcgfbkaaGreatDoor.Fw
open Go.RowKit
set_option linter.unusedVariables false
set_option maxRecDepth 100000
theorem S0:Sy Tryz.prog Z0.ti Z0.zr:=⟨tiok,zok,ftok,arok,sqok⟩
theorem hm0:Tryz.prog.follows .mixedOrders=true:=by kernel_rfl
theorem Dn_ok (f:Nat):Ct Z0 Tryz.prog f (Dn f):=Den_ok S0 O0_fit (fxOf_ok Z0 Tryz.prog) (calls_ok O0_fit) (draws_ok hm0 S0) hXt f
theorem close_law {f:Nat} {x:InT τ0 (Z0.sg f)} {y:OutT τ0 (Z0.sg f)} {vi:List (Vx τ0)} {nx:Nat} {r:Value} {us:List Value} {w:World} (hg:Gok (Old w) w) (h:Dn f x=some y) (hps:ptrs (Z0.sg f).ps=[])
  (hI:canO Z0.O Z0.ti (ptrs (Z0.sg f).ps).length (Z0.sg f).ps (List.range (ptrs (Z0.sg f).ps).length) x=(vi,[],nx)) (hpu:ptrU (Z0.sg f).ps us=[])
  (hO:(canO Z0.O Z0.ti 0 (Z0.sg f).outs [] y).1=[.v r]) (hr: ∀ θ,RepL θ (Old w) w vi us):
  Calls Tryz.prog (Z0.bs f) us.toArray w fun e w'=>e= .returned r∧Below w.heap.size w w':=by
 obtain⟨_,hc⟩:=Dn_ok f x y h
 have hc:=hc (Old w) (Old w) w (fun _=>⟨none,0,0⟩) us (fun _ h=>h) (fun _ h=>h) hg (by rw[hI];exact hr _) (by rw[hI];exact⟨fun r e h=>(by cases h),fun r r' e e' b b' h=>(by cases h)⟩)
 refine hc.mono fun e w' ⟨v,hv,hk,_,S',_,_,us',hvp,hl,hall⟩=>?_
 obtain⟨θ',_,h1,_⟩:=hall 0 [] (fun _=>⟨none,0,0⟩) (by rw[hps];rfl) List.nodup_nil (fun q hq=>by cases hq) (by rw[hpu];rw[hps];rfl)
 rw[hO,hpu,List.append_nil] at h1
 obtain⟨u,r',e1,⟨e2,_⟩,e3⟩:=h1
 obtain rfl:=e3
 refine⟨?_,hk.below⟩
 rw[hv,hvp,e1,e2]
 rfl
theorem oc3 {c0:List Value} (p0:Fw.Kernel) (p1:Int) {w:World} (hp0:Dat.rd (Old w) w c0 p0) (hp1:VGood (.int .i64 p1)) (hG:Gok (Old w) w):Calls Tryz.prog 3 [.agg c0.toArray,.int .i64 p1].toArray w (fun e w'=>e= .returned (.bool true)∧Below w.heap.size w w'):=
 close_law (f:=3) (y:=(true,())) (vi:=[.ag (vxs (O0.fld 32 p0)),.v (.int .i64 p1)]) (nx:=0) (r:= .bool true) hG (law7003 (id:=p1) (Dat.rd_good hp0)) rfl (by rfl) rfl (by kernel_rfl) (fun θ=>⟨_,_,rfl,⟨c0,rfl,vxs_rep (O0.op 32 p0 hp0)⟩,_,_,rfl,⟨rfl,hp1⟩,rfl⟩)
end Go.Proofs.YtapfpflmcgfbkaaGreatDoor.Ri

namespace Go.Proofs.YtapfpflmcgfbkaaGreatDoor.Fw
open Go.RowKit
set_option linter.unusedVariables false
set_option linter.unusedSimpArgs false
def gl0:List Int:=[1,10,100,1000,10000,100000,1000000,10000000,100000000,1000000000,10000000000,100000000000,1000000000000,10000000000000,100000000000000,1000000000000000,10000000000000000,100000000000000000,1000000000000000000,10000000000000000000]
def gl1:List Int:=[0,1,28,2,29,14,24,3,30,22,20,15,25,17,4,8,31,27,13,23,21,19,16,7,26,12,18,6,11,5,10,9]
def gl2:List Int:=[0,1,56,2,57,49,28,3,61,58,42,50,38,29,17,4,62,47,59,36,45,43,51,22,53,39,33,30,24,18,12,5,63,55,48,27,60,41,37,16,46,35,44,21,52,32,23,11,54,26,40,15,34,20,31,10,25,14,19,9,13,8,7,6]
end Go.Proofs.YtapfpflmcgfbkaaGreatDoor.Fw

namespace Go.Proofs.YtapfpflmcgfbkaaGreatDoor.Fw
open Go.RowKit
set_option linter.unusedVariables false
def GX (g:Nat) (w:World):Prop:= ∃ te pe,GV g [.iface te pe] w
theorem GX_iface {P:Program} {W:World} {H:Type} {enc:TypeId×Value→H} {sp:Nat→Bool} {b:Bool} {fuel t g:Nat} {x:List MemPlace} {cs:Array Value} {nm nm2:String} {d:DataW H} {ms:Array (String×TypeId)}
  (hg:P.globalNamed nm=some g) (hu:P.underlying t=some (.interface ms)) (hv:W.var? P nm=some cs) (hd:DataW.trod enc P W 0 sp b fuel t cs.toList=some (.iface nm2 d,x)):GX g W:=by
 have key: ∃ u v,cs.toList=[.iface u v]:=by
  cases fuel with
  | zero=>simp[DataW.trod] at hd
  | succ n =>
   generalize cs.toList=l at hd ⊢
   rcases l with _ | ⟨c,_ | ⟨c2,r⟩⟩
   ·simp[DataW.trod,hu] at hd
   ·cases c<;>first | exact⟨_,_,rfl⟩ | simp[DataW.trod,hu] at hd
   ·simp[DataW.trod,hu] at hd
 obtain⟨u,v,e⟩:=key
 exact⟨u,v,var_gv hg hv e⟩
end Go.Proofs.YtapfpflmcgfbkaaGreatDoor.Fw
namespace Go.Proofs.YtapfpflmcgfbkaaGreatDoor.Ri
open Go.Proofs.YtapfpflmcgfbkaaGreatDoor.Fw
theorem gl0_eq:gl0.map (Value.int .u64)=pow10L.map (Value.int .u64):=by kernel_rfl
theorem gx_ifc {g:Nat} {w:World} (h:GX g w):Old w g∧ ∃ o,w.heap[g]?=some o∧ifcP o:=by
 obtain⟨te,pe,h⟩:=h
 refine⟨h.lt,?_⟩
 obtain⟨T,fr,h⟩:=h
 exact⟨_,h,_,T,fr,rfl,.inr ⟨te,pe,rfl⟩⟩
theorem gok_of {w:World} (h0:GV 0 (gl0.map (Value.int .u64)) w) (h1:GX 3 w) (h2:GX 4 w) (h3:GX 5 w):Gok (Old w) w:=by
 rw[gl0_eq] at h0
 intro x hx
 simp only[gokL,List.mem_cons,List.not_mem_nil,or_false] at hx
 rcases hx with rfl | rfl | rfl | rfl
 ·exact⟨h0.lt,gok_row h0⟩
 ·exact gx_ifc h1
 ·exact gx_ifc h2
 ·exact gx_ifc h3
end Go.Proofs.YtapfpflmcgfbkaaGreatDoor.Ri
