/-
  The texts Am10, Am11, Am12, Am13, Am14, Am15, Am16, Am9, G, Sy, Sy5, Am17, Am18, Sy3, Am19, Am21, Sy4, Am22, Am23, Sy6, Am24, Am25, Sy7, Shelf, I, C1 of this proof, one behind the other: what each proves stands at its head. No condition.
-/
import Derived.Laws.RangeString
import Derived.Laws.IdiomStrings
import Derived.WideLaws
import Derived.Test.YtppialklomgajaaGreatDoorProg
import Derived.KernelRfl
import Derived.Lib.SliceRun
import Derived.Laws.Externs
import Derived.Shelf.LaysM
import Derived.Shelf.Strconv.Itoa3
import Derived.Shelf.LaysC
import Derived.Shelf.Strconv.AtoiAll
import Derived.Shelf.Strings.Prefix
import Derived.Shelf.Strings.Split
import Derived.Ground.PaProg
import Derived.Shelf.Hex.DecodeOwns
import Derived.Shelf.Hex.More
import Derived.Test.YtppialklomgajaaGreatDoorFTA
set_option linter.unusedVariables false
set_option linter.unusedSimpArgs false
set_option maxRecDepth 100000
namespace Go.Proofs.YtppialklomgajaaGreatDoor.Fw
open Go.RowKit
open IntKind (i64)
open List (append_nil nil_append cons_append toList_toArray length_append length_nil length_cons mem_singleton append_assoc length_take getElem?_eq_getElem size_toArray mem_of_getElem? mem_cons_of_mem map_cons length_drop getElem?_take mem_flatMap length_set getElem?_drop getElem?_append_left getElem?_map getElem?_append_right take_of_length_le)
section
theorem Q8d: ∀ (l:List Value),V.names.namesL (l.map V.v)=[]
 | []=>rfl
 | x::r=>by rw[map_cons,Ql9,Q8d r];rfl
theorem Ydy {zs:Array Value} {sz m i:Nat} (hz:zs.size=sz) (hp:0<sz) (hi:i<m):cut sz ((Array.range (m*sz)).map (fun j=>zs[j % zs.size]!)).toList i=zs.toList:=by
 have hle:i*sz+sz≤m*sz:=by
  have:(i+1)*sz≤m*sz:=Nat.mul_le_mul_right _ hi
  rwa [Nat.add_mul,Nat.one_mul] at this
 unfold cut
 refine List.ext_getElem? fun j=>?_
 by_cases hj:j<sz
 ·rw[List.getElem?_take_of_lt hj,getElem?_drop]
  have h1:i*sz+j<m*sz:=by omega
  rw[Array.getElem?_toList,Array.getElem?_map]
  rw[Array.getElem?_eq_getElem (by simpa using h1)]
  simp only[Array.getElem_range,Option.map_some,hz]
  rw[Nat.mul_comm,Nat.mul_add_mod,Nat.mod_eq_of_lt hj,Array.getElem?_toList,getElem!_pos zs j (by omega),Array.getElem?_eq_getElem (by omega)]
 ·rw[List.getElem?_eq_none (by simp;omega),List.getElem?_eq_none (by simp;omega)]
section
variable {c:Cx} {σ:St} {all:Array Oper} {ty:TypeId} {pos:String} {after:Array Edge} {d:Nat}
theorem OpS.make {α:Type} {dα:Dat α} [s:@Str α dα] {t e by':Nat} {x y:Operand} {z:Value} (m:Nat) (z0:α) {i j:Int} (hx:ev σ.ρ x=some (.v (.int .i64 i))) (hy:ev σ.ρ y=some (.v (.int .i64 j))) (hi:i=m) (hj:j=m)
  (ht:c.ti t= .sl e (Dat.sz α) by') (hz:c.zr e=some z) (hzs:z.cells.size=Dat.sz α) (ho:ElOk σ.E (Dat.sz α) dα s.fk [z0] (z.cells.toList.map V.v)) (hb:by'*m≤281474976710656) (hm:m≤9223372036854775807) (hd:Nat.blt d σ.n=true):
  OpS c σ all ⟨some d,.makeSlice t x y,ty,pos,after,none⟩ (Qdl σ d dα (List.replicate m z0)):=
 OpS.of fun θ a w h K Q hK => by
  subst hi
  subst hj
  obtain⟨S,w1,hh⟩:=h.heap
  have hti:=c.tiok t
  rw[ht] at hti
  simp only[TI.chk,Bool.and_eq_true] at hti
  obtain⟨hu,inf,hi,his,hib⟩:=Qbd hti.2
  have hex:=Option.some.inj (h.env.con hx)
  have hey:=Option.some.inj (h.env.con hy)
  obtain⟨_,hown⟩:=hh.elems s (Q6a z.cells.toList) (Q8d _) ho
  have hown0 : ∀ w', Dat.own w' z.cells.toList z0 [] := fun w' => by
   have:=hown w' 0 z0 rfl
   unfold cut at this
   rwa [Nat.zero_mul,List.drop_zero,take_of_length_le (by rw[Array.length_toList,hzs];exact Nat.le_refl _)] at this
  have hw:i64.wrap (m:Int)=m:=IntWalk.i64_in _ (by omega)
  have hlim: ¬ (281474976710656<(by':Int)*(m:Int)):=by
   have:((by'*m:Nat):Int)≤281474976710656:=by omega
   rw[Int.natCast_mul] at this
   omega
  have: ∃ arr:Array Value,arr.size=m*Dat.sz α∧(∀ i,i<m→cut (Dat.sz α) arr.toList i=z.cells.toList)∧(execOp a.eval ⟨some d,.makeSlice t x y,ty,pos,after,none⟩).run c.P w= .ok (.value (.slice (some ⟨w.heap.size,0,none⟩) m m)) (w.alloc (.cells arr e)):=by
   by_cases h0:m=0
   ·subst h0
    refine⟨#[],by simp,fun i hi=>by omega,?_⟩
    have hr:Array.range 0= #[]:=rfl
    simp[execOp,←hex,←hey,Instr.makeSlice,run_underlying hu,asInt,asIntOf,typeInfo,hi,sizeOf,newRow,hr,show i64.wrap 0=0 from rfl]
   ·refine⟨(Array.range (m*Dat.sz α)).map (z.cells[· % z.cells.size]!),by simp,fun i hi=>Ydy hzs (Dat.sz_pos α) hi,?_⟩
    have hne: ¬ (m*Dat.sz α=0):=by have:=Dat.sz_pos α;rw[Nat.mul_eq_zero];omega
    have hz':=c.zok e z hz w
    have hm0: ¬ ((m:Int)<0):=by omega
    have hszn: ¬ (Dat.sz α=0):=by have:=Dat.sz_pos α;omega
    have hlim': ¬ (((by':Int)*(m:Int))>2 ^ 48):=by omega
    simp[execOp,←hex,←hey,Instr.makeSlice,run_underlying hu,asInt,asIntOf,typeInfo,hi,sizeOf,newRow,hib,his,hw,hlim,hz',hm0]
    exact fun h=>absurd h hne
  obtain⟨arr,hsz,hcut,hrun⟩:=this
  unfold Oper.wp
  rw[hrun]
  have h3: ∀ w2,w2.heap[w.heap.size]?=some (.cells arr e (0,0))→SlO w2 (.slice (some ⟨w.heap.size,0,none⟩) (List.replicate m z0).length m) (List.replicate m z0) [w.heap.size]:=fun w2 h2=>
   Qhj.2 (.inr ⟨w.heap.size, m, arr, e, List.replicate m [], rfl, h2, by simp, by unfold maxLen; omega, by rw [hsz]; exact Nat.le_refl _, by simp, by simp, fun i y hi => by
    have him:i<m:=by simpa using (List.getElem?_eq_some_iff.1 hi).1
    rw[List.getElem?_replicate,if_pos him] at hi
    cases hi
    refine⟨[],by rw[List.getElem?_replicate,if_pos him],?_⟩
    rw[hcut i him]
    exact hown0 w2⟩)
  have hbel:Below w.heap.size w (w.alloc (.cells arr e)):=(Below.refl _ _).alloc (Nat.le_refl _) _
  let l:Loc:=⟨some ⟨w.heap.size,0,none⟩,m,[w.heap.size]⟩
  have hg:(θ++[l])[σ.m]?=some l:=by rw[←h.len];exact Qfu
  refine hK [l] _ _ ⟨by rw[length_append,h.len];rfl,(h.env.ext (θ':=[l])).put hd ?_,S,w1,?_⟩
  ·have:=h.sl0 (l:=l) (List.replicate m z0).length
   rw[List.length_replicate] at this ⊢
   exact this
  ·refine hh.ext.new hbel ?_ ?_ ?_ trivial
   ·intro w2 hw2
    refine⟨l,hg,h3 w2 ?_⟩
    have hmem:w.heap.size∈((En.own α dα (List.replicate m z0)).ck (θ++[l]) σ.m).F:=by
     show _∈locF _ _
     rw[Qaj hg]
     simp[l]
    exact(hw2 _ hmem).trans (heap_alloc_new w _)
   ·intro b hb
    have hb':b∈locF (θ++[l]) σ.m:=hb
    rw[Qaj hg] at hb'
    have:b=w.heap.size:=by simpa [l] using hb'
    subst this
    exact⟨Nat.le_refl _,(Array.getElem?_eq_some_iff.1 (heap_alloc_new w _)).1⟩
   ·show(locF _ σ.m).Nodup
    rw[Qaj hg]
    simp[l]
theorem OpS.oidx {α:Type} {dα:Dat α} {t e by' r len:Nat} {x y:Operand} {i:Int} {xs:List α} (k:Nat) (hk:k<xs.length) (hx:ev σ.ρ x=some (.sl r len)) (hy:ev σ.ρ y=some (.v (.int .i64 i))) (hp:lkE σ.E r=some (.own α dα xs)) (hl:len=xs.length) (hi:i=k) (ht:c.ti t= .sl e (Dat.sz α) by') (hd:Nat.blt d σ.n=true):
  OpS c σ all ⟨some d,.indexAddr t x y,ty,pos,after,none⟩ (put d (.pt r (k*Dat.sz α)) σ):=
 OpS.of fun θ a w h K Q hK => by
  subst hi
  subst hl
  obtain⟨S,w1,hh⟩:=h.heap
  obtain⟨l,hl,hown⟩:=hh.own hp
  have hc:=h.env.con hx
  simp only[V.con,hl,Option.some.injEq] at hc
  obtain⟨b,hA⟩: ∃ b,l.A=some ⟨b,0,none⟩:=by
   rcases hown with ⟨h1,h2,_⟩ | ⟨g,cap,arr,T,Fs,h1,_⟩
   ·rw[h2] at hk;exact absurd hk (by simp)
   ·injection h1 with h1 _ _
    exact⟨g,h1⟩
  have hti:=c.tiok t
  rw[ht] at hti
  simp only[TI.chk,Bool.and_eq_true] at hti
  have hx':=h.env.is hx (by rw[h.env.con hx,←hc,hA])
  have hy':=h.env.isv hy
  have hyy:=Qkf (P:=c.P) (w:=w) (ty:=ty) h.env.env hx' hy' (by omega) (by omega) hti.2
  unfold Oper.wp
  rw[hyy]
  refine hK [] _ _ (h.put hd (v:= .pt r (k*Dat.sz α)) ?_).app0
  obtain⟨A,cap,F⟩:=l
  simp only at hA
  subst hA
  simp only[V.con,hl,Addr.add_zero',Int.toNat_natCast]
end
theorem SH.fuse {S:Nat→Prop} {w0 w w':World} {L D Q:List Ck} (h:SH S w0 w L) {c':Ck} (hp:L.Perm (D++Q)) (hos:w'.os=w.os) (htape:w'.tape=w.tape) (hout:w'.output=w.output) (hsize:w.heap.size≤w'.heap.size)
  (hsame: ∀ b,b<w.heap.size→b ∉ D.flatMap (·.F)→w'.heap[b]?=w.heap[b]?) (hok:c'.ok w') (hF: ∀ b∈c'.F,(b∈D.flatMap (·.F)∨w.heap.size≤b)∧b<w'.heap.size) (hn:c'.F.Nodup):SH S w0 w' (c'::Q):=by
 have hap:(D.flatMap (·.F)++Q.flatMap (·.F)).Nodup:=by
  rw[←List.flatMap_append]
  exact(hp.flatMap_right _).nodup_iff.1 h.apart
 obtain⟨_,hQn,hdj⟩:=List.nodup_append.1 hap
 have hD : ∀ b ∈ D.flatMap (·.F), ¬ S b ∧ b < w.heap.size := fun b hb => by
  obtain⟨c,hc,hbc⟩:=mem_flatMap.1 hb
  exact h.ge c (hp.mem_iff.2 (List.mem_append_left _ hc)) b hbc
 have hQ: ∀ c∈Q,c∈L:=fun c hc=>hp.mem_iff.2 (List.mem_append_right _ hc)
 refine⟨?_,h.dom,?_,?_,?_⟩
 ·exact h.keep.trans ⟨hos,htape,hout,hsize,fun b hb=>hsame b (by have:=h.dom b hb;have:=h.size;omega) fun hbF=>(hD b hbF).1 hb⟩
 ·intro d hd
  rcases List.mem_cons.1 hd with rfl | hd
  ·exact hok
  ·refine(h.ok d (hQ d hd)).same fun b hb=>hsame b (h.ge d (hQ d hd) b hb).2 fun hbD=>hdj b hbD b (mem_flatMap.2 ⟨d,hd,hb⟩) rfl
 ·intro d hd b hb
  rcases List.mem_cons.1 hd with rfl | hd
  ·obtain⟨h1,h2⟩:=hF b hb
   refine⟨?_,h2⟩
   rcases h1 with h1 | h1
   ·exact(hD b h1).1
   ·intro hSb;have:=h.dom b hSb;have:=h.size;omega
  ·have:=h.ge d (hQ d hd) b hb
   exact⟨this.1,by omega⟩
 ·rw[List.flatMap_cons,List.nodup_append]
  refine⟨hn,hQn,fun b hb b' hb'=>?_⟩
  rintro rfl
  rcases(hF b hb).1 with h1 | h1
  ·exact hdj b h1 b hb' rfl
  ·obtain⟨d,hd,hbd⟩:=mem_flatMap.1 hb'
   have:=(h.ge d (hQ d hd) b hbd).2
   omega
def memN (n:Nat):List Nat→Bool
 | []=>false
 | x::r=>bif Nat.beq n x then true else memN n r
def Qhd (ns:List Nat):List (Nat×En)→List (Nat×En)
 | []=>[]
 | (r,x)::E=>bif memN r ns then Qhd ns E else(r,x)::Qhd ns E
def Qnv (ns:List Nat):List (Nat×En)→List (Nat×En)
 | []=>[]
 | (r,x)::E=>bif memN r ns then(r,x)::Qnv ns E else Qnv ns E
theorem Qqk (ns:List Nat): ∀ (E:List (Nat×En)),E.Perm (Qnv ns E++Qhd ns E)
 | []=> .nil
 | (r, x) :: E => by
  simp only[Qnv,Qhd]
  cases memN r ns with
  | true=>exact(Qqk ns E).cons _
  | false=>exact((Qqk ns E).cons _).trans List.perm_middle.symm
theorem RH.fuse {c:Cx} {θ:List Loc} {E:List (Nat×En)} {S:Nat→Prop} {w1 w w':World} (h:RH c θ E S w1 w) (ns:List Nat) {p:Nat×En} (hos:w'.os=w.os) (htape:w'.tape=w.tape) (hout:w'.output=w.output) (hsize:w.heap.size≤w'.heap.size)
  (hsame: ∀ b,b<w.heap.size→b ∉ (Qnv ns E).flatMap (fun e=>(e.2.ck θ e.1).F)→w'.heap[b]?=w.heap[b]?) (hok:(p.2.ck θ p.1).ok w') (hF: ∀ b∈(p.2.ck θ p.1).F,(b∈(Qnv ns E).flatMap (fun e=>(e.2.ck θ e.1).F)∨w.heap.size≤b)∧b<w'.heap.size) (hn:(p.2.ck θ p.1).F.Nodup) (hf:p.2.ok S w1 θ p.1):RH c θ (p::Qhd ns E) S w1 w':=by
 refine⟨h.k0,h.sub,?_,fun e he=>?_⟩
 ·rw[map_cons]
  refine h.sh.fuse (D:=(Qnv ns E).map fun e=>e.2.ck θ e.1) (by rw[←List.map_append];exact(Qqk ns E).map _) hos htape hout hsize ?_ hok ?_ hn
  ·rw[List.flatMap_map];exact hsame
  ·rw[List.flatMap_map];exact hF
 ·rcases List.mem_cons.1 he with rfl | he
  ·exact hf
  ·exact h.ok e ((Qqk ns E).mem_iff.2 (List.mem_append_right _ he))
mutual
def V.rn (r q:Nat):V→V
 | .v x=> .v x
 | .sl a n=>bif Nat.beq a r then .sl q n else .sl a n
 | .pt a o=>bif Nat.beq a r then .pt q o else .pt a o
 | .ag cs=> .ag (rnL r q cs)
 | .fn f cs=> .fn f (rnL r q cs)
 | .tu cs=> .tu (rnL r q cs)
 | .gd b x=> .gd b (x.rn r q)
def rnL (r q:Nat):List V→List V
 | []=>[]
 | x::xs=>x.rn r q::rnL r q xs
end
def rnR (r q:Nat):List (Nat×V)→List (Nat×V)
 | []=>[]
 | (t,v)::ρ=>(t,v.rn r q)::rnR r q ρ
def En.rn (r q:Nat):En→En
 | .var cs T=> .var (rnL r q cs) T
 | .lit cs T n=> .lit (rnL r q cs) T n
 | .roc cs=> .roc (rnL r q cs)
 | .own α d xs=> .own α d xs
 | .ros α d xs=> .ros α d xs
 | .itr s p=> .itr s p
 | .any P=> .any P
 | .pin l=> .pin l
def rnE (r q:Nat):List (Nat×En)→List (Nat×En)
 | []=>[]
 | (t,e)::E=>(t,e.rn r q)::rnE r q E
section
variable {θ:List Loc} {r q:Nat} {l l':Loc}
mutual
theorem V.rn_con (hr:θ[r]?=some l) (hq:θ[q]?=some l') (hA:l'.A=l.A) (hc:l'.cap=l.cap): ∀ (v:V),(v.rn r q).con θ=v.con θ
 | .v x=>rfl
 | .sl a n => by
  simp only[V.rn]
  cases hb:Nat.beq a r with
  | false=>rfl
  | true =>
   obtain rfl:=Nat.eq_of_beq_eq_true hb
   simp only[cond_true,V.con,hr,hq,hA,hc]
 | .pt a o => by
  simp only[V.rn]
  cases hb:Nat.beq a r with
  | false=>rfl
  | true =>
   obtain rfl:=Nat.eq_of_beq_eq_true hb
   obtain⟨A,cap,F⟩:=l
   obtain⟨A',cap',F'⟩:=l'
   simp only at hA
   subst hA
   simp only[cond_true,V.con,hr,hq]
   cases A'<;>rfl
 | .ag cs=>by simp only[V.rn,V.con,Qt3 hr hq hA hc cs]
 | .fn f cs=>by simp only[V.rn,V.con,Qt3 hr hq hA hc cs]
 | .tu cs=>by simp only[V.rn,V.con,Qt3 hr hq hA hc cs]
 | .gd true x=>by simp only[V.rn,V.con];exact V.rn_con hr hq hA hc x
 | .gd false x=>rfl
theorem Qt3 (hr:θ[r]?=some l) (hq:θ[q]?=some l') (hA:l'.A=l.A) (hc:l'.cap=l.cap): ∀ (cs:List V),conL θ (rnL r q cs)=conL θ cs
 | []=>rfl
 | x::xs=>by simp only[rnL,conL,V.rn_con hr hq hA hc x,Qt3 hr hq hA hc xs]
end
theorem Ye2: ∀ (ρ:List (Nat×V)) (t:Nat),lk (rnR r q ρ) t=(lk ρ t).map (V.rn r q)
 | [],_=>rfl
 | (k, v) :: ρ, t => by
  simp only[rnR,lk]
  cases Nat.beq k t with
  | true=>rfl
  | false=>exact Ye2 ρ t
theorem En.rn_ck (hr:θ[r]?=some l) (hq:θ[q]?=some l') (hA:l'.A=l.A) (hc:l'.cap=l.cap) (e:En) (t:Nat):(e.rn r q).ck θ t=e.ck θ t:=by
 cases e<;>simp only[En.rn,En.ck,Qt3 hr hq hA hc]
theorem En.rn_ok (hr:θ[r]?=some l) (hq:θ[q]?=some l') (hA:l'.A=l.A) (hc:l'.cap=l.cap) {S:Nat→Prop} {w1:World} (e:En) (t:Nat):(e.rn r q).ok S w1 θ t↔e.ok S w1 θ t:=by
 cases e<;>simp only[En.rn,En.ok,Qt3 hr hq hA hc]
theorem Ybi : ∀ (E : List (Nat × En)), rnE r q E = E.map fun e => (e.1, e.2.rn r q)
 | []=>rfl
 | (t,e)::E=>by simp only[rnE,map_cons,Ybi E]
theorem RH.rn {c:Cx} {E:List (Nat×En)} {S:Nat→Prop} {w1 w:World} (h:RH c θ E S w1 w) (hr:θ[r]?=some l) (hq:θ[q]?=some l') (hA:l'.A=l.A) (hc:l'.cap=l.cap):RH c θ (rnE r q E) S w1 w:=by
 rw[Ybi]
 refine⟨h.k0,h.sub,?_,fun e he=>?_⟩
 ·rw[List.map_map]
  have : ((fun e => e.2.ck θ e.1) ∘ fun e : Nat × En => (e.1, e.2.rn r q)) = fun e => e.2.ck θ e.1 := by
   funext e
   exact En.rn_ck hr hq hA hc e.2 e.1
  rw[this]
  exact h.sh
 ·obtain⟨e0,he0,rfl⟩:=List.mem_map.1 he
  exact(En.rn_ok hr hq hA hc e0.2 e0.1).2 (h.ok e0 he0)
theorem EnvV.rn {n:Nat} {ρ:List (Nat×V)} {a:Act} (h:EnvV n θ ρ a) (hr:θ[r]?=some l) (hq:θ[q]?=some l') (hA:l'.A=l.A) (hc:l'.cap=l.cap):EnvV n θ (rnR r q ρ) a:=by
 refine⟨h.size,h.defers,fun t v hv=>?_⟩
 rw[Ye2,Option.map_eq_some_iff] at hv
 obtain⟨v0,h0,rfl⟩:=hv
 rw[V.rn_con hr hq hA hc]
 exact h.get t v0 h0
end
end
section
theorem Qn1: ∀ {Fs:List (List Nat)} {k:Nat} {G:List Nat},Fs.flatten.Nodup→G.Nodup→(∀ b∈G,b ∉ Fs.flatten)→(Fs.set k G).flatten.Nodup∧ ∀ b∈(Fs.set k G).flatten,b∈Fs.flatten∨b∈G
 | [],_,_,h,_,_=>⟨by simp,fun b hb=> .inl (by simp at hb)⟩
 | F :: Fs, 0, G, h, hG, hd => by
  rw[List.set_cons_zero,List.flatten_cons]
  rw[List.flatten_cons,List.nodup_append] at h
  refine⟨List.nodup_append.2 ⟨hG,h.2.1,fun b hb b' hb' e=>hd b hb (by rw[List.flatten_cons];exact List.mem_append_right _ (e▸hb'))⟩,fun b hb=>?_⟩
  rcases List.mem_append.1 hb with hb | hb
  ·exact .inr hb
  ·exact .inl (by rw[List.flatten_cons];exact List.mem_append_right _ hb)
 | F :: Fs, k + 1, G, h, hG, hd => by
  rw[List.set_cons_succ,List.flatten_cons]
  rw[List.flatten_cons,List.nodup_append] at h
  obtain⟨i1,i2⟩:=Qn1 (k:=k) h.2.1 hG fun b hb hbf=>hd b hb (by rw[List.flatten_cons];exact List.mem_append_right _ hbf)
  refine⟨List.nodup_append.2 ⟨h.1,i1,fun b hb b' hb' e=>?_⟩,fun b hb=>?_⟩
  ·subst e
   rcases i2 b hb' with h2 | h2
   ·exact h.2.2 b hb b h2 rfl
   ·exact hd b h2 (by rw[List.flatten_cons];exact List.mem_append_left _ hb)
  ·rw[List.flatten_cons]
   rcases List.mem_append.1 hb with hb | hb
   ·exact .inl (List.mem_append_left _ hb)
   ·rcases i2 b hb with h2 | h2
    ·exact .inl (List.mem_append_right _ h2)
    ·exact .inr h2
def Qhw (arr:Array Value) (off sz:Nat) (ds:List Value):Array Value:=(arr.toList.take off++ds++arr.toList.drop (off+sz)).toArray
theorem Q5r {arr : Array Value} {k sz : Nat} {ds : List Value} (hd : ds.length = sz) (hle : k * sz + sz ≤ arr.size) (i : Nat) : cut sz (Qhw arr (k * sz) sz ds).toList i = if i = k then ds else cut sz arr.toList i := by
 have hal:arr.toList.length=arr.size:=Array.length_toList
 unfold cut Qhw
 rw[show(List.toArray (List.take (k*sz) arr.toList++ds++List.drop (k*sz+sz) arr.toList)).toList=List.take (k*sz) arr.toList++ds++List.drop (k*sz+sz) arr.toList from rfl]
 have h1:(List.take (k*sz) arr.toList).length=k*sz:=by rw[List.length_take];omega
 by_cases e:i=k
 ·subst e
  rw[if_pos rfl,append_assoc,List.drop_append_of_le_length (by omega),List.drop_of_length_le (by omega),nil_append,List.take_append_of_le_length (by omega),take_of_length_le (by omega)]
 ·rw[if_neg e]
  by_cases hlt:i<k
  ·have:i*sz+sz≤k*sz:=by
    have:=Nat.mul_le_mul_right sz hlt
    rwa [Nat.succ_mul] at this
   rw[append_assoc,List.drop_append_of_le_length (by omega),List.take_append_of_le_length (by rw[length_drop];omega),List.drop_take,List.take_take,Nat.min_eq_left (by omega)]
  ·have:k*sz+sz≤i*sz:=by
    have:=Nat.mul_le_mul_right sz (show k+1≤i by omega)
    rwa [Nat.succ_mul] at this
   rw[List.drop_append,List.drop_of_length_le (by rw[length_append];omega),nil_append,length_append,h1,hd,List.drop_drop]
   congr 2
   omega
theorem Q23 {arr:Array Value} {off sz:Nat} {ds:List Value} (hd:ds.length=sz) (hle:off+sz≤arr.size):(Qhw arr off sz ds).size=arr.size:=by
 have hal:arr.toList.length=arr.size:=Array.length_toList
 unfold Qhw
 simp only[size_toArray,length_append,length_take,length_drop,hal,hd]
 omega
theorem SlO.put {α:Type} [Dat α] {w:World} {g cap k:Nat} {arr:Array Value} {T:TypeId} {Fs:List (List Nat)} {xs:List α} {y:α} {ds:List Value} {G:List Nat} (hcap:xs.length≤cap) (hm:cap≤maxLen) (hsz:cap*Dat.sz α≤arr.size) (hF:Fs.length=xs.length)
  (he: ∀ i x,xs[i]?=some x→ ∃ G,Fs[i]?=some G∧Dat.own w (cut (Dat.sz α) arr.toList i) x G) (hk:k<xs.length) (hy:Dat.own w ds y G) (hgF:g ∉ Fs.flatten) (hgG:g ∉ G):
  k*Dat.sz α+Dat.sz α≤arr.size∧ ∀ w2:World,w2.heap[g]?=some (.cells (Qhw arr (k*Dat.sz α) (Dat.sz α) ds) T (0,0))→(∀ b∈(Fs.set k G).flatten,w2.heap[b]?=w.heap[b]?)→SlO w2 (.slice (some ⟨g,0,none⟩) (xs.set k y).length cap) (xs.set k y) (g::(Fs.set k G).flatten):=by
 have hle:k*Dat.sz α+Dat.sz α≤arr.size:=by
  have h1:(k+1)*Dat.sz α≤cap*Dat.sz α:=Nat.mul_le_mul_right _ (by omega)
  rw[Nat.succ_mul] at h1
  omega
 have hd:ds.length=Dat.sz α:=Dat.rd_len (Dat.own_rd (B:=fun _=>True) hy fun _ _=>trivial)
 refine⟨hle,fun w2 h2 hs=>Qhj.2 (.inr ⟨g,cap,_,T,Fs.set k G,rfl,h2,by rw[length_set];exact hcap,hm,by rw[Q23 hd hle];exact hsz,rfl,by rw[length_set,length_set,hF],fun i x hi=>?_⟩)⟩
 rw[Q5r hd hle]
 rw[List.getElem?_set] at hi
 by_cases e:k=i
 ·subst e
  rw[if_pos rfl,if_pos hk] at hi
  cases hi
  refine⟨G,by rw[List.getElem?_set_self (by omega)],?_⟩
  rw[if_pos rfl]
  exact Dat.own_same hy fun b hb=>hs b (List.mem_flatten.2 ⟨G,mem_of_getElem? (List.getElem?_set_self (by omega)),hb⟩)
 ·rw[if_neg e] at hi
  obtain⟨H,hH,ho⟩:=he i x hi
  refine⟨H,by rw[List.getElem?_set_ne e];exact hH,?_⟩
  rw[if_neg (fun h=>e h.symm)]
  exact Dat.own_same ho fun b hb=>hs b (List.mem_flatten.2 ⟨H,mem_of_getElem? (by rw[List.getElem?_set_ne e];exact hH),hb⟩)
theorem Qya {n:Nat}: ∀ {ns:List Nat},n∈ns→memN n ns=true
 | x :: r, h => by
  simp only[memN]
  cases hb:Nat.beq n x with
  | true=>rfl
  | false =>
   rcases List.mem_cons.1 h with rfl | h
   ·simp at hb
   ·exact Qya h
theorem Qnu {ns:List Nat} {n:Nat} {e:En}: ∀ {E:List (Nat×En)},(n,e)∈E→memN n ns=true→(n,e)∈Qnv ns E
 | (r, x) :: E, h, hm => by
  simp only[Qnv]
  rcases List.mem_cons.1 h with h | h
  ·cases h
   rw[hm]
   exact List.mem_cons_self
  ·cases memN r ns with
   | true=>exact mem_cons_of_mem _ (Qnu h hm)
   | false=>exact Qnu h hm
theorem Qpj {θ:List Loc} {E:List (Nat×En)} {ns:List Nat} {n b:Nat} (hn:n∈ns) (ho:ownN E n) (hb:b∈locF θ n):b∈(Qnv ns E).flatMap (fun e=>(e.2.ck θ e.1).F):=by
 obtain⟨⟨α,d,xs⟩,hp⟩:=ho
 exact mem_flatMap.2 ⟨_,Qnu (Qe1 (Ql0 hp)) (Qya hn),hb⟩
section
variable {c:Cx} {σ:St} {all:Array Oper} {ty:TypeId} {pos:String} {after:Array Edge} {d:Nat}
def Qdm {α:Type} (σ:St) (r:Nat) (dα:Dat α) (zs:List α) (ns:List Nat):St:=⟨σ.n,σ.m+1,rnR r σ.m σ.ρ,rnE r σ.m ((σ.m,.own α dα zs)::Qhd (r::ns) σ.E)⟩
theorem OpS.stE {α:Type} {dα:Dat α} [s:@Str α dα] {t:Nat} {x v:Operand} {r off:Nat} {xs:List α} (k:Nat) (y:α) {vv:V} {cs:List V} (hx:ev σ.ρ x=some (.pt r off)) (hoff:off=k*Dat.sz α) (hr:lkE σ.E r=some (.own α dα xs)) (hk:k<xs.length)
  (hv:ev σ.ρ v=some vv) (hvc:vv.cells=some cs) (ht:(c.ti t).cells=some (Dat.sz α)) (hg:Dat.good y) (hf:FkO σ.E y s.fk cs) (h1:oneL cs=true) (hn:(r::V.names.namesL cs).Nodup):
  OpS c σ all ⟨none,.store t x v,ty,pos,after,none⟩ (Qdm σ r dα (xs.set k y) (V.names.namesL cs)):=
 OpS.of fun θ a w h K Q hK => by
  subst hoff
  obtain⟨S,w1,hh⟩:=h.heap
  obtain⟨l,hl,hown⟩:=hh.own hr
  obtain⟨us,hus,hcells⟩:=V.cells_ok hvc (h.env.con hv)
  have hy:Dat.own w us y ((V.names.namesL cs).flatMap (locF θ)):=s.omk (hh.fkO hus hf (s.gd hg))
  have hnames: ∀ n∈r::V.names.namesL cs,ownN σ.E n:=by
   intro n hn
   rcases List.mem_cons.1 hn with rfl | hn
   ·exact⟨⟨α,dα,xs⟩,by unfold Qoo;rw[hr];rfl⟩
   ·exact Qlb hf n hn
  obtain⟨hnd,_⟩:=hh.nodup hn hnames
  rw[List.flatMap_cons,Qaj hl] at hnd
  obtain⟨nd1,nd2,nd3⟩:=List.nodup_append.1 hnd
  rcases hown with ⟨e1,e2,_⟩ | ⟨g,cap,arr,T,Fs,e1,e2,e3,e4,e5,e6,e7,e8⟩
  ·rw[e2] at hk;exact absurd hk (by simp)
  obtain⟨A,cap',F⟩:=l
  injection e1 with e1a e1b e1c
  simp only at e1a e1c e6 nd1 nd3
  subst e1a
  subst e1c
  subst e6
  have hgF:g ∉ Fs.flatten:=(List.nodup_cons.1 nd1).1
  have hgG:g ∉ (V.names.namesL cs).flatMap (locF θ):=fun hb=>nd3 g (by simp) g hb rfl
  obtain⟨hle,hput⟩:=SlO.put (T:=T) e3 e4 e5 e7 e8 hk hy hgF hgG
  obtain⟨ndF,memF⟩:=Qn1 (k:=k) (List.nodup_cons.1 nd1).2 nd2 fun b hb hbf=>nd3 b (mem_cons_of_mem _ hbf) b hb rfl
  have hd:us.length=Dat.sz α:=Dat.rd_len (Dat.own_rd (B:=fun _=>True) hy fun _ _=>trivial)
  have hxe:=h.env.con hx
  simp only[V.con,hl,Option.some.injEq] at hxe
  have e:(⟨g,0,none⟩:Addr).add (k*Dat.sz α)=⟨g,k*Dat.sz α,none⟩:=by unfold Addr.add;split<;>simp_all
  have hst:=run_storeCells_at c.P g (k*Dat.sz α) T us 0 arr w e2 (by omega) (List.all_eq_true.1 (Qx7 h1 hus))
  have hsz: ∀ w,(sizeOf t).run c.P w= .ok (Dat.sz α) w:=fun w=>TI.cells_size (c.tiok t) ht w
  have hrun:(execOp a.eval ⟨none,.store t x v,ty,pos,after,none⟩).run c.P w= .ok .skip (w.setRow g (Qhw arr (k*Dat.sz α) (Dat.sz α) us)):=by
   have hs:(a.eval v).cells.size=Dat.sz α:=by rw[hcells];simp;omega
   simp only[execOp,←hxe,Instr.storeAt,Instr.sureAddr,storeVar,Sem.run_bind,Sem.run_pure,Result.andThen_ok,hsz,hs,ne_eq,not_true_eq_false,if_false,e]
   rw[hcells,show us.toArray.toList=us from rfl,hst]
   simp only[Nat.add_zero,hd,Result.andThen_ok,Qhw]
  unfold Oper.wp
  rw[hrun]
  let l':Loc:=⟨some ⟨g,0,none⟩,cap',g::(Fs.set k ((V.names.namesL cs).flatMap (locF θ))).flatten⟩
  have hg':(θ++[l'])[σ.m]?=some l':=by rw[←h.len];exact Qfu
  have hgr:=Qem (θ':=[l']) hl
  have hFt : ∀ n ∈ r :: V.names.namesL cs, ∀ b ∈ locF θ n, b ∈ (Qnv (r :: V.names.namesL cs) σ.E).flatMap (fun e => (e.2.ck (θ ++ [l']) e.1).F) := fun n hn b hb => Qpj hn (hnames n hn) (by
   obtain⟨⟨α',d',xs'⟩,hp⟩:=hnames n hn
   obtain⟨l2,hl2,_⟩:=hh.own (Ql0 hp)
   rw[Qaj (Qem hl2)]
   rwa [Qaj hl2] at hb)
  have hFr: ∀ b∈g::Fs.flatten,b∈(Qnv (r::V.names.namesL cs) σ.E).flatMap (fun e=>(e.2.ck (θ++[l']) e.1).F):=fun b hb=>hFt r (by simp) b (by rw[Qaj hl];exact hb)
  have hFG : ∀ b ∈ (V.names.namesL cs).flatMap (locF θ), b ∈ (Qnv (r :: V.names.namesL cs) σ.E).flatMap (fun e => (e.2.ck (θ ++ [l']) e.1).F) := fun b hb => by
   obtain⟨n,hn,hb⟩:=mem_flatMap.1 hb
   exact hFt n (mem_cons_of_mem _ hn) b hb
  have hother: ∀ b,b≠g→(w.setRow g (Qhw arr (k*Dat.sz α) (Dat.sz α) us)).heap[b]?=w.heap[b]?:=fun b hb=>setRow_other w g b _ hb
  have hlt: ∀ b∈l'.F,b<w.heap.size:=by
   intro b hb
   rcases List.mem_cons.1 hb with rfl | hb
   ·exact(Array.getElem?_eq_some_iff.1 e2).1
   ·rcases memF b hb with hb | hb
    ·obtain⟨G,hG,hbG⟩:=List.mem_flatten.1 hb
     obtain⟨i,hi⟩:=List.getElem?_of_mem hG
     have hil:i<xs.length:=by rw[←e7];exact(List.getElem?_eq_some_iff.1 hi).1
     obtain⟨G',hG',ho⟩:=e8 i _ (getElem?_eq_getElem hil)
     rw[hi] at hG'
     cases hG'
     exact Dat.own_lt ho b hbG
    ·exact Dat.own_lt hy b hb
  have hfuse:=(hh.ext (θ':=[l'])).fuse (r::V.names.namesL cs) (p:=(σ.m,En.own α dα (xs.set k y))) (w':=w.setRow g (Qhw arr (k*Dat.sz α) (Dat.sz α) us)) rfl rfl rfl (by simp)
   (fun b _ hb=>hother b fun e=>hb (hFr b (by simp[e]))) ?_ ?_ ?_ trivial
  ·refine hK [l'] _ _ ⟨by rw[length_append,h.len];rfl,?_,S,w1,hfuse.rn hgr hg' rfl rfl⟩
   exact((h.env.ext (θ':=[l'])).rn hgr hg' rfl rfl)
  ·intro w2 hw2
   have hF':((En.own α dα (xs.set k y)).ck (θ++[l']) σ.m).F=l'.F:=Qaj hg'
   refine⟨l',hg',hput w2 ?_ fun b hb=>?_⟩
   ·exact(hw2 g (by rw[hF'];simp[l'])).trans (setRow_heap w g arr _ T _ e2)
   ·refine(hw2 b (by rw[hF'];exact mem_cons_of_mem _ hb)).trans (hother b ?_)
    rintro rfl
    rcases memF b hb with h | h
    ·exact hgF h
    ·exact hgG h
  ·intro b hb
   have hb':b∈locF (θ++[l']) σ.m:=hb
   rw[Qaj hg'] at hb'
   refine⟨.inl ?_,by rw[size_setRow];exact hlt b hb'⟩
   rcases List.mem_cons.1 hb' with rfl | hb'
   ·exact hFr b (by simp)
   ·rcases memF b hb' with h | h
    ·exact hFr b (mem_cons_of_mem _ h)
    ·exact hFG b h
  ·show(locF _ σ.m).Nodup
   rw[Qaj hg']
   refine List.nodup_cons.2 ⟨fun hb=>?_,ndF⟩
   rcases memF g hb with h | h
   ·exact hgF h
   ·exact hgG h
end
end
section
theorem Cx.tstr (c:Cx) {t:Nat} (ht:c.ti t= .str):c.P.underlying t=some .string:=by
 have hti:=c.tiok t
 rw[ht] at hti
 simp only[TI.chk,Bool.and_eq_true] at hti
 have:=hti.2
 split at this
 ·assumption
 ·cases this
theorem Cx.tint (c:Cx) {t:Nat} {k:IntKind} (ht:c.ti t= .int k):c.P.underlying t=some (.int k):=by
 have hti:=c.tiok t
 rw[ht] at hti
 simp only[TI.chk,Bool.and_eq_true] at hti
 have:=hti.2
 split at this
 ·rename_i k' hk;rw[of_decide_eq_true this] at hk;exact hk
 ·cases this
theorem Cx.tsl (c:Cx) {t e sz b:Nat} (ht:c.ti t= .sl e sz b):Qeh c.P t e sz b=true:=by
 have hti:=c.tiok t
 rw[ht] at hti
 simp only[TI.chk,Bool.and_eq_true] at hti
 exact hti.2
section
variable {c:Cx} {σ:St} {all:Array Oper} {ty:TypeId} {pos:String} {after:Array Edge} {d:Nat}
end
def bstr (xs:List UInt8):ByteArray:=⟨xs.toArray⟩
def Qa7 (s:ByteArray):List UInt8:=s.data.toList
section
variable {c:Cx} {σ:St} {all:Array Oper} {ty:TypeId} {pos:String} {after:Array Edge} {d:Nat}
theorem OpS.toStr {t u e by':Nat} {x:Operand} {v:V} (xs:List UInt8) (hx:ev σ.ρ x=some v) (hs:SlOk σ.E UInt8 instDatUInt8 xs v) (ht:c.ti t= .sl e 1 by') (he:c.ti e= .int .u8) (hu:c.ti u= .str) (hd:Nat.blt d σ.n=true):
    OpS c σ all ⟨some d,.convert t u x,ty,pos,after,none⟩ (put d (.v (.string (bstr xs))) σ):=
  OpS.of fun θ a w h K Q hK => by
    obtain⟨S,w1,hh⟩:=h.heap
    have hc:=h.env.con hx
    have hr:=hh.slOk hc hs
    obtain⟨A,cap,hA,h1,h2,h3⟩:=hr
    have hts:=(Qbd (c.tsl ht)).1
    have hte:=c.tint he
    have htu:=c.tstr hu
    have hrun:(execOp a.eval ⟨some d,.convert t u x,ty,pos,after,none⟩).run c.P w= .ok (.value (.string (bstr xs))) w:=by
      by_cases hn:xs=[]
      · subst hn
        have:=run_convert_bytes_string (P:=c.P) w t u e A 0 cap hts hte htu
        have h0:(Conv.bytesToString (.slice A 0 cap)).run c.P w= .ok (.string (bstr [])) w:=by
          cases A with
          | none=>simp[Conv.bytesToString];rfl
          | some A=>exact run_bytesToString w A 0 cap [] (run_loadCells_list (P:=c.P) w A [] (fun j v hj=>by simp at hj))
        simp only[execOp,hA,this,length_nil,h0,Sem.run_bind,Result.andThen_ok,Sem.run_pure]
      · obtain ⟨ad, rfl, hb, hcs⟩ := h3 hn
        have := run_convert_bytes_back (P := c.P) w t u e ad cap xs hts hte htu (fun j hj => by
          obtain⟨cs,hrd,hcell⟩:=hcs j xs[j] (getElem?_eq_getElem hj)
          obtain⟨v,r,rfl,hv,rfl⟩:=(inferInstance:Str UInt8).op hrd
          have:=hcell 0 v rfl
          have e1:j*Dat.sz UInt8=j:=Nat.mul_one j
          rw[e1,Addr.add_zero'] at this
          rw[this,hv]
          rfl)
        simp only[execOp,hA,this,Sem.run_bind,Result.andThen_ok,Sem.run_pure]
        rfl
    unfold Oper.wp
    rw[hrun,Oper.upon_value]
    exact hK [] _ _ (h.put hd rfl).app0
theorem RH.adopt {θ:List Loc} {E:List (Nat×En)} {S:Nat→Prop} {w1 w w':World} (h:RH c θ E S w1 w) (hb:Below w.heap.size w w') (hE: ∀ e∈E,(e.2.ck θ e.1).ok w):RH c θ E (fun b=>S b∨(w.heap.size≤b∧b<w'.heap.size)) w' w':=by
 have hs:=h.same hb
 have hk:Keep S w1 w':=hs.sh.keep
 have hge : ∀ c ∈ E.map (fun e => e.2.ck θ e.1), ∀ b ∈ c.F, b < w.heap.size := fun d hd b hbd => by
  obtain⟨e,he,rfl⟩:=List.mem_map.1 hd
  have hp:=(hE e he).here
  obtain⟨r,e⟩:=e
  cases e with
  | var cs T =>
   obtain⟨l,b',ccs,h1,h2,h3,h4,h5⟩:=hp
   have hbd':b∈locF θ r:=hbd
   rw[Qaj h1,h3,mem_singleton] at hbd'
   subst hbd'
   exact(Array.getElem?_eq_some_iff.1 h5).1
  | lit cs T n =>
   obtain⟨l,b',ccs,⟨h1,_⟩,h2,h3,h4,h5⟩:=hp
   have hbd':b∈locF θ r:=hbd
   rw[Qaj h1,h3,mem_singleton] at hbd'
   subst hbd'
   exact(Array.getElem?_eq_some_iff.1 h5).1
  | own α d xs =>
   obtain⟨l,h1,h2⟩:=hp
   have hbd':b∈locF θ r:=hbd
   rw[Qaj h1] at hbd'
   exact h2.lt b hbd'
  | any P =>
   obtain⟨l,h1,h2,_⟩:=hp
   have hbd':b∈locF θ r:=hbd
   rw[Qaj h1] at hbd'
   exact h2 b hbd'
  | itr s p =>
   obtain⟨l,b',h1,h2,h3,h5⟩:=hp
   have hbd':b∈locF θ r:=hbd
   rw[Qaj h1,h3,mem_singleton] at hbd'
   subst hbd'
   exact(Array.getElem?_eq_some_iff.1 h5).1
  | ros=>cases hbd
  | roc=>cases hbd
  | pin=>cases hbd
 refine⟨h.k0.trans (hk.mono h.sub),fun b hb=> .inl (h.sub b hb),⟨Keep.refl _ _,?_,hs.sh.ok,?_,hs.sh.apart⟩,fun x hx=>?_⟩
 ·rintro b (hb | hb)
  ·exact hs.lt b hb
  ·exact hb.2
 ·intro d hd b hbd
  have h1:=hs.sh.ge d hd b hbd
  have h2:=hge d hd b hbd
  refine⟨?_,h1.2⟩
  rintro (hb | hb)
  ·exact h1.1 hb
  ·omega
 ·have:=h.ok x hx
  obtain⟨r',e'⟩:=x
  cases e' with
  | ros β d' ys =>
   obtain⟨l',h1,h2⟩:=this
   exact⟨l',h1,(h2.below hk).mono fun b hb=> .inl hb⟩
  | roc cs =>
   obtain⟨l',A,ccs,h1,h2,h3,h4,h5⟩:=this
   exact⟨l',A,ccs,h1,h2,h3,.inl h4,h5.keep hk h4⟩
  | var=>trivial
  | own=>trivial
  | lit=>trivial
  | itr=>trivial
  | any=>trivial
  | pin=>exact this
def Qf0 {α:Type} (σ:St) (d:Nat) (dα:Dat α) (ys:List α):St:=⟨σ.n,σ.m+1,(d,.sl σ.m ys.length)::σ.ρ,(σ.m,.ros α dα ys)::σ.E⟩
theorem R.ros {θ:List Loc} {a:Act} {w:World} (h:R c θ σ a w) {S:Nat→Prop} {w1 w':World} (hh:RH c θ σ.E S w1 w') {α:Type} {dα:Dat α} {ys:List α} {A:Option Addr} {cap:Nat} (hr:SlR S w1 (.slice A ys.length cap) ys) (hd:Nat.blt d σ.n=true):
  R c (θ++[⟨A,cap,[]⟩]) (Qf0 σ d dα ys) (a.put (some d) (.slice A ys.length cap)) w':=by
 have hg:(θ++[⟨A,cap,[]⟩])[σ.m]?=some (⟨A,cap,[]⟩:Loc):=by rw[←h.len];exact Qfu
 refine⟨by rw[length_append,h.len];rfl,(h.env.ext).put hd (by simp only[V.con,hg]),S,w1,?_⟩
 exact(hh.ext (θ':=[⟨A,cap,[]⟩])).fact rfl ⟨_,hg,hr⟩
theorem OpS.toBytes {t u e by':Nat} {x:Operand} {s:ByteArray} (hx:ev σ.ρ x=some (.v (.string s))) (hs:s.size≤maxLen) (ht:c.ti u= .sl e 1 by') (he:c.ti e= .int .u8) (hu:c.ti t= .str) (hd:Nat.blt d σ.n=true):
  OpS c σ all ⟨some d,.convert t u x,ty,pos,after,none⟩ (Qf0 σ d instDatUInt8 (Qa7 s)):=
 OpS.of fun θ a w h K Q hK => by
  obtain⟨S,w1,hh⟩:=h.heap
  have hts:=(Qbd (c.tsl ht)).1
  have hte:=c.tint he
  have htu:=c.tstr hu
  have h0:=run_bytes_of_string (P:=c.P) w t u e s htu hts hte
  have hrun:(execOp a.eval ⟨some d,.convert t u x,ty,pos,after,none⟩).run c.P w= .ok (.value (.slice (some ⟨w.heap.size,0,none⟩) s.size (grownCap w s.size 0 e))) (w.drew.alloc (.cells (bytesRow s (grownCap w s.size 0 e)) e ((bytesRow s (grownCap w s.size 0 e)).size,(bytesRow s (grownCap w s.size 0 e)).size+1))):=by
   simp only[execOp,h.env.env.eval (h.env.isv hx),h0,Sem.run_bind,Result.andThen_ok,Sem.run_pure]
  unfold Oper.wp
  rw[hrun,Oper.upon_value]
  have hlen:(Qa7 s).length=s.size:=by unfold Qa7;rw[Array.length_toList];rfl
  have hb:Below w.heap.size w (w.drew.alloc (.cells (bytesRow s (grownCap w s.size 0 e)) e ((bytesRow s (grownCap w s.size 0 e)).size,(bytesRow s (grownCap w s.size 0 e)).size+1))):=by
   refine⟨rfl,rfl,rfl,by show w.heap.size≤(w.heap.push _).size;rw[Array.size_push];omega,fun b hb=>?_⟩
   show(w.heap.push _)[b]?=_
   rw[Array.getElem?_push,if_neg (by omega)]
  have ha:=hh.adopt hb fun e he=>hh.sh.ok _ (List.mem_map.2 ⟨e,he,rfl⟩)
  have hcap:s.size≤grownCap w s.size 0 e:=grownCap_ge w s.size 0 e
  have:=h.ros ha (α:=UInt8) (dα:=instDatUInt8) (ys:=Qa7 s) (A:=some ⟨w.heap.size,0,none⟩) (cap:=grownCap w s.size 0 e) (d:=d) ⟨_,_,rfl,by omega,grownCap_le_maxLen w _ _ _ hs,fun hn=>⟨_,rfl,.inr ⟨Nat.le_refl _,by show w.heap.size<(w.heap.push _).size;rw[Array.size_push];omega⟩,fun i x hi=>?_⟩⟩ hd
  ·rw[hlen] at this
   exact hK _ _ _ this
  ·refine⟨[.int .u8 x.toNat],(inferInstance:Str UInt8).cl ⟨_,_,rfl,rfl,rfl⟩,?_⟩
   have hi2:=List.getElem?_eq_some_iff.1 hi
   obtain⟨hil,hix⟩:=hi2
   intro j v hj
   cases j with
   | succ j=>simp at hj
   | zero =>
    simp only[List.getElem?_cons_zero,Option.some.injEq] at hj
    subst hj
    have e1:i*Dat.sz UInt8=i:=Nat.mul_one i
    rw[e1,Addr.add_zero',Qqm]
    have hil':i<s.data.size:=by rw[hlen] at hil;exact hil
    refine(World.cell?_alloc_mark w.drew _ e _ i).trans ?_
    rw[bytesRow_at s _ i hil',←hix]
    simp[Qa7]
end
section
variable {c:Cx} {σ:St} {all:Array Oper} {ty:TypeId} {pos:String} {after:Array Edge} {d:Nat}
def cutS (s:ByteArray) (l h:Nat):ByteArray:=s.extract l h
theorem Qtf {s:ByteArray} {l h:Nat} {m:Nat} (hs:s.size≤m):(cutS s l h).size≤m:=by
 unfold cutS
 rw[ByteArray.size_extract]
 omega
def bnd (ρ:List (Nat×V)) (dflt:Nat) (v:Nat):Option Operand→Prop
 | none=>v=dflt
 | some x=> ∃ i:Int,ev ρ x=some (.v (.int .i64 i))∧i=v
theorem OpS.cut {t:Nat} {x:Operand} {lo hi:Option Operand} {s:ByteArray} (l h:Nat) (hx:ev σ.ρ x=some (.v (.string s))) (hl:bnd σ.ρ 0 l lo) (hh:bnd σ.ρ s.size h hi) (h1:l≤h) (h2:h≤s.size) (ht:c.ti t= .str) (hd:Nat.blt d σ.n=true):
  OpS c σ all ⟨some d,.slice t x lo hi none,ty,pos,after,none⟩ (put d (.v (.string (cutS s l h))) σ):=
 OpS.of fun θ a w hR K Q hK => by
  have hu:=c.tstr ht
  have hrun:(execOp a.eval ⟨some d,.slice t x lo hi none,ty,pos,after,none⟩).run c.P w= .ok (.value (.string (cutS s l h))) w:=by
   have ex:=hR.env.env.eval (hR.env.isv hx)
   cases lo with
   | none =>
    cases hi with
    | none =>
     cases hl;cases hh
     simp[execOp,ex,Instr.sliceAt,Instr.slice,run_underlying hu,Instr.sliceBounds,cutS]
    | some y =>
     cases hl
     obtain⟨i,hy,rfl⟩:=hh
     simp[execOp,ex,hR.env.env.eval (hR.env.isv hy),Instr.sliceAt,Instr.slice,run_underlying hu,Instr.sliceBounds,Instr.sliceBound,asIntOf,h2,cutS]
   | some z =>
    obtain⟨j,hz,rfl⟩:=hl
    cases hi with
    | none =>
     cases hh
     simp[execOp,ex,hR.env.env.eval (hR.env.isv hz),Instr.sliceAt,Instr.slice,run_underlying hu,Instr.sliceBounds,Instr.sliceBound,asIntOf,h1,cutS]
    | some y =>
     obtain⟨i,hy,rfl⟩:=hh
     simp[execOp,ex,hR.env.env.eval (hR.env.isv hz),hR.env.env.eval (hR.env.isv hy),Instr.sliceAt,Instr.slice,run_underlying hu,Instr.sliceBounds,Instr.sliceBound,asIntOf,h1,h2,cutS]
  unfold Oper.wp
  rw[hrun,Oper.upon_value]
  exact hK [] _ _ (hR.put hd rfl).app0
def cutL {α:Type} (xs:List α) (l h:Nat):List α:=(xs.take h).drop l
theorem OpS.part {α:Type} {dα:Dat α} {t e by' r len:Nat} {x:Operand} {lo hi:Option Operand} {xs:List α} (l h:Nat) (hx:ev σ.ρ x=some (.sl r len)) (hp:lkE σ.E r=some (.ros α dα xs)) (hlen:len=xs.length) (hl:bnd σ.ρ 0 l lo) (hh:bnd σ.ρ xs.length h hi) (h1:l≤h) (h2:h≤xs.length) (ht:c.ti t= .sl e (Dat.sz α) by') (hd:Nat.blt d σ.n=true):
  OpS c σ all ⟨some d,.slice t x lo hi none,ty,pos,after,none⟩ (Qf0 σ d dα (cutL xs l h)):=
 OpS.of fun θ a w hR K Q hK => by
  subst hlen
  obtain⟨S,w1,hhp⟩:=hR.heap
  obtain⟨lc,hlc,hr⟩:=hhp.ok _ (Qe1 hp)
  simp only at hlc
  have hc:=hR.env.con hx
  simp only[V.con,hlc,Option.some.injEq] at hc
  have hu:=(Qbd (c.tsl ht)).1
  obtain⟨inf,hin,hsz,_⟩:=(Qbd (c.tsl ht)).2
  have hcap:=(Quw hr).1
  have hr1:=hr.take h
  have e1:(xs.take h).length=h:=by rw[List.length_take];omega
  have hr2:=hr1.drop (k:=l) (by omega)
  have e2:((xs.take h).drop l).length=h - l:=by rw[List.length_drop,e1]
  have hA0:lc.A.map (fun b=>b.add 0)=lc.A:=by cases lc.A<;>simp[Addr.add]
  have hrun:(execOp a.eval ⟨some d,.slice t x lo hi none,ty,pos,after,none⟩).run c.P w= .ok (.value (.slice (if lc.cap=l then lc.A else lc.A.map (·.add (l*Dat.sz α))) (h - l) (lc.cap - l))) w:=by
   cases lo with
   | none =>
    cases hi with
    | none =>
     cases hl;cases hh
     simp[execOp,←hc,Instr.sliceAt,Instr.slice,run_underlying hu,Instr.sliceBounds,sizeOf,typeInfo,hin,hA0]
    | some y =>
     cases hl
     obtain⟨i,hy,rfl⟩:=hh
     have hle:h≤lc.cap:=by omega
     simp[execOp,←hc,hR.env.env.eval (hR.env.isv hy),Instr.sliceAt,Instr.slice,run_underlying hu,Instr.sliceBounds,Instr.sliceBound,asIntOf,hle,sizeOf,typeInfo,hin,hA0]
   | some z =>
    obtain⟨j,hz,rfl⟩:=hl
    cases hi with
    | none =>
     cases hh
     simp[execOp,←hc,hR.env.env.eval (hR.env.isv hz),Instr.sliceAt,Instr.slice,run_underlying hu,Instr.sliceBounds,Instr.sliceBound,asIntOf,h1,sizeOf,typeInfo,hin,hsz]
    | some y =>
     obtain⟨i,hy,rfl⟩:=hh
     have hle:h≤lc.cap:=by omega
     simp[execOp,←hc,hR.env.env.eval (hR.env.isv hz),hR.env.env.eval (hR.env.isv hy),Instr.sliceAt,Instr.slice,run_underlying hu,Instr.sliceBounds,Instr.sliceBound,asIntOf,h1,hle,sizeOf,typeInfo,hin,hsz]
  unfold Oper.wp
  rw[hrun,Oper.upon_value]
  have:=hR.ros hhp (dα:=dα) (ys:=cutL xs l h) hr2 hd
  unfold cutL at this
  rw[e2] at this
  exact hK _ _ _ this
end
theorem CT.flat {P:Program} {G:World→Prop} {f:FuncId} {args:List Arg} {v:Value} (h: ∀ w vs,G w→Q4k w vs args→Calls P f vs.toArray w (fun e w'=>e= .returned v∧Below w.heap.size w w')):CT P G f args [.c v]:=
 fun w vs hG hA=>(h w vs hG hA).mono fun e w' hr=>⟨v,hr.1,Keep.of_below hr.2 fun _ h=>h,[v],[],rfl,⟨[],[],rfl,⟨rfl,rfl⟩,rfl⟩,List.nodup_nil,fun b hb=>by cases hb⟩
theorem CT.close {P:Program} {G:World→Prop} {f:FuncId} {args:List Arg} {v:Value} (h:CT P G f args [.c v]) {w:World} {vs:List Value} (hG:G w) (hA:Q4k w vs args):Calls P f vs.toArray w (fun e w'=>e= .returned v∧Below w.heap.size w w'):=
 (h w vs hG hA).mono fun e w' hr => by
  obtain⟨u,rfl,hk,us,F,rfl,hl,hn,hF⟩:=hr
  cases us with
  | nil=>exact hl.elim
  | cons u r =>
   obtain⟨A,B,rfl,⟨rfl,rfl⟩,hl⟩:=hl
   cases r with
   | nil=>exact⟨rfl,hk.below⟩
   | cons=>exact hl.elim
end
section
section
variable {c:Cx} {σ:St} {all:Array Oper} {ty:TypeId} {pos:String} {after:Array Edge} {d:Nat}
theorem OpS.valG {op:Op} {u:Value} {j:Nat} {want B:Bool} (hB:gB σ.ρ all j want=some B) (hy:B=true→ ∀ θ a w,R c θ σ a w→Qb7 c.P a w op ty u) (hd:Nat.blt d σ.n=true):OpS c σ all ⟨some d,op,ty,pos,after,some (j,want)⟩ (put d (.gd B (.v u)) σ):=by
 intro θ a w h K Q hK
 have hw:=Q53 h (o:=⟨some d,op,ty,pos,after,some (j,want)⟩) rfl hB
 rw[hw]
 cases B with
 | true =>
  rw[if_pos rfl]
  unfold Oper.wp
  rw[hy rfl θ a w h]
  exact hK [] _ _ (h.put hd (v:= .gd true (.v u)) rfl).app0
 | false =>
  rw[if_neg (by simp)]
  exact hK [] _ _ (h.put hd (v:= .gd false (.v u)) rfl).app0
def eqP (P:Program) (t:Nat) (cx cy:List Value) (r:Bool):Prop:=P.eqGuardType P.depth t=false∧ ∀ w,(Op.equalIn 10000 t (.agg cx.toArray) (.agg cy.toArray)).run P w= .ok r w
def Qsn:List V→Option (List Value)
 | []=>some []
 | .v u :: r => match Qsn r with
  | some l=>some (u::l)
  | none=>none
 | _::_=>none
theorem Qt4 {θ:List Loc}: ∀ {vs:List V} {us:List Value},Qsn vs=some us→conL θ vs=some us
 | [],us,h=>by cases h;rfl
 | .v u :: r, us, h => by
  simp only[Qsn] at h
  split at h
  ·rename_i l hl;cases h;exact Qgo rfl (Qt4 hl)
  ·cases h
 | .sl _ _::_,_,h=>by cases h
 | .pt _ _::_,_,h=>by cases h
 | .ag _::_,_,h=>by cases h
 | .fn _ _::_,_,h=>by cases h
 | .tu _::_,_,h=>by cases h
 | .gd _ _::_,_,h=>by cases h
theorem Ymh {θ:List Loc} {a:Act} {w:World} {op:BinOp} {t t':Nat} {x y:Operand} {vx vy:List V} {cx cy:List Value} {r:Bool} (h:R c θ σ a w) (h1:(V.ag vx).con θ=some (a.eval x)∧ev? (selfρ a) x=some (a.eval x)) (h2:(V.ag vy).con θ=some (a.eval y)∧ev? (selfρ a) y=some (a.eval y)) (hcx:Qsn vx=some cx) (hcy:Qsn vy=some cy) (he:eqP c.P t cx cy r) (ho:op= .eql∨op= .neq):
  Qb7 c.P a w (.binOp op t x y t') ty (.bool (match op with | .eql=>r | _=>!r)):=by
 have e1:a.eval x= .agg cx.toArray:=by
  have:=h1.1
  simp only[V.con,Qt4 hcx,Option.map_some,Option.some.injEq] at this
  exact this.symm
 have e2:a.eval y= .agg cy.toArray:=by
  have:=h2.1
  simp only[V.con,Qt4 hcy,Option.map_some,Option.some.injEq] at this
  exact this.symm
 rcases ho with rfl | rfl
 ·exact Ya7 h.env.env (by rw[h1.2,e1]) (by rw[h2.2,e2]) he.1 he.2
 ·exact Ya4 h.env.env (by rw[h1.2,e1]) (by rw[h2.2,e2]) he.1 he.2
theorem OpS.eqs {op:BinOp} {t t':Nat} {x y:Operand} {vx vy:List V} {cx cy:List Value} {r:Bool} (hx:ev σ.ρ x=some (.ag vx)) (hy:ev σ.ρ y=some (.ag vy)) (hcx:Qsn vx=some cx) (hcy:Qsn vy=some cy) (he:eqP c.P t cx cy r) (ho:op= .eql∨op= .neq) (hd:Nat.blt d σ.n=true):
  OpS c σ all ⟨some d,.binOp op t x y t',ty,pos,after,none⟩ (put d (.v (.bool (match op with | .eql=>r | _=>!r))) σ):=
 OpS.of fun θ a w h K Q hK => by
  have:=Ymh (ty:=ty) (t':=t') h ⟨h.env.con hx,h.env.ev1 hx⟩ ⟨h.env.con hy,h.env.ev1 hy⟩ hcx hcy he ho
  unfold Oper.wp
  rw[this]
  exact hK [] _ _ (h.put hd rfl).app0
theorem OpS.sidxG {t:Nat} {x y:Operand} {i:Int} {k:Nat} {s:ByteArray} {j:Nat} {want B:Bool} (hB:gB σ.ρ all j want=some B) (hx:evG σ.ρ x=some (.v (.string s))) (hy:evG σ.ρ y=some (.v (.int .i64 i))) (hside:B=true→Qf8 B True σ.ρ [x,y]) (ht:c.ti t= .str) (hi:B=true→i=k) (hk:B=true→k<s.size) (hd:Nat.blt d σ.n=true):
    OpS c σ all ⟨some d,.index t x y,ty,pos,after,some (j,want)⟩ (put d (.gd B (.v (.int .u8 (Qav s k).toNat))) σ):=
  OpS.valG hB (fun hb θ a w h => by
    have h1:=Qho h.env hb (hside hb) x (by simp) _ hx
    have h2:=Qho h.env hb (hside hb) y (by simp) _ hy
    have e1:ev? (selfρ a) x=some (.string s):=by rw[h1.2,←h1.1];rfl
    have e2:ev? (selfρ a) y=some (.int .i64 i):=by rw[h2.2,←h2.1];rfl
    exact Qrk h.env.env e1 e2 (hi hb) (hk hb) (c.tstr ht)) hd
end
theorem Ygp {P:Program} {ops:Array Oper} {K G:Act→World→Prop} {i:Nat} {o:Oper} {a:Act} {w:World} (hi:ops[i]?=some o) (h:wpList P ops (Qqe G) [o] a w):wpOp P ops (Qqe K) i G a w:=by
 have mono: ∀ (o:Oper) (K1:Act→World→Prop) (a:Act) (w:World),o.wp P a w (fun a' w'=>Qqe K1 .normal a' w') (Qqe K1)→o.wp P a w K1 (Qqe K):=by
  intro o K1 a w h
  unfold Oper.wp at h ⊢
  generalize (execOp a.eval o).run P w=r at h ⊢
  cases r with
  | ok n w' =>
   cases n<;>simp only[Oper.upon] at h ⊢
   case value u=>exact h.2
   case skip=>exact h.2
   case defer d=>exact h.2
   case enter f args=>
    refine Calls.mono h fun e w'' he=>?_
    cases e with
    | returned u=>exact he.2
    | panicked c=>cases he.1
    | outgrown=>obtain⟨_,_,h,_⟩:=he;cases h
   case row row args=>exact Rows.mono h fun u w'' he=>he.2
  | halt x w' =>
   cases x<;>simp only[Oper.upon] at h ⊢
   case panic u=>cases h.1
 unfold wpOp
 simp only[hi]
 unfold wpList at h
 split
 ·rename_i hw
  simp only[hw,if_true] at h
  rcases h with h | ⟨_,h⟩
  ·exact .inl (mono _ _ _ _ h)
  ·obtain⟨_,_,h,_⟩:=h;cases h
 ·rename_i hw
  simp only[hw] at h
  exact h.2
def Qxi (c:Cx) (K:Act→World→Prop) (E0:List (Nat×En)) (m0:Nat) (ops:Array Oper) (n:Nat) (M:List (Nat×En)) (listed:Array Bool) (σ:St) (i:Nat):Prop:=
 ∀ θ0 η a w,θ0.length=m0→R c (θ0++η) σ a w→SD c θ0 E0 w→Yge c θ0 E0→Qjv c.S0 c.w0 (θ0++η) M→wpOp c.P ops (Qqe K) i (fun a' w'=>SD c θ0 E0 w'∧wpAnyH c.P .any ops (Qqe K) (SD c θ0 E0) n (listed.setIfInBounds i true) a' w') a w
theorem Qxi.ofg {c:Cx} {K:Act→World→Prop} {E0:List (Nat×En)} {m0:Nat} {ops:Array Oper} {n:Nat} {M:List (Nat×En)} (i:Nat) (is:List Nat) {listed:Array Bool} {σ σ':St} {o:Oper} {G:Prop} (hi:nthO ops.toList i=some o) (ho:OpSg c σ ops o σ' G) (hp:is.map (nthE σ'.E)=E0.map some) (hn:is.Nodup)
  (h:G→RunD c K E0 m0 ops n M (listed.setIfInBounds i true) σ'):Qxi c K E0 m0 ops n M listed σ i:=by
 intro θ0 η a w hl hR hS hB0 hM
 have hi':ops[i]?=some o:=by rw[←Array.getElem?_toList];exact Qj1 hi
 refine Ygp hi' ?_
 refine wpList_step fun K' hK'=>?_
 refine ho _ a w hR K' _ fun ζ a' w' hR' hg=>hK' _ _ ?_
 rw[append_assoc] at hR'
 have hS':SD c θ0 E0 w':=by
  obtain⟨S,w1,hh⟩:=hR'.heap
  obtain⟨S0,w0,hh0⟩:=hS
  exact⟨S,w1,hh0.back (hh.pickE hp hn)⟩
 exact⟨rfl,hS',h hg θ0 (η++ζ) a' w' hl hR' hS' hB0 (by rw[←append_assoc];exact hM.ext)⟩
theorem OpS.g {c:Cx} {σ σ':St} {all:Array Oper} {o:Oper} (h:OpS c σ all o σ'):OpSg c σ all o σ' True:=fun θ a w hR K Q hK=>h θ a w hR K Q fun η a' w' hR'=>hK η a' w' hR' trivial
theorem RunD.alts {c:Cx} {K:Act→World→Prop} {E0:List (Nat×En)} {m0:Nat} {ops:Array Oper} {n:Nat} {M:List (Nat×En)} {listed:Array Bool} {σ:St} {L:List Nat} (hr:Region.ready .any ops listed=L) (hL:L≠[]) (h: ∀ i∈L,Qxi c K E0 m0 ops n M listed σ i):RunD c K E0 m0 ops (n+1) M listed σ:=
 fun θ0 η a w hl hR hS hB0 hM=>wpAnyH_all hr hL fun i hi=>h i hi θ0 η a w hl hR hS hB0 hM
def pkc:Option (Nat×En)→List (Nat×En)→List (Nat×En)
 | some e,r=>e::r
 | none,r=>r
def pk:List Nat→List (Nat×En)→List (Nat×En)
 | [],_=>[]
 | i::is,E=>pkc (nthE E i) (pk is E)
theorem Run.drawS {c:Cx} {res:List Re} {σ:St} {id:Nat} {ops:Array Oper} {k:List It} (n:Nat) (is0:List Nat) (E0:List (Nat×En)) (hp:is0.map (nthE σ.E)=E0.map some) (hd0:is0.Nodup) (hm:c.P.follows .mixedOrders=true) (hn:ops.size=n)
  (h: ∀ S w1 hk hs hd,RunD (c.rebase S w1 hk hs hd) (kQ c res k .normal) E0 σ.m ops n [] (Array.replicate n false) σ):Run c res σ (.code (.region id ops true)::k):=by
 intro θ a w hR
 obtain⟨S,w1,hh⟩:=hR.heap
 have hh':=hh.drew.rebase
 have hR':R (c.rebase S w1 hh.k0 hh.sub hh.sh.dom) (θ++[]) σ a w.drew:=by rw[List.append_nil];exact⟨hR.len,hR.env,S,w1,hh'⟩
 have hE:=hh'.pickE hp hd0
 have:=h S w1 hh.k0 hh.sub hh.sh.dom θ [] a w.drew hR.len hR' ⟨S,w1,hE⟩ (hh.pickE hp hd0).ok Qjv.nil
 refine Code.wp_mono (Q:=Qqe (kQ c res k .normal)) (fun e a w h=>by obtain⟨rfl,h⟩:=h;exact h) (wp_region_held (P:=c.P) hm (by rw[hn];exact this))
theorem TkS.val {c:Cx} {E0 M:List (Nat×En)} {ops:Array Oper} {listed:Array Bool} {σ:St} {d:Nat} {op:Op} {u:Value} {ty:TypeId} {pos:String} {after:Array Edge} (j:Nat) (hi':nthO ops.toList j=some ⟨some d,op,ty,pos,after,none⟩) (hB:Qrm ops listed j=true)
  (hy: ∀ θ a w,R c θ σ a w→ ∀ w2,Qb7 c.P a w2 op ty u) (hd:Nat.blt d σ.n=true):TkS c E0 M σ ops listed j (put d (.v u) σ) M:=by
 intro K m0 n h θ0 η a w hl0 hR hS hB0 hM
 simp only[Qrm,Bool.and_eq_true] at hB
 have hj:ops[j]?=some ⟨some d,op,ty,pos,after,none⟩:=by rw[←Array.getElem?_toList];exact Qj1 hi'
 refine wpAnyH_take (v:=u) hj hB.1.1 hB.1.2 hB.2 (fun c a w h=>by cases h.1) (.inl ⟨rfl,fun w2 _=>?_⟩) hS (h θ0 η _ w hl0 (hR.put hd rfl) hS hB0 hM)
 have:=hy _ a w hR w2 (some d) pos after none
 simpa using this
section
variable {c:Cx} {E0 M:List (Nat×En)} {ops:Array Oper} {listed:Array Bool} {σ:St} {d:Nat} {ty:TypeId} {pos:String} {after:Array Edge}
theorem TkS.sidx {t:Nat} {x y:Operand} {i:Int} {s:ByteArray} (j k:Nat) (hk:k<s.size) (hi':nthO ops.toList j=some ⟨some d,.index t x y,ty,pos,after,none⟩) (hB:Qrm ops listed j=true) (hx:ev σ.ρ x=some (.v (.string s))) (hy:ev σ.ρ y=some (.v (.int .i64 i))) (ht:c.ti t= .str) (hi:i=k) (hd:Nat.blt d σ.n=true):
  TkS c E0 M σ ops listed j (put d (.v (.int .u8 (Qav s k).toNat)) σ) M:=
 TkS.val j hi' hB (fun θ a w h w2=>Qrk h.env.env (h.env.isv hx) (h.env.isv hy) hi hk (c.tstr ht)) hd
theorem TkS.quo {t t':Nat} {x y:Operand} {k:IntKind} {i i2:Int} (j:Nat) (hj:i2≠0) (hi':nthO ops.toList j=some ⟨some d,.binOp .quo t x y t',ty,pos,after,none⟩) (hB:Qrm ops listed j=true) (hx:ev σ.ρ x=some (.v (.int k i))) (hy:ev σ.ρ y=some (.v (.int k i2))) (hd:Nat.blt d σ.n=true):
  TkS c E0 M σ ops listed j (put d (.v (.int k (k.wrap (i.tdiv i2)))) σ) M:=TkS.val j hi' hB (fun θ a w h w2=>Ygi h.env.env (h.env.isv hx) (h.env.isv hy) hj) hd
theorem TkS.rem {t t':Nat} {x y:Operand} {k:IntKind} {i i2:Int} (j:Nat) (hj:i2≠0) (hi':nthO ops.toList j=some ⟨some d,.binOp .rem t x y t',ty,pos,after,none⟩) (hB:Qrm ops listed j=true) (hx:ev σ.ρ x=some (.v (.int k i))) (hy:ev σ.ρ y=some (.v (.int k i2))) (hd:Nat.blt d σ.n=true):
  TkS c E0 M σ ops listed j (put d (.v (.int k (i.tmod i2))) σ) M:=TkS.val j hi' hB (fun θ a w h w2=>Ydf h.env.env (h.env.isv hx) (h.env.isv hy) hj) hd
theorem TkS.cat {t t':Nat} {x y:Operand} {p q:ByteArray} (j:Nat) (hs:p.size+q.size≤9223372036854775807) (hi':nthO ops.toList j=some ⟨some d,.binOp .add t x y t',ty,pos,after,none⟩) (hB:Qrm ops listed j=true) (hx:ev σ.ρ x=some (.v (.string p))) (hy:ev σ.ρ y=some (.v (.string q))) (hd:Nat.blt d σ.n=true):
  TkS c E0 M σ ops listed j (put d (.v (.string (p++q))) σ) M:=TkS.val j hi' hB (fun θ a w h w2=>Ya8 h.env.env (h.env.isv hx) (h.env.isv hy) hs) hd
end
section
variable {c:Cx} {σ:St} {all:Array Oper} {ty:TypeId} {pos:String} {after:Array Edge} {d:Nat}
theorem OpS.lit0 {t e sz by':Nat} (ht:c.ti t= .sl e sz by') (hd:Nat.blt d σ.n=true):
  OpS c σ all ⟨some d,.buildSlice t 0 #[],ty,pos,after,none⟩ ⟨σ.n,σ.m+1,(d,.sl σ.m 0)::σ.ρ,(σ.m,.lit [] e 0)::σ.E⟩:=
 OpS.of fun θ a w h K Q hK => by
  obtain⟨hu,inf,hinf,his,_⟩:=Qbd (c.tsl ht)
  have hsz:(sizeOf e).run c.P w= .ok sz w:=by simp[sizeOf,typeInfo,hinf,his]
  have:(execOp a.eval ⟨some d,.buildSlice t 0 #[],ty,pos,after,none⟩).run c.P w= .ok (.value (.slice (some ⟨w.heap.size,0,none⟩) 0 0)) (w.alloc (.cells #[] e)):=by
   simp[execOp,Instr.buildSlice,run_underlying hu,hsz,Instr.fill,newRow]
   rw[show Array.map (fun _=>(default:Value)) (Array.range 0)= #[] from by simp]
  unfold Oper.wp
  rw[this]
  exact hK _ _ _ (h.newlit (cs:=[]) (l:=[]) rfl e 0 hd (h.sl0 0))
end
end
section
def nthG (m:Nat):List Nat→Nat→Nat
 | [],k=>m+k
 | x::r,k=>bif Nat.beq k 0 then x else nthG m r (Nat.pred k)
mutual
def V.fw (f:List Nat) (m:Nat):V→V
 | .v x=> .v x
 | .sl r n=> .sl (nthG m f r) n
 | .pt r o=> .pt (nthG m f r) o
 | .ag cs=> .ag (fwL f m cs)
 | .fn g cs=> .fn g (fwL f m cs)
 | .tu cs=> .tu (fwL f m cs)
 | .gd b x=> .gd b (x.fw f m)
def fwL (f:List Nat) (m:Nat):List V→List V
 | []=>[]
 | x::r=>x.fw f m::fwL f m r
end
def En.fw (f:List Nat) (m:Nat):En→En
 | .var cs T=> .var (fwL f m cs) T
 | .lit cs T n=> .lit (fwL f m cs) T n
 | .roc cs=> .roc (fwL f m cs)
 | .own α d xs=> .own α d xs
 | .ros α d xs=> .ros α d xs
 | .itr s p=> .itr s p
 | .any P=> .any P
 | .pin l=> .pin l
def fwE (f:List Nat) (m:Nat):List (Nat×En)→List (Nat×En)
 | []=>[]
 | (r,e)::E=>(nthG m f r,e.fw f m)::fwE f m E
theorem Q69 {f : List Nat} {m : Nat} : ∀ E : List (Nat × En), fwE f m E = E.map fun e => (nthG m f e.1, e.2.fw f m)
 | []=>rfl
 | (r,e)::E=>by simp only[fwE,map_cons,Q69 E]
section
variable {f:List Nat} {m:Nat} {θ1 θ2:List Loc}
mutual
theorem V.fw_con (hf: ∀ r,θ1[r]?=θ2[nthG m f r]?): ∀ v:V,(v.fw f m).con θ2=v.con θ1
 | .v x=>rfl
 | .sl r n=>by simp only[V.fw,V.con,hf]
 | .pt r o=>by simp only[V.fw,V.con,hf]
 | .ag cs=>by simp only[V.fw,V.con,Quk hf cs]
 | .fn g cs=>by simp only[V.fw,V.con,Quk hf cs]
 | .tu cs=>by simp only[V.fw,V.con,Quk hf cs]
 | .gd b x=>by simp only[V.fw,V.con,V.fw_con hf x]
theorem Quk (hf: ∀ r,θ1[r]?=θ2[nthG m f r]?): ∀ cs:List V,conL θ2 (fwL f m cs)=conL θ1 cs
 | []=>rfl
 | x::r=>by simp only[fwL,conL,V.fw_con hf x,Quk hf r]
end
theorem En.fw_ck (hf: ∀ r,θ1[r]?=θ2[nthG m f r]?) (e:En) (r:Nat):(e.fw f m).ck θ2 (nthG m f r)=e.ck θ1 r:=by
 have hl:locF θ2 (nthG m f r)=locF θ1 r:=by unfold locF;rw[hf]
 cases e<;>simp only[En.fw,En.ck,hl,hf,Quk hf]
end
section
variable {c:Cx} {σ:St} {all:Array Oper} {ty:TypeId} {pos:String} {after:Array Edge} {d:Nat}
end
def thz (p:Nat→Loc) (n:Nat):List Loc:=(List.range n).map p
theorem Qtx {p:Nat→Loc} {n:Nat}:(thz p n).length=n:=by simp[thz]
theorem Qia {p:Nat→Loc} {n k:Nat} (h:k<n):(thz p n)[k]?=some (p k):=by simp[thz,h]
theorem Ydj {p:Nat→Loc} {θ:List Loc} {n:Nat} (hn:n≤θ.length) (h: ∀ k,k<n→θ[k]?=some (p k)):thz p n=θ.take n:=by
 apply List.ext_getElem?
 intro k
 by_cases hk:k<n
 ·rw[Qia hk,getElem?_take,if_pos hk,h k hk]
 ·rw[List.getElem?_eq_none (by rw[Qtx];omega),List.getElem?_eq_none (by simp;omega)]
def Qso (p:Nat→Loc):Nat→Nat→List (Nat×En)
 | _,0=>[]
 | k,n+1=>(k,.pin (p k))::Qso p (k+1) n
theorem Q5s {p:Nat→Loc}: ∀ {n k i:Nat},i<n→(k+i,En.pin (p (k+i)))∈Qso p k n
 | 0,_,_,h=>by omega
 | n+1,k,0,_=>List.mem_cons_self
 | n + 1, k, i + 1, h => by
  have:=Q5s (p:=p) (n:=n) (k:=k+1) (i:=i) (by omega)
  rw[show k+1+i=k+(i+1) by omega] at this
  exact mem_cons_of_mem _ this
theorem Qxq {p:Nat→Loc}: ∀ {n k:Nat} {e:Nat×En},e∈Qso p k n→ ∃ i,k≤i∧i<k+n∧e=(i,.pin (p i))
 | 0,_,_,h=>by cases h
 | n + 1, k, e, h => by
  rcases List.mem_cons.1 h with rfl | h
  ·exact⟨k,Nat.le_refl _,by omega,rfl⟩
  ·obtain⟨i,h1,h2,h3⟩:=Qxq h
   exact⟨i,by omega,by omega,h3⟩
def MQ (S:Nat→Prop) (w:World) (p:Nat→Loc) (mk:Nat) (E1:List (Nat×En)) (nn:Nat) (res:List V) (G0:Prop) (w':World) (v:Value):Prop:=
 G0∧ ∃ η us,η.length=nn∧conL (thz p mk++η) res=some us∧v=pack us∧SH S w w' (E1.map fun e=>e.2.ck (thz p mk++η) e.1)
def CTM (P:Program) (G:World→Prop) (gs:List Nat) (f:FuncId) (mk m0:Nat) (E0 F0:List (Nat×En)) (args:List V) (E1:List (Nat×En)) (nn:Nat) (res:List V) (G0:Prop):Prop:=
 ∀ (S:Nat→Prop) (w:World) (p:Nat→Loc) (us:List Value),(∀ w',Keep S w w'→G w')→(∀ g∈gs,S g)→SH S w w (E0.map fun e=>e.2.ck (thz p m0) e.1)→Qjv S w (thz p m0) F0→conL (thz p m0) args=some us→
  Calls P f us.toArray w (fun e w'=> ∃ v,e= .returned v∧MQ S w p mk E1 nn res G0 w' v)
def Ymr {P:Program} {ti:Nat→TI} {zr:Nat→Option Value} {G:World→Prop} (s:SysOk P ti zr G) (fn:Func) (S:Nat→Prop) (w:World) (hG: ∀ w',Keep S w w'→G w') (hb: ∀ b,S b→b<w.heap.size) (Q:World→Value→Prop):Cx:=⟨P,fn,ti,zr,G,S,w,s.tiok,s.zok,hG,hb,fun _=>Q⟩
theorem Yef {θ:List Loc}: ∀ {M:List (Nat×En)},(∀ e∈M,∀ θ r,e.2.ck θ r=⟨[],fun _=>True⟩)→(M.map fun e=>e.2.ck θ e.1).flatMap (·.F)=[]:=by
 intro M h
 rw[List.flatMap_map,List.flatMap_eq_nil_iff]
 intro e he
 rw[h e he]
theorem SH.more {S:Nat→Prop} {w0 w:World} {L:List Ck} {θ:List Loc} {M:List (Nat×En)} (h:SH S w0 w L) (hM: ∀ e∈M,∀ θ r,e.2.ck θ r=⟨[],fun _=>True⟩):SH S w0 w (L++M.map fun e=>e.2.ck θ e.1):=by
 refine⟨h.keep,h.dom,fun c hc=>?_,fun c hc b hb=>?_,?_⟩
 ·rcases List.mem_append.1 hc with hc | hc
  ·exact h.ok c hc
  ·obtain⟨e,he,rfl⟩:=List.mem_map.1 hc
   rw[hM e he]
   exact fun _ _=>trivial
 ·rcases List.mem_append.1 hc with hc | hc
  ·exact h.ge c hc b hb
  ·obtain⟨e,he,rfl⟩:=List.mem_map.1 hc
   rw[hM e he] at hb
   cases hb
 ·rw[List.flatMap_append,Yef hM,append_nil]
  exact h.apart
def En.isCk:En→Bool
 | .var _ _=>true
 | .lit _ _ _=>true
 | .own _ _ _=>true
 | .itr _ _=>true
 | .any _=>true
 | _=>false
def Q66:List (Nat×En)→Bool
 | []=>true
 | (_,e)::E=>bif e.isCk then Q66 E else false
theorem En.ok_ck {e:En} (h:e.isCk=true) {S:Nat→Prop} {w:World} {θ:List Loc} {r:Nat}:e.ok S w θ r:=by
 cases e<;>first | trivial | cases h
theorem Qyi: ∀ {E:List (Nat×En)},Q66 E=true→ ∀ e∈E,e.2.isCk=true
 | [],_,_,he=>by cases he
 | (r, x) :: E, h, e, he => by
  simp only[Q66] at h
  cases hx:x.isCk with
  | false=>rw[hx] at h;cases h
  | true =>
   rw[hx] at h
   rcases List.mem_cons.1 he with rfl | he
   ·exact hx
   ·exact Qyi h e he
theorem Ybm {p : Nat → Loc} {k n : Nat} : ∀ e ∈ Qso p k n, ∀ θ r, e.2.ck θ r = ⟨[], fun _ => True⟩ := fun e he θ r => by
 obtain⟨i,_,_,rfl⟩:=Qxq he
 rfl
theorem CTM.of {G0:Prop} {P:Program} {ti:Nat→TI} {zr:Nat→Option Value} {G:World→Prop} (s:SysOk P ti zr G) {gs:List Nat} {f:FuncId} {fn:Func} {code:Code} {n mk m0 nn:Nat} {E0 F0 E1:List (Nat×En)} {args res:List V} (hf:P.funcs[f]?=some fn) (hb:fn.body=some code) (hn:fn.ntmps=n) (hl:Nat.ble args.length n=true) (hmk:Nat.ble mk m0=true) (hE:Q66 E0=true)
  (h: ∀ S w p (hG: ∀ w',Keep S w w'→G w') (hb: ∀ b,S b→b<w.heap.size),(∀ g∈gs,S g)→Run (Ymr s fn S w hG hb (MQ S w p mk E1 nn res G0)) [] ⟨n,m0,Qm2 0 args,E0++F0++Qso p 0 mk⟩ [.code code]):CTM P G gs f mk m0 E0 F0 args E1 nn res G0:=by
 intro S w p us hG hgs hS hF hc
 refine calls_of_wp hf hb ?_
 have hvl:us.length=args.length:=Qhi hc
 have hle:=Nat.le_of_ble_eq_true hl
 have hmk':=Nat.le_of_ble_eq_true hmk
 refine h S w p hG hS.dom hgs (thz p m0) _ w ⟨Qtx,⟨?_,rfl,fun t v hv=>?_⟩,S,w,?_⟩
 ·show(us.toArray++Array.replicate (fn.ntmps - us.toArray.size) undef).size=n
  simp[hn];omega
 ·obtain⟨_,u,hu,hcu⟩:=Qsk hc hv
  rw[Nat.sub_zero] at hu
  have hlt:=(List.getElem?_eq_some_iff.1 hu).1
  refine⟨?_,by show t<n;omega⟩
  rw[hcu]
  simp[Array.getD_eq_getD_getElem?,Array.getElem?_append_left (show t<us.toArray.size by simpa using hlt),hu]
 ·refine⟨Keep.refl _ _,fun _ h=>h,?_,fun e he=>?_⟩
  ·rw[List.map_append,List.map_append]
   exact(hS.more fun e he=>(hF e he).2).more Ybm
  ·rcases List.mem_append.1 he with he | he
   ·rcases List.mem_append.1 he with he | he
    ·exact En.ok_ck (Qyi hE e he)
    ·exact(hF e he).1
   ·obtain⟨i,_,h2,rfl⟩:=Qxq he
    exact Qia (by omega)
theorem Run.keyM {c:Cx} {res':List Re} {σ:St} {rs:List ResultVar} (hr:c.fn.results.toList=rs) (hl:Nat.ble rs.length 4=true) {vs:List V} (hv:rvsV c.ti σ.ρ σ.E rs=some vs)
  {S:Nat→Prop} {w:World} {p:Nat→Loc} {mk nn:Nat} {E1:List (Nat×En)} {res:List V} {G0:Prop} (hg0:G0) (hQ: ∀ R w' v,MQ S w p mk E1 nn res G0 w' v→c.Q R w' v) (hS0: ∀ b,S b→c.S0 b) (hK:Keep S w c.w0) (hd: ∀ b,S b→b<w.heap.size)
  (f is:List Nat) (hlen:Nat.beq f.length (mk+nn)=true) (hs:SubE f σ.E is (E1++Qso p 0 mk)) (hn:is.Nodup) (hres:renL f res=some vs) {θ:List Loc} {a:Act} {w':World} (h:R c θ σ a w'):post c res' .ret a w':=by
 have hlen':f.length=mk+nn:=Nat.eq_of_beq_eq_true hlen
 have hR:=h.sub (σ2:=⟨σ.n,mk+nn,[],E1++Qso p 0 mk⟩) (f:=f) (is:=is) ⟨rfl,hlen',trivial,hs⟩ hn
 obtain⟨us,hus,hrl⟩:=Q6y h hv
 obtain⟨S1,w1,hh⟩:=hR.heap
 have hpin : ∀ k, k < mk → (renθ f θ)[k]? = some (p k) := fun k hk => by
  have:=hh.ok (0+k,.pin (p (0+k))) (List.mem_append_right _ (Q5s hk))
  rw[Nat.zero_add] at this
  exact this
 have hlr:(renθ f θ).length=mk+nn:=hR.len
 have hsp:thz p mk++(renθ f θ).drop mk=renθ f θ:=by
  rw[Ydj (by omega) hpin,List.take_append_drop]
 refine⟨h.env.defers,_,Q2i hr hl hrl,_,rfl,hQ _ _ _ ⟨hg0,(renθ f θ).drop mk,us,by simp[hlr],by rw[hsp];exact Qm3 hres hus,rfl,?_⟩⟩
 rw[hsp]
 have hsh:=hh.sh
 rw[List.map_append] at hsh
 refine⟨hK.trans ((hh.k0.trans (hsh.keep.mono hh.sub)).mono hS0),hd,fun c hc=>hsh.ok c (List.mem_append_left _ hc),fun c hc b hb=>?_,?_⟩
 ·have:=hsh.ge c (List.mem_append_left _ hc) b hb
  exact⟨fun hS=>this.1 (hh.sub b (hS0 b hS)),this.2⟩
 ·have:=hsh.apart
  rw[List.flatMap_append,List.nodup_append] at this
  exact this.1
theorem Run.retM {c:Cx} {res':List Re} {σ:St} {k:List It} {rs:List ResultVar} (hr:c.fn.results.toList=rs) (hl:Nat.ble rs.length 4=true) {vs:List V} (hv:rvsV c.ti σ.ρ σ.E rs=some vs)
  {S:Nat→Prop} {w:World} {p:Nat→Loc} {mk nn:Nat} {E1:List (Nat×En)} {res:List V} {G0:Prop} (hg0:G0) (hQ: ∀ R w' v,MQ S w p mk E1 nn res G0 w' v→c.Q R w' v) (hS0: ∀ b,S b→c.S0 b) (hK:Keep S w c.w0) (hd: ∀ b,S b→b<w.heap.size)
  (f is:List Nat) (hlen:Nat.beq f.length (mk+nn)=true) (hs:SubE f σ.E is (E1++Qso p 0 mk)) (hn:is.Nodup) (hres:renL f res=some vs):Run c res' σ (.code .ret::k):=by
 intro θ a w' h
 have key:post c res' .ret a w':=Run.keyM hr hl hv hg0 hQ hS0 hK hd f is hlen hs hn hres h
 refine wp_ret ?_
 clear hv hr hs hres
 induction k with
 | nil=>exact key
 | cons x k ih=>cases x<;>exact ih
def Qqx (x:Option (Nat×En)) (l:List (Nat×En)):List (Nat×En):=match x with
 | some y=>y::l
 | none=>l
def pickE (E:List (Nat×En)):List Nat→List (Nat×En)
 | []=>[]
 | i::is=>Qqx (nthE E i) (pickE E is)
def Qle (σ:St) (d:Nat) (fk:List Nat) (E1:List (Nat×En)) (nn:Nat) (res:List V) (rest:List Nat):St:=
 ⟨σ.n,σ.m+nn,(d,Qkk (fwL fk σ.m res))::σ.ρ,fwE fk σ.m E1++pickE σ.E rest⟩
theorem En.ok_off {M R:List Ck} {S:Nat→Prop} {w1 w:World} (h:SH S w1 w (M++R)) {θ:List Loc} {r:Nat} {e:En} (he:e.ok S w1 θ r):e.ok (Off M w) w θ r:=by
 cases e with
 | var=>trivial
 | lit=>trivial
 | own=>trivial
 | itr=>trivial
 | any=>trivial
 | pin l=>exact he
 | ros α d xs=>obtain⟨l,h1,h2⟩:=he;exact⟨l,h1,h.upM h2⟩
 | roc cs=>obtain⟨l,A,ccs,h1,h2,h3,h4,h5⟩:=he;exact⟨l,A,ccs,h1,h2,h3,h.inOff h4,h5.keep h.keep h4⟩
theorem Ybr {m:Nat}: ∀ {f:List Nat} {r q:Nat},f[r]?=some q→nthG m f r=q
 | x::f,0,q,h=>by simpa [nthG] using h
 | x :: f, r + 1, q, h => by
  simp only[nthG,Nat.beq,Nat.pred,cond]
  exact Ybr (by simpa using h)
theorem Ybs {m:Nat}: ∀ {f:List Nat} {r:Nat},f.length≤r→nthG m f r=m+(r - f.length)
 | [],r,_=>rfl
 | x::f,0,h=>by simp at h
 | x :: f, r + 1, h => by
  simp only[nthG,Nat.beq,Nat.pred,cond]
  rw[Ybs (by simpa using h),length_cons]
  omega
section
variable {f:List Nat} {θ1 θ2:List Loc}
mutual
theorem V.ren_eq (hf: ∀ r q:Nat,f[r]?=some q→θ1[r]?=θ2[q]?): ∀ {v u:V},v.ren f=some u→v.con θ1=u.con θ2
 | .v x,u,h=>by simp only[V.ren] at h;cases h;rfl
 | .sl r n, u, h => by
  simp only[V.ren] at h
  split at h
  ·rename_i q hq;cases h;simp only[V.con,hf r q hq]
  ·cases h
 | .pt r n, u, h => by
  simp only[V.ren] at h
  split at h
  ·rename_i q hq;cases h;simp only[V.con,hf r q hq]
  ·cases h
 | .ag cs, u, h => by
  simp only[V.ren] at h
  split at h
  ·rename_i l hl;cases h;simp only[V.con,Qpv hf hl]
  ·cases h
 | .fn g cs, u, h => by
  simp only[V.ren] at h
  split at h
  ·rename_i l hl;cases h;simp only[V.con,Qpv hf hl]
  ·cases h
 | .tu cs, u, h => by
  simp only[V.ren] at h
  split at h
  ·rename_i l hl;cases h;simp only[V.con,Qpv hf hl]
  ·cases h
 | .gd b x, u, h => by
  simp only[V.ren] at h
  split at h
  ·rename_i l hl;cases h;simp only[V.con,V.ren_eq hf hl]
  ·cases h
theorem Qpv (hf: ∀ r q:Nat,f[r]?=some q→θ1[r]?=θ2[q]?): ∀ {cs ds:List V},renL f cs=some ds→conL θ1 cs=conL θ2 ds
 | [],ds,h=>by simp only[renL] at h;cases h;rfl
 | x :: r, ds, h => by
  simp only[renL] at h
  split at h
  ·rename_i a b h1 h2;cases h;simp only[conL,V.ren_eq hf h1,Qpv hf h2]
  ·cases h
end
theorem En.ren_ck_eq (hf: ∀ r q:Nat,f[r]?=some q→θ1[r]?=θ2[q]?) {r q:Nat} (hr:f[r]?=some q) {e e':En} (h:e.ren f=some e'):e.ck θ1 r=e'.ck θ2 q:=by
 have hl:locF θ1 r=locF θ2 q:=by unfold locF;rw[hf r q hr]
 cases e with
 | var cs T =>
  simp only[En.ren] at h
  split at h
  ·rename_i l hl';cases h;simp only[En.ck,hl,hf r q hr,Qpv hf hl']
  ·cases h
 | lit cs T n =>
  simp only[En.ren] at h
  split at h
  ·rename_i l hl';cases h;simp only[En.ck,hl,hf r q hr,Qpv hf hl']
  ·cases h
 | own α d xs=>simp only[En.ren] at h;cases h;simp only[En.ck,hl,hf r q hr]
 | itr s p=>simp only[En.ren] at h;cases h;simp only[En.ck,hl,hf r q hr]
 | any P=>simp only[En.ren] at h;cases h;simp only[En.ck,hl,hf r q hr]
 | ros=>simp only[En.ren] at h;cases h;rfl
 | pin=>simp only[En.ren] at h;cases h;rfl
 | roc cs =>
  simp only[En.ren] at h
  split at h
  ·cases h;rfl
  ·cases h
theorem En.ren_ok_eq (hf: ∀ r q:Nat,f[r]?=some q→θ1[r]?=θ2[q]?) {r q:Nat} (hr:f[r]?=some q) {e e':En} (h:e.ren f=some e') {S:Nat→Prop} {w:World} (hp:e'.ok S w θ2 q):e.ok S w θ1 r:=by
 cases e with
 | var=>trivial
 | lit=>trivial
 | own=>trivial
 | itr=>trivial
 | any=>trivial
 | ros=>simp only[En.ren] at h;cases h;simp only[En.ok,hf r q hr] at hp ⊢;exact hp
 | pin=>simp only[En.ren] at h;cases h;simp only[En.ok,hf r q hr] at hp ⊢;exact hp
 | roc cs =>
  simp only[En.ren] at h
  split at h
  ·rename_i l hl';cases h;simp only[En.ok,hf r q hr,Qpv hf hl'] at hp ⊢;exact hp
  ·cases h
end
def En.isF:En→Bool
 | .ros _ _ _=>true
 | .roc _=>true
 | .pin _=>true
 | _=>false
def isFs:List (Nat×En)→Bool
 | []=>true
 | (_,e)::E=>bif e.isF then isFs E else false
theorem Q8j: ∀ {E:List (Nat×En)},isFs E=true→ ∀ e∈E,∀ θ r,e.2.ck θ r=⟨[],fun _=>True⟩
 | [],_,_,he=>by cases he
 | (r, x) :: E, h, e, he => by
  simp only[isFs] at h
  cases hx:x.isF with
  | false=>rw[hx] at h;cases h
  | true =>
   rw[hx] at h
   rcases List.mem_cons.1 he with rfl | he
   ·intro θ r;cases x<;>first | rfl | cases hx
   ·exact Q8j h e he
def Yc1 (m:Nat):List Nat→Bool
 | []=>true
 | x::r=>bif Nat.blt x m then Yc1 m r else false
theorem Q2r {m:Nat}: ∀ {f:List Nat} {r q:Nat},Yc1 m f=true→f[r]?=some q→q<m
 | x :: f, r, q, h, hq => by
  simp only[Yc1] at h
  cases hx:Nat.blt x m with
  | false=>rw[hx] at h;cases h
  | true =>
   rw[hx] at h
   cases r with
   | zero=>simp at hq;subst hq;simpa using hx
   | succ r=>exact Q2r h (by simpa using hq)
theorem OpSg.of {c:Cx} {σ σ':St} {all:Array Oper} {dst:Option Tmp} {op:Op} {ty:TypeId} {pos:String} {after:Array Edge} {G:Prop}
  (h: ∀ θ a w,R c θ σ a w→ ∀ (K:Act→World→Prop) (Q:Exit→Act→World→Prop),(∀ η a' w',R c (θ++η) σ' a' w'→G→K a' w')→Oper.wp c.P ⟨dst,op,ty,pos,after,none⟩ a w K Q):OpSg c σ all ⟨dst,op,ty,pos,after,none⟩ σ' G:=by
 intro θ a w hR K Q hK
 rw[if_pos (by simp[Region.wanted])]
 exact h θ a w hR K Q hK
def borN:En→En
 | .own α d xs=> .ros α d xs
 | .ros α d xs=> .ros α d xs
 | .var cs T=> .roc cs
 | .roc cs=> .roc cs
 | .lit cs T n=> .lit cs T n
 | .itr s p=> .itr s p
 | .any P=> .any P
 | .pin l=> .pin l
def borL:List (Nat×En)→List (Nat×En)
 | []=>[]
 | (r,e)::E=>(r,borN e)::borL E
theorem Q8x : ∀ E : List (Nat × En), borL E = E.map fun e => (e.1, borN e.2)
 | []=>rfl
 | (r,e)::E=>by simp only[borL,map_cons,Q8x E]
def djB (is:List Nat):List Nat→Bool
 | []=>true
 | j::js=>!(is.elem j)&&djB is js
theorem Q3e {is:List Nat}: ∀ {js:List Nat},djB is js=true→ ∀ j∈js,j ∉ is
 | [],_,_,h=>by cases h
 | k :: js, h, j, hj => by
  simp only[djB,Bool.and_eq_true,Bool.not_eq_true'] at h
  rcases List.mem_cons.1 hj with rfl | hj
  ·intro hm
   have:=List.elem_eq_true_of_mem hm
   rw[h.1] at this
   cases this
  ·exact Q3e h.2 j hj
section
variable {c:Cx} {σ:St} {all:Array Oper} {ty:TypeId} {pos:String} {after:Array Edge} {d:Nat}
theorem OpS.callM {G0:Prop} {gs:List Nat} {fid:FuncId} {mk m0 nn:Nat} {E0 F0 E1:List (Nat×En)} {args res:List V} (hct:CTM c.P c.G gs fid mk m0 E0 F0 args E1 nn res G0) (hfn:FnOk c.P fid) (hgs: ∀ g∈gs,c.S0 g) (f fk is js rest:List Nat)
    {x:Operand} {cs:List V} {xs:Array Operand} {ts:Array TypeId} {vs:List V} (hx:ev σ.ρ x=some (.fn fid cs)) (hev:evs σ.ρ xs.toList=some vs) (hva:renL f args=some (vs++cs)) (hfm:Nat.beq f.length m0=true) (hfk:f.take mk=fk) (hE0:SubE f σ.E is E0) (hF0:SubE f (borL σ.E) js F0) (hFs:isFs F0=true) (hdj:djB is js=true)
    (hnd:(is++rest).Nodup) (hrest:rest.map (nthE σ.E)=(pickE σ.E rest).map some) (hd:Nat.blt d σ.n=true) (hlt:Yc1 σ.m f=true) (hmk:Nat.ble mk m0=true) (hE1:Q66 E1=true):
    OpSg c σ all ⟨some d,.call { callee:= .value x,args:=xs,argTypes:=ts },ty,pos,after,none⟩ (Qle σ d fk E1 nn res rest) G0:=
  OpSg.of fun θ a w h K Q hK => by
    obtain⟨us,hus,hm⟩:=h.env.evsL hev
    obtain⟨S,w1,hh⟩:=h.heap
    obtain⟨fn,hf,hb,hn⟩:=hfn
    have hn': ¬ fn.name= "runtime.NumGoroutine" := by simpa using hn
    have hb': ¬ fn.body=none:=by intro e;rw[e] at hb;cases hb
    have hxc:=h.env.con hx
    simp only[V.con,Option.map_eq_some_iff] at hxc
    obtain⟨capt,hcapt,hfv⟩:=hxc
    have hmm:xs.map a.eval=us.toArray:=by
      apply Array.toList_inj.1
      rw[Array.toList_map,Fw.evals h.env.env hm]
    have hfm':f.length=m0:=Nat.eq_of_beq_eq_true hfm
    have hmk':mk≤m0:=Nat.le_of_ble_eq_true hmk
    let p:Nat→Loc:=fun k=>θ.getD (f.getD k 0) ⟨none,0,[]⟩
    have hget : ∀ r q : Nat, f[r]? = some q → θ[q]? = some (p r) := fun r q hq => by
      have hl:=Q2r hlt hq
      rw[←h.len] at hl
      simp[p,hq,hl]
    have hren : ∀ r q : Nat, f[r]? = some q → (thz p m0)[r]? = θ[q]? := fun r q hq => by
      have hr:=(List.getElem?_eq_some_iff.1 hq).1
      rw[Qia (by omega),hget r q hq]
    obtain⟨Z,hZ1,hZ2,hZ3⟩:=Qxs hE0
    obtain⟨Y,hY1,hY2,hY3⟩:=Qxs hF0
    have hpk:(is++rest).map (fun i=>σ.E[i]?)=(Z.map (·.2)++pickE σ.E rest).map some:=by
      rw[List.map_append,List.map_append,hZ2,List.map_map]
      congr 1
      have hr2:rest.map (fun i=>σ.E[i]?)=(pickE σ.E rest).map some:=by
        have: ∀ (l:List Nat) (L:List (Nat×En)),l.map (nthE σ.E)=L.map some→l.map (fun i=>σ.E[i]?)=L.map some:=by
          intro l
          induction l with
          | nil => intro L hL; cases L with
            | nil=>rfl
            | cons=>simp at hL
          | cons i l ih => intro L hL; cases L with
            | nil=>simp at hL
            | cons e L =>
              simp only[map_cons,List.cons.injEq] at hL ⊢
              exact⟨Ql8 hL.1,ih L hL.2⟩
        exact this _ _ hrest
      exact hr2
    have hsh:SH S w1 w (E0.map (fun e=>e.2.ck (thz p m0) e.1)++(pickE σ.E rest).map fun e=>e.2.ck θ e.1):=by
      have h1:SH S w1 w ((Z.map (·.2)++pickE σ.E rest).map fun e=>e.2.ck θ e.1):=by
        refine hh.sh.pick (is++rest) hnd ?_
        have h2:((is++rest).map fun i=>(σ.E.map fun e=>e.2.ck θ e.1)[i]?)=((is++rest).map fun i=>σ.E[i]?).map (Option.map fun e=>e.2.ck θ e.1):=by
          rw[List.map_map]
          refine List.map_congr_left fun i _=>?_
          simp
        rw[h2,hpk,List.map_map,List.map_map]
        rfl
      have h3 : E0.map (fun e => e.2.ck (thz p m0) e.1) = (Z.map (·.2)).map fun e => e.2.ck θ e.1 := by
        rw[←hZ1,List.map_map,List.map_map]
        refine List.map_congr_left fun z hz=>?_
        exact En.ren_ck_eq hren (hZ3 z hz).1 (hZ3 z hz).2.1
      rw[h3,←List.map_append]
      exact h1
    have hfa : Qjv (Off (E0.map fun e => e.2.ck (thz p m0) e.1) w) w (thz p m0) F0 := fun e he => by
      refine⟨?_,Q8j hFs e he⟩
      rw[←hY1] at he
      obtain⟨z,hz,rfl⟩:=List.mem_map.1 he
      refine En.ren_ok_eq hren (hY3 z hz).1 (hY3 z hz).2.1 ?_
      have hzm:some z.2∈js.map fun i=>(borL σ.E)[i]?:=by rw[hY2];exact List.mem_map.2 ⟨z,hz,rfl⟩
      obtain⟨j,hj,hjz⟩:=List.mem_map.1 hzm
      rw[Q8x,getElem?_map,Option.map_eq_some_iff] at hjz
      obtain⟨⟨q,e⟩,hqe,hez⟩:=hjz
      rw[←hez]
      have hem:(q,e)∈σ.E:=mem_of_getElem? hqe
      cases e with
      | own α dα xs =>
        obtain⟨l,hl,ho⟩:=(hh.sh.ok _ (List.mem_map.2 ⟨_,hem,rfl⟩)).here
        refine⟨l,hl,ho.rd fun b hb=>⟨ho.lt b hb,fun hm=>?_⟩⟩
        have hLj:(σ.E.map fun e=>e.2.ck θ e.1)[j]?=some ((En.own α dα xs).ck θ q):=by rw[List.getElem?_map,hqe];rfl
        obtain⟨ck,hck,hbc⟩:=mem_flatMap.1 hm
        have h3 : E0.map (fun e => e.2.ck (thz p m0) e.1) = (Z.map (·.2)).map fun e => e.2.ck θ e.1 := by
          rw[←hZ1,List.map_map,List.map_map]
          refine List.map_congr_left fun z hz=>?_
          exact En.ren_ck_eq hren (hZ3 z hz).1 (hZ3 z hz).2.1
        rw[h3] at hck
        obtain⟨e2,he2,rfl⟩:=List.mem_map.1 hck
        obtain⟨z2,hz2,rfl⟩:=List.mem_map.1 he2
        have hzi:some z2.2∈is.map fun i=>σ.E[i]?:=by rw[hZ2];exact List.mem_map.2 ⟨z2,hz2,rfl⟩
        obtain⟨i,hi,hiz⟩:=List.mem_map.1 hzi
        have hLi:(σ.E.map fun e=>e.2.ck θ e.1)[i]?=some (z2.2.2.ck θ z2.2.1):=by rw[List.getElem?_map,hiz];rfl
        refine hh.sh.dj hLj hLi (fun e=>Q3e hdj j hj (e▸hi)) b ?_ hbc
        show b∈locF θ q
        rw[Qaj hl]
        exact hb
      | ros α dα xs=>exact En.ok_off hsh (hh.ok _ hem)
      | var cs T =>
        obtain⟨l,b,ccs,hl,hA,hFl,hcc,hb5⟩:=(hh.sh.ok _ (List.mem_map.2 ⟨_,hem,rfl⟩)).here
        refine⟨l,_,ccs,hl,hA,hcc,⟨(Array.getElem?_eq_some_iff.1 hb5).1,fun hm=>?_⟩,Qcf.row hb5⟩
        have hLj:(σ.E.map fun e=>e.2.ck θ e.1)[j]?=some ((En.var cs T).ck θ q):=by rw[List.getElem?_map,hqe];rfl
        obtain⟨ck,hck,hbc⟩:=mem_flatMap.1 hm
        have h3 : E0.map (fun e => e.2.ck (thz p m0) e.1) = (Z.map (·.2)).map fun e => e.2.ck θ e.1 := by
          rw[←hZ1,List.map_map,List.map_map]
          refine List.map_congr_left fun z hz=>?_
          exact En.ren_ck_eq hren (hZ3 z hz).1 (hZ3 z hz).2.1
        rw[h3] at hck
        obtain⟨e2,he2,rfl⟩:=List.mem_map.1 hck
        obtain⟨z2,hz2,rfl⟩:=List.mem_map.1 he2
        have hzi:some z2.2∈is.map fun i=>σ.E[i]?:=by rw[hZ2];exact List.mem_map.2 ⟨z2,hz2,rfl⟩
        obtain⟨i,hi,hiz⟩:=List.mem_map.1 hzi
        have hLi:(σ.E.map fun e=>e.2.ck θ e.1)[i]?=some (z2.2.2.ck θ z2.2.1):=by rw[List.getElem?_map,hiz];rfl
        refine hh.sh.dj hLj hLi (fun e=>Q3e hdj j hj (e▸hi)) b ?_ hbc
        show b∈locF θ q
        rw[Qaj hl,hFl]
        exact mem_singleton.2 rfl
      | roc cs=>exact En.ok_off hsh (hh.ok _ hem)
      | lit=>trivial
      | itr=>trivial
      | any=>trivial
      | pin l=>exact En.ok_off hsh (hh.ok _ hem)
    have hG: ∀ w',Keep (Off (E0.map fun e=>e.2.ck (thz p m0) e.1) w) w w'→c.G w':=fun w' hk=>c.gok w' (hh.keep.trans (hk.mono fun b hb=>hsh.inOff (hh.sub b hb)))
    have hargs:conL (thz p m0) args=some (us++capt):=by
      rw[Qpv hren hva]
      exact Qot hus hcapt
    unfold Oper.wp
    have:(execOp a.eval ⟨some d,.call { callee:= .value x,args:=xs,argTypes:=ts },ty,pos,after,none⟩).run c.P w= .ok (.enter fid (us++capt).toArray) w:=by
      simp[execOp,resolve,hmm,←hfv,Deferred.ofValue,invoke,callFunc,hf,hn',hb']
    rw[this,Oper.upon_enter]
    refine(hct _ w p (us++capt) hG (fun g hg=>hsh.inOff (hh.sub g (hgs g hg))) hsh.off hfa hargs).mono fun e w' hr=>?_
    obtain⟨v,rfl,hg0,η,us',hη,hc',rfl,hs'⟩:=hr
    have hnm : ∀ r, (thz p mk ++ η)[r]? = (θ ++ η)[nthG θ.length fk r]? := fun r => by
      have hlf:fk.length=mk:=by rw[←hfk,List.length_take];omega
      rcases Nat.lt_or_ge r mk with hr | hr
      · have hq : ∃ q, fk[r]? = some q := ⟨_, getElem?_eq_getElem (by omega)⟩
        obtain⟨q,hq⟩:=hq
        have hq':f[r]?=some q:=by
          rw[←hfk,getElem?_take,if_pos hr] at hq
          exact hq
        rw[Ybr hq,getElem?_append_left (by rw[Qtx];exact hr),Qia hr]
        exact(Qem (hget r q hq')).symm
      · rw [Ybs (by omega), getElem?_append_right (by rw [Qtx]; exact hr), getElem?_append_right (by omega), Qtx, hlf]
        congr 1
        omega
    have hcall:=SH.callM hsh hs'
    have hfin:SH S w1 w' ((fwE fk σ.m E1++pickE σ.E rest).map fun e=>e.2.ck (θ++η) e.1):=by
      have h4:SH S w1 w' (E1.map (fun e=>e.2.ck (thz p mk++η) e.1)++(pickE σ.E rest).map fun e=>e.2.ck (θ++η) e.1):=by
        have h5:=@SH.map2 S w1 w' (Sum (Nat×En) (Nat×En)) (E1.map Sum.inl++(pickE σ.E rest).map Sum.inr) (fun s=>match s with | .inl e=>e.2.ck (thz p mk++η) e.1 | .inr e=>e.2.ck θ e.1) (fun s=>match s with | .inl e=>e.2.ck (thz p mk++η) e.1 | .inr e=>e.2.ck (θ++η) e.1) (by
          rw[List.map_append,List.map_map,List.map_map]
          exact hcall) (fun e he hp => by
            cases e with
            | inl e=>exact⟨rfl,fun _ h=>h⟩
            | inr e=>exact En.ck_ext hp)
        rw[List.map_append,List.map_map,List.map_map] at h5
        exact h5
      have h6 : (fwE fk σ.m E1).map (fun e => e.2.ck (θ ++ η) e.1) = E1.map fun e => e.2.ck (thz p mk ++ η) e.1 := by
        rw[Q69,List.map_map]
        refine List.map_congr_left fun e _=>?_
        rw[←h.len]
        exact En.fw_ck hnm e.2 e.1
      rw[List.map_append,h6]
      exact h4
    have hcon:conL (θ++η) (fwL fk σ.m res)=some us':=by
      rw[←h.len,Quk hnm]
      exact hc'
    refine hK η _ w' ⟨by rw[length_append,h.len,hη];rfl,(h.env.ext (θ':=η)).back (h.env.env.put hd (pack us')) (Q5t hcon) hd,S,w1,hh.k0,hh.sub,hfin,fun e he=>?_⟩ hg0
    rcases List.mem_append.1 he with he | he
    · rw [Q69] at he
      obtain⟨e0,he0,rfl⟩:=List.mem_map.1 he
      have:=Qyi hE1 e0 he0
      obtain⟨r0,e0⟩:=e0
      cases e0<;>first | trivial | cases this
    · have : some e ∈ rest.map (nthE σ.E) := by rw [hrest]; exact List.mem_map.2 ⟨e, he, rfl⟩
      obtain⟨i,_,hi⟩:=List.mem_map.1 this
      exact En.ok_ext (hh.ok e (mem_of_getElem? (Ql8 hi)))
end
theorem Run.loopM {c:Cx} {res:List Re} {σ:St} {b:Code} {k:List It} {ι τ:Type} {T:τ} (F:ι→τ) (st:ι→St) (inv:ι→Prop) (μ:ι→Nat) (i0:ι) (f is:List Nat) (hp:T=F i0) (h0:inv i0) (hs:Sub f is σ (st i0)) (hn:is.Nodup)
  (body: ∀ i,inv i→T=F i→Run c res (st i) (.code b :: .goal (Yex c st (fun _=>res) (fun i=>inv i∧T=F i) μ i)::k)):Run c res σ (.code (.loop b)::k):=
 Run.loop st (fun _=>res) (fun i=>inv i∧T=F i) μ i0 f is rfl ⟨h0,hp⟩ hs hn fun i hi=>body i hi.1 hi.2
theorem Run.loopkM {c:Cx} {res:List Re} {σ:St} {b:Code} {id:Nat} {k:List It} {ι κ τ:Type} {T:τ} {K:κ→τ} (F:(κ→τ)→ι→τ) (st:ι→St) (inv:ι→Prop) (μ:ι→Nat) (stK:κ→St) (invK:κ→Prop) (i0:ι) (f is:List Nat)
  (hp:T=F K i0) (h0:inv i0) (hs:Sub f is σ (st i0)) (hn:is.Nodup)
  (hk: ∀ e,invK e→T=K e→Run c res (stK e) k)
  (body: ∀ K:κ→τ,(∀ e,invK e→T=K e→Run c res (stK e) k)→ ∀ i,inv i→T=F K i→Run c res (st i) (.code b :: .goal (Yex c st (fun _=>res) (fun i=>inv i∧T=F K i) μ i) :: .blk id::k)):
  Run c res σ (.code (.loop b) :: .blk id::k):=
 Run.loop st (fun _=>res) (fun i=>inv i∧T=F K i) μ i0 f is rfl ⟨h0,hp⟩ hs hn fun i hi=>body K hk i hi.1 hi.2
theorem Run.exitkM {c:Cx} {res:List Re} {σ:St} {k:List It} {κ τ:Type} {T:τ} {K:κ→τ} {stK:κ→St} {invK:κ→Prop} (hk: ∀ e,invK e→T=K e→Run c res (stK e) k) (e:κ) (f is:List Nat) (hp:T=K e) (hi:invK e) (hs:Sub f is σ (stK e)) (hn:is.Nodup):Run c res σ k:=Run.sub f is _ hs hn (hk e hi hp)
theorem Run.cg {c:Cx} {res:List Re} {σ σ':St} {k:List It} (hs:σ=σ') (h:Run c res σ' k):Run c res σ k:=by rw[hs];exact h
end
section
theorem Yhg (s:ByteArray) (l h:Nat):(cutS s l h).size≤s.size:=by
 unfold cutS
 rw[ByteArray.size_extract]
 omega
theorem Qmp {s:ByteArray} {l h:Nat} (hs:s.size≤9223372036854775807):Dat.good (cutS s l h):=Nat.le_trans (Yhg s l h) hs
theorem Yb4 {xs:List ByteArray} (h:Dat.good xs) (k:Nat):(nth xs k).size≤maxLen:=by
 rcases Nat.lt_or_ge k xs.length with hk | hk
 ·exact Qai h hk
 ·unfold nth
  rw[List.getD_eq_getElem?_getD,List.getElem?_eq_none hk]
  exact Nat.zero_le _
def GE (g:Nat) (w:World):Prop:= ∃ te pe,w.cell? ⟨g,0,none⟩=some (.iface te pe)
theorem GE.lt {g:Nat} {w:World} (h:GE g w):g<w.heap.size:=by
 obtain⟨te,pe,h⟩:=h
 exact World.block_lt_of_cell? _ _ h
theorem GE.keep {g:Nat} {w w':World} (h:GE g w) (hk:Keep (Old w) w w'):GE g w':=by
 have hl:=h.lt
 obtain⟨te,pe,h⟩:=h
 refine⟨te,pe,?_⟩
 rw[←h]
 unfold World.cell?
 rw[show w'.heap[(⟨g,0,none⟩:Addr).block]?=w.heap[(⟨g,0,none⟩:Addr).block]? from hk.block g hl]
def Q7x (ok:Bool) (u:Value):Prop:=match ok with
 | true=>u= .nilIface
 | false=> ∃ t v,u= .iface t v
def CTE (P:Program) (G:World→Prop) (f:FuncId) (args:List Arg) (res:Value→List Re) (ok:Bool):Prop:=
 ∀ (w:World) (vs:List Value),G w→Q4k w vs args→Calls P f vs.toArray w (fun e w'=> ∃ u,Q7x ok u∧ ∃ v,e= .returned v∧ResR (Old w) w w' v (res u))
theorem Run.callE {c:Cx} {R0:List Re} {res:Value→List Re} {ok:Bool} {σ:St} {k:List It} {f:FuncId} {x:Operand} {cs:List V} {xs:Array Operand} {ts:Array TypeId} {ty:TypeId} {pos:String} {after:Array Edge} {d:Nat} {r:List Oper} {all:Array Oper} {args:List Arg} {vs:List V}
    (hct:CTE c.P c.G f args res ok) (hfn:FnOk c.P f) (hx:ev σ.ρ x=some (.fn f cs)) (hev:evs σ.ρ xs.toList=some vs) (hargs:Qmv σ.E (vs++cs) args) (hd:Nat.blt d σ.n=true)
    (hk: ∀ u,Q7x ok u→Run c R0 (Qcp σ d (res u)) (.ops r all::k)):
    Run c R0 σ (.ops (⟨some d,.call { callee:= .value x,args:=xs,argTypes:=ts },ty,pos,after,none⟩::r) all::k):=by
  intro θ a w h
  rw[Qpy]
  obtain⟨us,hus,hm⟩:=h.env.evsL hev
  obtain⟨S,w1,hh⟩:=h.heap
  obtain⟨fn,hf,hb,hn⟩:=hfn
  have hn': ¬ fn.name= "runtime.NumGoroutine" := by simpa using hn
  have hb': ¬ fn.body=none:=by intro e;rw[e] at hb;cases hb
  have hc:=h.env.con hx
  simp only[V.con,Option.map_eq_some_iff] at hc
  obtain⟨capt,hcapt,hfv⟩:=hc
  refine wpList_plain rfl fun K hK=>?_
  have hmm:xs.map a.eval=us.toArray:=by
    apply Array.toList_inj.1
    rw[Array.toList_map,Fw.evals h.env.env hm]
  unfold Oper.wp
  have:(execOp a.eval ⟨some d,.call { callee:= .value x,args:=xs,argTypes:=ts },ty,pos,after,none⟩).run c.P w= .ok (.enter f (us++capt).toArray) w:=by
    simp[execOp,resolve,hmm,←hfv,Deferred.ofValue,invoke,callFunc,hf,hn',hb']
  rw[this,Oper.upon_enter]
  refine(hct w (us++capt) h.g (hh.argsOk (Qot hus hcapt) hargs)).mono fun e w' hr=>?_
  obtain⟨u,hu,v,rfl,hR⟩:=hr
  have hE':Env σ.n ((d,v)::selfρ a) (a.put (some d) v):=h.env.env.put hd v
  obtain⟨η,hR'⟩:=h.res' hR hd hE'
  exact hK _ _ (hk u hu (θ++η) _ w' hR')
section
variable {P:Program} {n:Nat} {ρ:List (Nat×Value)} {a:Act} {w:World} {ty:TypeId}
theorem Ygl (hE:Env n ρ a) {x:Operand} {t t':Nat} {u:Value} {ok:Bool} (hx:ev? ρ x=some u) (hu:Q7x ok u) (ht:P.underlying t=some (.interface (P.methodsAt t))):
  Qb7 P a w (.binOp .neq t x (.const .nilIface) t') ty (.bool (!ok)):=by
 intro _ _ _ _
 have e:=hE.eval hx
 have e2:a.eval (.const .nilIface)= .nilIface:=rfl
 cases ok with
 | true =>
  cases hu
  have:=run_neq_nil_nil (P:=P) w t ht
  simp only[execOp,e,e2]
  simp[eqGuard,this]
 | false =>
  obtain⟨t1,v,rfl⟩:=hu
  have:=run_neq_held_nil (P:=P) w t t1 v ht
  simp only[execOp,e,e2]
  simp[eqGuard,this]
end
section
variable {c:Cx} {σ:St} {all:Array Oper} {ty:TypeId} {pos:String} {after:Array Edge} {d:Nat}
theorem OpS.errne {t t':Nat} {x:Operand} {u:Value} {ok:Bool} (hx:ev σ.ρ x=some (.v u)) (hu:Q7x ok u) (ht:c.P.underlying t=some (.interface (c.P.methodsAt t))) (hd:Nat.blt d σ.n=true):
  OpS c σ all ⟨some d,.binOp .neq t x (.const .nilIface) t',ty,pos,after,none⟩ (put d (.v (.bool (!ok))) σ):=
 OpS.of fun θ a w h K Q hK => by
  unfold Oper.wp
  rw[Ygl (P:=c.P) (w:=w) (ty:=ty) h.env.env (h.env.isv hx) hu ht]
  exact hK [] _ _ (h.put hd rfl).app0
theorem OpS.remG {t t':Nat} {x y:Operand} {k:IntKind} {i i2:Int} {j:Nat} {want B:Bool} (hB:gB σ.ρ all j want=some B) (hx:evG σ.ρ x=some (.v (.int k i))) (hy:evG σ.ρ y=some (.v (.int k i2))) (hside:B=true→Qf8 B True σ.ρ [x,y]) (hj:B=true→i2≠0) (hd:Nat.blt d σ.n=true):
    OpS c σ all ⟨some d,.binOp .rem t x y t',ty,pos,after,some (j,want)⟩ (put d (.gd B (.v (.int k (i.tmod i2)))) σ):=
  OpS.valG hB (fun hb θ a w h => by
    have h1:=Qho h.env hb (hside hb) x (by simp) _ hx
    have h2:=Qho h.env hb (hside hb) y (by simp) _ hy
    have e1:ev? (selfρ a) x=some (.int k i):=by rw[h1.2,←h1.1];rfl
    have e2:ev? (selfρ a) y=some (.int k i2):=by rw[h2.2,←h2.1];rfl
    exact Ydf h.env.env e1 e2 (hj hb)) hd
end
end
section
def setV (v:V):List V→Nat→List V
 | [],_=>[]
 | x::r,j=>bif Nat.beq j 0 then v::r else x::setV v r (Nat.pred j)
def nthV:List V→Nat→Option V
 | [],_=>none
 | x::r,j=>bif Nat.beq j 0 then some x else nthV r (Nat.pred j)
theorem Q78 {θ:List Loc} {v u:V} (hv:v.con θ=u.con θ): ∀ {cs:List V} {j:Nat},nthV cs j=some u→conL θ (setV v cs j)=conL θ cs
 | [],_,h=>by cases h
 | x :: r, j, h => by
  simp only[nthV,setV] at h ⊢
  cases hb:Nat.beq j 0 with
  | true=>rw[hb] at h;cases h;simp only[cond,conL,hv]
  | false=>rw[hb] at h;simp only[cond,conL];rw[Q78 hv h]
theorem Run.nilC {c:Cx} {res:List Re} {σ:St} {k:List It} (r j:Nat) {α:Type} {d:Dat α} {cs:List V} {T:TypeId} (hl:lkE σ.E r=some (.var cs T)) (hj:nthV cs j=some (.v (.slice none 0 0))) (h:Run c res ⟨σ.n,σ.m+1,σ.ρ,(σ.m,.own α d [])::putE r (r,.var (setV (.sl σ.m 0) cs j) T) σ.E⟩ k):Run c res σ k:=by
 intro θ a w hR
 obtain⟨S,w1,hh⟩:=hR.heap
 have hg:(θ++[(⟨none,0,[]⟩:Loc)])[σ.m]?=some ⟨none,0,[]⟩:=by rw[←hR.len];exact Qfu
 have hv:(V.sl σ.m 0).con (θ++[(⟨none,0,[]⟩:Loc)])=(V.v (.slice none 0 0)).con (θ++[(⟨none,0,[]⟩:Loc)]):=by simp only[V.con,hg]
 refine h (θ++[⟨none,0,[]⟩]) a w ⟨by rw[length_append,hR.len];rfl,hR.env.ext,S,w1,?_⟩
 have hck:(En.var (setV (.sl σ.m 0) cs j) T).ck (θ++[⟨none,0,[]⟩]) r=(En.var cs T).ck (θ++[⟨none,0,[]⟩]) r:=by simp only[En.ck,Q78 hv hj]
 obtain⟨i,hi,_⟩:=Qon hl
 have hex:=hh.ext (θ':=[⟨none,0,[]⟩])
 have hLi:(σ.E.map fun e=>e.2.ck (θ++[⟨none,0,[]⟩]) e.1)[i]?=some ((En.var cs T).ck (θ++[⟨none,0,[]⟩]) r):=by rw[List.getElem?_map,hi];rfl
 have h1:RH c (θ++[⟨none,0,[]⟩]) (putE r (r,.var (setV (.sl σ.m 0) cs j) T) σ.E) S w1 w:=by
  refine hex.turn hl rfl rfl rfl (Nat.le_refl _) (fun _ _ _=>rfl) ?_ ?_ ?_ trivial
  ·show Ck.ok _ _
   rw[show((r,En.var (setV (.sl σ.m 0) cs j) T).2.ck (θ++[⟨none,0,[]⟩]) (r,En.var (setV (.sl σ.m 0) cs j) T).1)=_ from hck]
   exact hex.sh.ok _ (mem_of_getElem? hLi)
  ·intro b hb
   rw[show((r,En.var (setV (.sl σ.m 0) cs j) T).2.ck (θ++[⟨none,0,[]⟩]) (r,En.var (setV (.sl σ.m 0) cs j) T).1)=_ from hck] at hb
   exact⟨.inl hb,(hex.sh.ge _ (mem_of_getElem? hLi) b hb).2⟩
  ·rw[show((r,En.var (setV (.sl σ.m 0) cs j) T).2.ck (θ++[⟨none,0,[]⟩]) (r,En.var (setV (.sl σ.m 0) cs j) T).1)=_ from hck]
   exact hex.sh.nd hLi
 refine h1.new (Below.refl _ _) (r:=σ.m) (e:= .own α d []) ?_ ?_ ?_ trivial
 ·intro w2 _
  exact⟨_,hg,Q21⟩
 ·intro b hb
  have hb':b∈locF (θ++[(⟨none,0,[]⟩:Loc)]) σ.m:=hb
  rw[Qaj hg] at hb'
  cases hb'
 ·show(locF _ σ.m).Nodup
  rw[Qaj hg]
  exact List.nodup_nil
theorem Run.gd {c:Cx} {res:List Re} {σ:St} {k:List It} (r:Nat) {α:Type} {d:Dat α} {xs:List α} (hp:payE σ.E r=some ⟨α,d,xs⟩) (h:(@instDatList α d).good xs→Run c res σ k):Run c res σ k:=by
 intro θ a w hR
 obtain⟨S,w1,hh⟩:=hR.heap
 refine h ?_ θ a w hR
 rcases Qx6 hp with he | he
 ·obtain⟨l,hl,ho⟩:=hh.own he
  exact Dat.rd_good (α:=List α) (B:=fun _=>True) (w:=w) (cs:=[_]) ⟨_,rfl,ho.rd fun _ _=>trivial⟩
 ·obtain⟨l,hl,ho⟩:=hh.ok _ (Qe1 he)
  exact Dat.rd_good (α:=List α) (B:=S) (w:=w1) (cs:=[_]) ⟨_,rfl,ho⟩
def Qqw {α:Type}:List (Fk α)→Bool
 | []=>true
 | .int _::r=>Qqw r
 | .byte _::r=>Qqw r
 | .bool _::r=>Qqw r
 | .str _::r=>Qqw r
 | .sl _ _ _::_=>false
theorem Q8r {α:Type} {S:Nat→Prop} {w w':World} {x:α}: ∀ {fs:List (Fk α)} {cs:List Value},Qqw fs=true→RdL S w x fs cs→OwL w' x fs cs []
 | [],_,_,h=>⟨h,rfl⟩
 | f :: fs, _, hf, ⟨v, r, e, hv, hr⟩ => by
  refine⟨v,r,[],[],e,rfl,?_,?_⟩
  ·cases f<;>first | exact⟨hv,rfl⟩ | cases hf
  ·exact Q8r (by cases f<;>first | exact hf | cases hf) hr
theorem Q8q {α:Type} [d:Dat α] (s:Str α) (hf:Qqw s.fk=true) {S:Nat→Prop} {w w':World} {cs:List Value} {x:α} (h:Dat.rd S w cs x):Dat.own w' cs x []:=s.omk (Q8r hf (s.op h))
theorem Yci {α:Type} [d:Dat α] (s:Str α) (hf:Qqw s.fk=true) {S:Nat→Prop} {w:World}: ∀ {xs:List α} {a:Addr},(∀ i x,xs[i]?=some x→ ∃ cs,Dat.rd S w cs x∧Qcf w (a.add (i*Dat.sz α)) cs)→
  ∃ news:List Value,Qcf w a news∧news.length=xs.length*Dat.sz α∧(∀ u∈news,u.oneCell'=true)∧ ∀ i x,xs[i]?=some x→Dat.own w (cut (Dat.sz α) news i) x []:=by
 intro xs
 induction xs with
 | nil=>intro a _;exact⟨[],(fun j u h=>by simp at h),by simp,(fun u h=>by cases h),(fun i x h=>by simp at h)⟩
 | cons x xs ih =>
  intro a h
  obtain⟨cs,hr,hc⟩:=h 0 x rfl
  rw[Nat.zero_mul,Addr.add_zero'] at hc
  have hl:cs.length=Dat.sz α:=Dat.rd_len hr
  obtain ⟨news, n1, n2, n3, n4⟩ := ih (a := a.add (Dat.sz α)) fun i y hi => by
   obtain⟨ds,h1,h2⟩:=h (i+1) y (by simpa using hi)
   refine⟨ds,h1,?_⟩
   rw[Qns]
   rwa [Nat.add_mul,Nat.one_mul,Nat.add_comm] at h2
  refine⟨cs++news,fun j u hj=>?_,by rw[length_append,n2,hl,length_cons,Nat.add_mul,Nat.one_mul,Nat.add_comm],fun u hu=>(List.mem_append.1 hu).elim (Dat.rd_one hr u) (n3 u),fun i y hi=>?_⟩
  ·rcases Nat.lt_or_ge j cs.length with h1 | h1
   ·rw[getElem?_append_left h1] at hj
    exact hc j u hj
   ·rw[getElem?_append_right h1] at hj
    have:=n1 _ u hj
    rwa [Qns,hl,show Dat.sz α+(j - Dat.sz α)=j by omega] at this
  ·cases i with
   | zero =>
    simp at hi
    subst hi
    have:cut (Dat.sz α) (cs++news) 0=cs:=by unfold cut;simp[←hl]
    rw[this]
    exact Q8q s hf hr
   | succ i =>
    have:=n4 i y (by simpa using hi)
    have e:cut (Dat.sz α) (cs++news) (i+1)=cut (Dat.sz α) news i:=by
     unfold cut
     rw[List.drop_append,List.drop_eq_nil_of_le (by rw[hl,Nat.add_mul];omega),nil_append,hl,Nat.add_mul,Nat.one_mul,Nat.add_sub_cancel]
    rw[e]
    exact this
theorem SlR.src {α:Type} [d:Dat α] (s:Str α) (hf:Qqw s.fk=true) {S:Nat→Prop} {w:World} {u:Value} {xs:List α} (h:SlR S w u xs):
  ∃ news:List Value,Src w u xs.length news∧news.length=xs.length*Dat.sz α∧(∀ v∈news,v.oneCell'=true)∧Qke w news xs (List.replicate xs.length []):=by
 obtain⟨A,cap,rfl,h1,h2,h3⟩:=h
 by_cases hx:xs=[]
 ·subst hx
  exact⟨[],⟨A,cap,rfl,(fun j u h=>by simp at h)⟩,by simp,(fun u h=>by cases h),⟨by simp,(fun i x h=>by simp at h)⟩⟩
 ·obtain⟨ad,rfl,_,hc⟩:=h3 hx
  obtain⟨news,n1,n2,n3,n4⟩:=Yci s hf hc
  exact⟨news,⟨some ad,cap,rfl,fun j u hj=>⟨ad,rfl,n1 j u hj⟩⟩,n2,n3,⟨by simp,fun i x hi=>⟨[],by rw[List.getElem?_replicate,if_pos (List.getElem?_eq_some_iff.1 hi).1],n4 i x hi⟩⟩⟩
section
variable {c:Cx} {σ:St} {all:Array Oper} {ty:TypeId} {pos:String} {after:Array Edge} {d:Nat}
def XRow (E:List (Nat×En)) (α:Type) (dα:Dat α) (xs:List α) (rs:List Nat):V→Prop
 | .v x=>x= .slice none 0 0∧xs=[]∧rs=[]
 | .sl r len=>len=xs.length∧Qoo E r=some ⟨α,dα,xs⟩∧rs=[r]
 | _=>False
theorem RH.xrow {θ:List Loc} {E:List (Nat×En)} {S:Nat→Prop} {w1 w:World} (h:RH c θ E S w1 w) {α:Type} {dα:Dat α} {xs:List α} {rs:List Nat} {v:V} (hx:XRow E α dα xs rs v) {u:Value} (hu:v.con θ=some u):SlO w u xs (rs.flatMap (locF θ))∧ ∀ n∈rs,ownN E n:=by
 cases v with
 | v x=>obtain⟨rfl,rfl,rfl⟩:=hx;cases hu;exact⟨Q21,fun n hn=>by cases hn⟩
 | sl r len =>
  obtain⟨rfl,hp,rfl⟩:=hx
  obtain⟨l,hl,ho⟩:=h.own (Ql0 hp)
  simp only[V.con,hl] at hu
  cases hu
  refine⟨by simpa [Qaj hl] using ho,fun n hn=>?_⟩
  obtain rfl:=mem_singleton.1 hn
  exact⟨_,hp⟩
 | pt=>exact hx.elim
 | ag=>exact hx.elim
 | fn=>exact hx.elim
 | tu=>exact hx.elim
 | gd=>exact hx.elim
def Qe6 {α:Type} (σ:St) (d:Nat) (dα:Dat α) (zs:List α) (ns:List Nat):St:=⟨σ.n,σ.m+1,(d,.sl σ.m zs.length)::σ.ρ,(σ.m,.own α dα zs)::Qhd ns σ.E⟩
theorem Q80 {α:Type} {dα:Dat α} {t e by':Nat} {x y:Operand} {z u v:Value} {xs ys:List α} {rs ns:List Nat} {θ:List Loc} {a:Act} {w w1:World} {S:Nat→Prop} {Q:Exit→Act→World→Prop} {K:Act→World→Prop} (h:R c θ σ a w) (hh:RH c θ σ.E S w1 w) (hex:a.eval x=u) (hey:a.eval y=v)
    (ho:SlO w u xs (rs.flatMap (locF θ))) (hrs: ∀ n∈rs++ns,ownN σ.E n) (hnd:(rs++ns).Nodup)
    (hti:(TI.sl e (Dat.sz α) by').chk c.P t=true) (hz:c.zr e=some z) (hzs:z.cells.size=Dat.sz α) (hd:Nat.blt d σ.n=true) {news:List Value} {Gs:List (List Nat)} (hs:Src w v ys.length news) (hl:news.length=ys.length*Dat.sz α) (h1: ∀ u∈news,u.oneCell'=true) (hy:Qke w news ys Gs) (hG:Gs.flatten=ns.flatMap (locF θ))
    (hb:(xs.length+ys.length)*by'≤140737488355328) (hm:xs.length+ys.length≤9223372036854775807)
    (hK: ∀ θ' a' w',R c (θ++θ') (Qe6 σ d dα (xs++ys) (rs++ns)) a' w'→K a' w'):Oper.wp c.P ⟨some d,.call { callee:= .builtin .append,args:= #[x,y],argTypes:= #[t,t] },ty,pos,after,none⟩ a w K Q:=by
  simp only[TI.chk,Bool.and_eq_true] at hti
  obtain⟨hnod,_⟩:=hh.nodup hnd hrs
  rw[List.flatMap_append] at hnod
  obtain⟨nd1,nd2,nd3⟩:=List.nodup_append.1 hnod
  obtain⟨v',w',F',hrun,h3,h4,h5,h6,h7,h8,h9,h10⟩:=Qt2 (P:=c.P) (ty:=ty) hti.2 rfl (c.zok e z hz) hzs ho nd1 hs hl h1 hy (by rw[hG];exact nd2) (by rw[hG];exact fun b hb hF=>nd3 b hF b hb rfl) hb (by unfold maxLen;omega)
  unfold Oper.wp
  rw[Yc0 hex hey hrun]
  obtain⟨A,cap,rfl,_⟩:=(h3.rd (B:=Old w') fun b hb=>h3.lt b hb).form
  have hgm:(θ++[(⟨A,cap,F'⟩:Loc)])[σ.m]?=some ⟨A,cap,F'⟩:=by rw[←h.len];exact Qfu
  have hFt : ∀ b, b ∈ (rs ++ ns).flatMap (locF θ) → b ∈ (Qnv (rs ++ ns) σ.E).flatMap (fun e => (e.2.ck (θ ++ [⟨A, cap, F'⟩]) e.1).F) := fun b hb => by
    obtain⟨n,hn,hb⟩:=mem_flatMap.1 hb
    exact Qpj hn (hrs n hn) (by
      obtain⟨⟨α',d',xs'⟩,hp⟩:=hrs n hn
      obtain⟨l2,hl2,_⟩:=hh.own (Ql0 hp)
      rw[Qaj (Qem hl2)]
      rwa [Qaj hl2] at hb)
  rw[List.flatMap_append] at hFt
  have hfuse:=(hh.ext (θ':=[⟨A,cap,F'⟩])).fuse (rs++ns) (p:=(σ.m,En.own α dα (xs++ys))) (w':=w') h5 h6 h7 h8
    (fun b hlt hb=>h9 b hlt fun hF=>hb (hFt b (List.mem_append_left _ hF))) ?_ ?_ ?_ trivial
  · exact hK [⟨A,cap,F'⟩] _ w' ⟨by rw[length_append,h.len];rfl,(h.env.ext (θ':=[⟨A,cap,F'⟩])).put hd (by simp only[V.con,hgm]),S,w1,hfuse⟩
  · intro w2 hw2
    refine⟨_,hgm,h3.same fun b hb=>hw2 b ?_⟩
    show b∈locF _ _
    rw[Qaj hgm]
    exact hb
  · intro b hb
    have hb':b∈locF (θ++[(⟨A,cap,F'⟩:Loc)]) σ.m:=hb
    rw[Qaj hgm] at hb'
    refine⟨?_,h3.lt b hb'⟩
    rcases h10 b hb' with h | h | h
    · exact .inl (hFt b (List.mem_append_left _ h))
    · rw [hG] at h
      exact .inl (hFt b (List.mem_append_right _ h))
    · exact .inr h
  · show (locF _ σ.m).Nodup
    rw[Qaj hgm]
    exact h4
theorem OpS.appS {α:Type} {dα:Dat α} [s:@Str α dα] {t e by':Nat} {x y:Operand} {z:Value} {xs ys:List α} {rs:List Nat} {vx vy:V} (hx:ev σ.ρ x=some vx) (hr:XRow σ.E α dα xs rs vx) (hy:ev σ.ρ y=some vy) (hq:SlOk σ.E α dα ys vy) (hfl:Qqw s.fk=true)
    (ht:c.ti t= .sl e (Dat.sz α) by') (hz:c.zr e=some z) (hzs:z.cells.size=Dat.sz α) (hd:Nat.blt d σ.n=true) (hb:(xs.length+ys.length)*by'≤140737488355328) (hm:xs.length+ys.length≤9223372036854775807):
    OpS c σ all ⟨some d,.call { callee:= .builtin .append,args:= #[x,y],argTypes:= #[t,t] },ty,pos,after,none⟩ (Qe6 σ d dα (xs++ys) rs):=
  OpS.of fun θ a w h K Q hK => by
    obtain⟨S,w1,hh⟩:=h.heap
    have hcx:=h.env.con hx
    have hcy:=h.env.con hy
    obtain⟨ho,hrs⟩:=hh.xrow hr hcx
    obtain⟨news,n1,n2,n3,n4⟩:=(hh.slOk hcy hq).src s hfl
    have hti:=c.tiok t
    rw[ht] at hti
    have hrn:(rs++([]:List Nat)).Nodup:=by
      rw[append_nil]
      cases vx with
      | v=>obtain⟨_,_,rfl⟩:=hr;exact List.nodup_nil
      | sl=>obtain⟨_,_,rfl⟩:=hr;simp
      | pt=>exact hr.elim
      | ag=>exact hr.elim
      | fn=>exact hr.elim
      | tu=>exact hr.elim
      | gd=>exact hr.elim
    refine Q80 (ns:=[]) h hh rfl rfl ho (by rw[append_nil];exact hrs) hrn hti hz hzs hd n1 n2 n3 n4 (by simp) hb hm fun θ' a' w' hR=>?_
    rw[append_nil] at hR
    exact hK θ' a' w' hR
theorem OpS.appN {α:Type} {dα:Dat α} [s:@Str α dα] {t e by' q T:Nat} {x y:Operand} {z:Value} {xs:List α} (y0:α) {rs:List Nat} {vx:V} {cs:List V} (hx:ev σ.ρ x=some vx) (hr:XRow σ.E α dα xs rs vx) (hy:ev σ.ρ y=some (.sl q 1)) (hq:lkE σ.E q=some (.lit cs T 1))
    (ht:c.ti t= .sl e (Dat.sz α) by') (hz:c.zr e=some z) (hzs:z.cells.size=Dat.sz α) (hd:Nat.blt d σ.n=true) (hg:Dat.good y0) (hf:FkO σ.E y0 s.fk cs) (h1:oneL cs=true) (hn:(rs++V.names.namesL cs).Nodup) (hb:(xs.length+1)*by'≤140737488355328) (hm:xs.length+1≤9223372036854775807):
    OpS c σ all ⟨some d,.call { callee:= .builtin .append,args:= #[x,y],argTypes:= #[t,t] },ty,pos,after,none⟩ (Qe6 σ d dα (xs++[y0]) (rs++V.names.namesL cs)):=
  OpS.of fun θ a w h K Q hK => by
    obtain⟨S,w1,hh⟩:=h.heap
    have hcx:=h.env.con hx
    obtain⟨ho,hrs⟩:=hh.xrow hr hcx
    obtain⟨lq,bq,ccs,⟨q1,q1'⟩,q2,q3,q4,q5⟩:=(hh.sh.ok _ (List.mem_map.2 ⟨_,Qe1 hq,rfl⟩)).here
    simp only at q1
    have hcy:=h.env.con hy
    simp only[V.con,q1,Option.some.injEq] at hcy
    have hy0:Dat.own w ccs y0 ((V.names.namesL cs).flatMap (locF θ)):=s.omk (hh.fkO q4 hf (s.gd hg))
    have hlen:ccs.length=Dat.sz α:=Dat.rd_len (Dat.own_rd (B:=fun _=>True) hy0 fun _ _=>trivial)
    have hti:=c.tiok t
    rw[ht] at hti
    have hsrc:Src w (.slice lq.A 1 lq.cap) 1 ccs:=⟨lq.A,lq.cap,rfl,fun j u hj=>⟨_,q2,(Qcf.row q5) j u hj⟩⟩
    have hels : Qke w ccs [y0] [(V.names.namesL cs).flatMap (locF θ)] := ⟨rfl, fun i u hi => by
      cases i with
      | zero =>
        simp at hi
        subst hi
        refine⟨_,rfl,?_⟩
        have:Fw.cut (Dat.sz α) ccs 0=ccs:=by unfold Fw.cut;simp[←hlen]
        rw[this]
        exact hy0
      | succ i=>simp at hi⟩
    have hone: ∀ u∈ccs,u.oneCell'=true:=List.all_eq_true.1 (Qx7 (θ:=θ) h1 q4)
    exact Q80 (ys:=[y0]) h hh rfl hcy.symm ho (fun n hn=>(List.mem_append.1 hn).elim (hrs n) (Qlb hf n)) hn hti hz hzs hd hsrc (by simp[hlen]) hone hels (by simp) hb hm hK
end
end
section
def Fk.pull {σ τ:Type} (f:σ→τ):Fk τ→Fk σ
 | .int g=> .int fun x=>g (f x)
 | .byte g=> .byte fun x=>g (f x)
 | .bool g=> .bool fun x=>g (f x)
 | .str g=> .str fun x=>g (f x)
 | .sl β d g=> .sl β d fun x=>g (f x)
theorem Qnc {σ τ:Type} (f:σ→τ) {S:Nat→Prop} {w:World} {x:σ}: ∀ {fk:List (Fk τ)} {cs:List Value},RdL S w x (fk.map (Fk.pull f)) cs↔RdL S w (f x) fk cs
 | [],_=>Iff.rfl
 | g :: fs, cs => by
  have key: ∀ v,(Fk.pull f g).rd S w x v↔g.rd S w (f x) v:=fun v=>by cases g<;>exact Iff.rfl
  constructor
  ·rintro ⟨v,r,rfl,h1,h2⟩;exact⟨v,r,rfl,(key v).1 h1,(Qnc f).1 h2⟩
  ·rintro ⟨v,r,rfl,h1,h2⟩;exact⟨v,r,rfl,(key v).2 h1,(Qnc f).2 h2⟩
theorem Qnd {σ τ:Type} (f:σ→τ) {w:World} {x:σ}: ∀ {fk:List (Fk τ)} {cs:List Value} {F:List Nat},OwL w x (fk.map (Fk.pull f)) cs F↔OwL w (f x) fk cs F
 | [],_,_=>Iff.rfl
 | g :: fs, cs, F => by
  have key: ∀ v G,(Fk.pull f g).own w x v G↔g.own w (f x) v G:=fun v G=>by cases g<;>exact Iff.rfl
  constructor
  ·rintro ⟨v,r,G,H,rfl,rfl,h1,h2⟩;exact⟨v,r,G,H,rfl,rfl,(key v G).1 h1,(Qnd f).1 h2⟩
  ·rintro ⟨v,r,G,H,rfl,rfl,h1,h2⟩;exact⟨v,r,G,H,rfl,rfl,(key v G).2 h1,(Qnd f).2 h2⟩
theorem Qxu {σ τ:Type} (f:σ→τ) {x:σ}: ∀ {fk:List (Fk τ)},GdL (f x) fk→GdL x (fk.map (Fk.pull f))
 | [],h=>h
 | g::fs,h=>⟨by cases g<;>exact h.1,Qxu f h.2⟩
theorem Q39 {α:Type} {S:Nat→Prop} {w:World} {x:α}: ∀ {f g:List (Fk α)} {cs:List Value},RdL S w x (f++g) cs ↔ ∃ c d,cs=c++d∧RdL S w x f c∧RdL S w x g d
 | [],g,cs=>⟨fun h=>⟨[],cs,rfl,rfl,h⟩,fun⟨c,d,e,h1,h2⟩=>by cases h1;rw[e];exact h2⟩
 | a :: f, g, cs => by
  constructor
  ·rintro ⟨v,r,rfl,h1,h2⟩
   obtain⟨c,d,rfl,h3,h4⟩:=Q39.1 h2
   exact⟨v::c,d,rfl,⟨v,c,rfl,h1,h3⟩,h4⟩
  ·rintro ⟨c,d,rfl,⟨v,r,rfl,h1,h2⟩,h4⟩
   exact⟨v,r++d,rfl,h1,Q39.2 ⟨r,d,rfl,h2,h4⟩⟩
theorem Q4a {α:Type} {w:World} {x:α}: ∀ {f g:List (Fk α)} {cs:List Value} {F:List Nat},OwL w x (f++g) cs F ↔ ∃ c d G H,cs=c++d∧F=G++H∧OwL w x f c G∧OwL w x g d H
 | [],g,cs,F=>⟨fun h=>⟨[],cs,[],F,rfl,rfl,⟨rfl,rfl⟩,h⟩,fun⟨c,d,G,H,e,e2,⟨h1,h1'⟩,h2⟩=>by subst h1;subst h1';rw[e,e2];exact h2⟩
 | a :: f, g, cs, F => by
  constructor
  ·rintro ⟨v,r,G,H,rfl,rfl,h1,h2⟩
   obtain⟨c,d,G',H',rfl,rfl,h3,h4⟩:=Q4a.1 h2
   exact⟨v::c,d,G++G',H',rfl,by rw[append_assoc],⟨v,c,G,G',rfl,rfl,h1,h3⟩,h4⟩
  ·rintro ⟨c,d,G,H,rfl,rfl,⟨v,r,G',H',rfl,rfl,h1,h2⟩,h4⟩
   exact⟨v,r++d,G',H'++H,rfl,by rw[append_assoc],h1,Q4a.2 ⟨r,d,H',H,rfl,rfl,h2,h4⟩⟩
theorem Yc9 {α:Type} {x:α}: ∀ {f g:List (Fk α)},GdL x f→GdL x g→GdL x (f++g)
 | [],_,_,h=>h
 | _::_,_,h,h'=>⟨h.1,Yc9 h.2 h'⟩
instance:Str Bool where
 fk:=[.bool id]
 op h:=⟨_,[],h.1,rfl,rfl⟩
 cl h:=by obtain⟨v,r,rfl,rfl,rfl⟩:=h;exact⟨rfl,trivial⟩
 oop h:=⟨_,[],[],[],h.1.1,by rw[h.2];rfl,⟨rfl,rfl⟩,rfl,rfl⟩
 omk h:=by obtain⟨v,r,G,H,rfl,rfl,⟨rfl,rfl⟩,rfl,rfl⟩:=h;exact⟨⟨rfl,trivial⟩,rfl⟩
 gd h:=⟨trivial,trivial⟩
instance {α β:Type} [Dat α] [Dat β] [Str α] [Str β]:Str (α×β) where
 fk:=(Str.fk (α:=α)).map (Fk.pull Prod.fst)++(Str.fk (α:=β)).map (Fk.pull Prod.snd)
 op h:=by
  obtain⟨c,d,rfl,h1,h2⟩:=h
  exact Q39.2 ⟨c,d,rfl,(Qnc _).2 (Str.op h1),(Qnc _).2 (Str.op h2)⟩
 cl h:=by
  obtain⟨c,d,rfl,h1,h2⟩:=Q39.1 h
  exact⟨c,d,rfl,Str.cl ((Qnc _).1 h1),Str.cl ((Qnc _).1 h2)⟩
 oop h:=by
  obtain⟨c,d,G,H,rfl,rfl,h1,h2⟩:=h
  exact Q4a.2 ⟨c,d,G,H,rfl,rfl,(Qnd _).2 (Str.oop h1),(Qnd _).2 (Str.oop h2)⟩
 omk h:=by
  obtain⟨c,d,G,H,rfl,rfl,h1,h2⟩:=Q4a.1 h
  exact⟨c,d,G,H,rfl,rfl,Str.omk ((Qnd _).1 h1),Str.omk ((Qnd _).1 h2)⟩
 gd h:=Yc9 (Qxu Prod.fst (Str.gd h.1)) (Qxu Prod.snd (Str.gd h.2))
theorem Qkh {σ τ:Type} [d:Dat τ] [s:Str τ] (f:σ→τ) {S:Nat→Prop} {w:World} {cs:List Value} {x:σ} (h:@Dat.rd σ (Dat.pull f) S w cs x):RdL S w x (s.fk.map (Fk.pull f)) cs:=(Qnc f).2 (s.op h)
theorem Qkj {σ τ:Type} [d:Dat τ] [s:Str τ] (f:σ→τ) {S:Nat→Prop} {w:World} {cs:List Value} {x:σ} (h:RdL S w x (s.fk.map (Fk.pull f)) cs):@Dat.rd σ (Dat.pull f) S w cs x:=s.cl ((Qnc f).1 h)
theorem Qiu {σ τ:Type} [d:Dat τ] [s:Str τ] (f:σ→τ) {w:World} {cs:List Value} {x:σ} {F:List Nat} (h:@Dat.own σ (Dat.pull f) w cs x F):OwL w x (s.fk.map (Fk.pull f)) cs F:=(Qnd f).2 (s.oop h)
theorem Qiv {σ τ:Type} [d:Dat τ] [s:Str τ] (f:σ→τ) {w:World} {cs:List Value} {x:σ} {F:List Nat} (h:OwL w x (s.fk.map (Fk.pull f)) cs F):@Dat.own σ (Dat.pull f) w cs x F:=s.omk ((Qnd f).1 h)
theorem Qki {σ τ:Type} [d:Dat τ] [s:Str τ] (f:σ→τ) {x:σ} (h:@Dat.good σ (Dat.pull f) x):GdL x (s.fk.map (Fk.pull f)):=Qxu f (s.gd h)
instance:Str Cell where
 fk:=[.str (fun x=>x.Key),.str (fun x=>x.Val)]
 op h:=Qkh (fun x:Cell=>(x.Key,x.Val)) h
 cl h:=Qkj (fun x:Cell=>(x.Key,x.Val)) h
 oop h:=Qiu (fun x:Cell=>(x.Key,x.Val)) h
 omk h:=Qiv (fun x:Cell=>(x.Key,x.Val)) h
 gd h:=Qki (fun x:Cell=>(x.Key,x.Val)) h
instance:Str Touch where
 fk:=[.sl ByteArray instDatByteArray (fun x=>x.Reads),.sl ByteArray instDatByteArray (fun x=>x.Writes)]
 op h:=Qkh (fun x:Touch=>(x.Reads,x.Writes)) h
 cl h:=Qkj (fun x:Touch=>(x.Reads,x.Writes)) h
 oop h:=Qiu (fun x:Touch=>(x.Reads,x.Writes)) h
 omk h:=Qiv (fun x:Touch=>(x.Reads,x.Writes)) h
 gd h:=Qki (fun x:Touch=>(x.Reads,x.Writes)) h
instance:Str Mach where
 fk:=[.sl Cell instDatCell (fun x=>x.Store),.sl ByteArray instDatByteArray (fun x=>x.Touch.Reads),.sl ByteArray instDatByteArray (fun x=>x.Touch.Writes)]
 op h:=Qkh (fun x:Mach=>(x.Store,x.Touch)) h
 cl h:=Qkj (fun x:Mach=>(x.Store,x.Touch)) h
 oop h:=Qiu (fun x:Mach=>(x.Store,x.Touch)) h
 omk h:=Qiv (fun x:Mach=>(x.Store,x.Touch)) h
 gd h:=Qki (fun x:Mach=>(x.Store,x.Touch)) h
instance:Str Call where
 fk:=[.int (fun x=>x.Kind),.str (fun x=>x.Name),.str (fun x=>x.To),.int (fun x=>x.A),.int (fun x=>x.B),.str (fun x=>x.Text)]
 op h:=Qkh (fun x:Call=>(x.Kind,x.Name,x.To,x.A,x.B,x.Text)) h
 cl h:=Qkj (fun x:Call=>(x.Kind,x.Name,x.To,x.A,x.B,x.Text)) h
 oop h:=Qiu (fun x:Call=>(x.Kind,x.Name,x.To,x.A,x.B,x.Text)) h
 omk h:=Qiv (fun x:Call=>(x.Kind,x.Name,x.To,x.A,x.B,x.Text)) h
 gd h:=Qki (fun x:Call=>(x.Kind,x.Name,x.To,x.A,x.B,x.Text)) h
instance:Str Answer where
 fk:=[.int (fun x=>x.Code),.int (fun x=>x.N),.str (fun x=>x.Text)]
 op h:=Qkh (fun x:Answer=>(x.Code,x.N,x.Text)) h
 cl h:=Qkj (fun x:Answer=>(x.Code,x.N,x.Text)) h
 oop h:=Qiu (fun x:Answer=>(x.Code,x.N,x.Text)) h
 omk h:=Qiv (fun x:Answer=>(x.Code,x.N,x.Text)) h
 gd h:=Qki (fun x:Answer=>(x.Code,x.N,x.Text)) h
instance:Str Step where
 fk:=[.int (fun x=>x.Proc),.int (fun x=>x.Call.Kind),.str (fun x=>x.Call.Name),.str (fun x=>x.Call.To),.int (fun x=>x.Call.A),.int (fun x=>x.Call.B),.str (fun x=>x.Call.Text)]
 op h:=Qkh (fun x:Step=>(x.Proc,x.Call)) h
 cl h:=Qkj (fun x:Step=>(x.Proc,x.Call)) h
 oop h:=Qiu (fun x:Step=>(x.Proc,x.Call)) h
 omk h:=Qiv (fun x:Step=>(x.Proc,x.Call)) h
 gd h:=Qki (fun x:Step=>(x.Proc,x.Call)) h
instance:Str Tx where
 fk:=[.int (fun x=>x.Id),.int (fun x=>x.Age),.int (fun x=>x.Proc),.int (fun x=>x.Began),.sl Call instDatCall (fun x=>x.Calls),.sl Answer instDatAnswer (fun x=>x.Answers),.sl ByteArray instDatByteArray (fun x=>x.Touch.Reads),.sl ByteArray instDatByteArray (fun x=>x.Touch.Writes),.sl Int instDatInt (fun x=>x.Marks),.int (fun x=>x.State)]
 op h:=Qkh (fun x:Tx=>(x.Id,x.Age,x.Proc,x.Began,x.Calls,x.Answers,x.Touch,x.Marks,x.State)) h
 cl h:=Qkj (fun x:Tx=>(x.Id,x.Age,x.Proc,x.Began,x.Calls,x.Answers,x.Touch,x.Marks,x.State)) h
 oop h:=Qiu (fun x:Tx=>(x.Id,x.Age,x.Proc,x.Began,x.Calls,x.Answers,x.Touch,x.Marks,x.State)) h
 omk h:=Qiv (fun x:Tx=>(x.Id,x.Age,x.Proc,x.Began,x.Calls,x.Answers,x.Touch,x.Marks,x.State)) h
 gd h:=Qki (fun x:Tx=>(x.Id,x.Age,x.Proc,x.Began,x.Calls,x.Answers,x.Touch,x.Marks,x.State)) h
instance:Str Journal where
 fk:=[.str (fun x=>x.Text),.int (fun x=>x.Sure)]
 op h:=Qkh (fun x:Journal=>(x.Text,x.Sure)) h
 cl h:=Qkj (fun x:Journal=>(x.Text,x.Sure)) h
 oop h:=Qiu (fun x:Journal=>(x.Text,x.Sure)) h
 omk h:=Qiv (fun x:Journal=>(x.Text,x.Sure)) h
 gd h:=Qki (fun x:Journal=>(x.Text,x.Sure)) h
instance:Str Slot where
 fk:=[.int (fun x=>x.Seq),.sl Cell instDatCell (fun x=>x.Cells),.bool (fun x=>x.Whole)]
 op h:=Qkh (fun x:Slot=>(x.Seq,x.Cells,x.Whole)) h
 cl h:=Qkj (fun x:Slot=>(x.Seq,x.Cells,x.Whole)) h
 oop h:=Qiu (fun x:Slot=>(x.Seq,x.Cells,x.Whole)) h
 omk h:=Qiv (fun x:Slot=>(x.Seq,x.Cells,x.Whole)) h
 gd h:=Qki (fun x:Slot=>(x.Seq,x.Cells,x.Whole)) h
instance:Str Disk where
 fk:=[.sl Slot instDatSlot (fun x=>x.Slots),.str (fun x=>x.Journal.Text),.int (fun x=>x.Journal.Sure)]
 op h:=Qkh (fun x:Disk=>(x.Slots,x.Journal)) h
 cl h:=Qkj (fun x:Disk=>(x.Slots,x.Journal)) h
 oop h:=Qiu (fun x:Disk=>(x.Slots,x.Journal)) h
 omk h:=Qiv (fun x:Disk=>(x.Slots,x.Journal)) h
 gd h:=Qki (fun x:Disk=>(x.Slots,x.Journal)) h
instance:Str Entry where
 fk:=[.int (fun x=>x.Seq),.int (fun x=>x.Kind),.int (fun x=>x.Tx),.sl Step instDatStep (fun x=>x.Steps),.sl Answer instDatAnswer (fun x=>x.Answers),.int (fun x=>x.Began),.int (fun x=>x.Ended),.bool (fun x=>x.Laid)]
 op h:=Qkh (fun x:Entry=>(x.Seq,x.Kind,x.Tx,x.Steps,x.Answers,x.Began,x.Ended,x.Laid)) h
 cl h:=Qkj (fun x:Entry=>(x.Seq,x.Kind,x.Tx,x.Steps,x.Answers,x.Began,x.Ended,x.Laid)) h
 oop h:=Qiu (fun x:Entry=>(x.Seq,x.Kind,x.Tx,x.Steps,x.Answers,x.Began,x.Ended,x.Laid)) h
 omk h:=Qiv (fun x:Entry=>(x.Seq,x.Kind,x.Tx,x.Steps,x.Answers,x.Began,x.Ended,x.Laid)) h
 gd h:=Qki (fun x:Entry=>(x.Seq,x.Kind,x.Tx,x.Steps,x.Answers,x.Began,x.Ended,x.Laid)) h
instance:Str Kernel where
 fk:=[.sl Cell instDatCell (fun x=>x.Store),.sl Tx instDatTx (fun x=>x.Txs),.sl Slot instDatSlot (fun x=>x.Disk.Slots),.str (fun x=>x.Disk.Journal.Text),.int (fun x=>x.Disk.Journal.Sure),.int (fun x=>x.Seq),.int (fun x=>x.Next),.int (fun x=>x.Time),.sl Entry instDatEntry (fun x=>x.History),.sl ByteArray instDatByteArray (fun x=>x.Seen),.bool (fun x=>x.Room)]
 op h:=Qkh (fun x:Kernel=>(x.Store,x.Txs,x.Disk,x.Seq,x.Next,x.Time,x.History,x.Seen,x.Room)) h
 cl h:=Qkj (fun x:Kernel=>(x.Store,x.Txs,x.Disk,x.Seq,x.Next,x.Time,x.History,x.Seen,x.Room)) h
 oop h:=Qiu (fun x:Kernel=>(x.Store,x.Txs,x.Disk,x.Seq,x.Next,x.Time,x.History,x.Seen,x.Room)) h
 omk h:=Qiv (fun x:Kernel=>(x.Store,x.Txs,x.Disk,x.Seq,x.Next,x.Time,x.History,x.Seen,x.Room)) h
 gd h:=Qki (fun x:Kernel=>(x.Store,x.Txs,x.Disk,x.Seq,x.Next,x.Time,x.History,x.Seen,x.Room)) h
instance:Str Deed where
 fk:=[.int (fun x=>x.Kind),.int (fun x=>x.N),.int (fun x=>x.M),.int (fun x=>x.Call.Kind),.str (fun x=>x.Call.Name),.str (fun x=>x.Call.To),.int (fun x=>x.Call.A),.int (fun x=>x.Call.B),.str (fun x=>x.Call.Text)]
 op h:=Qkh (fun x:Deed=>(x.Kind,x.N,x.M,x.Call)) h
 cl h:=Qkj (fun x:Deed=>(x.Kind,x.N,x.M,x.Call)) h
 oop h:=Qiu (fun x:Deed=>(x.Kind,x.N,x.M,x.Call)) h
 omk h:=Qiv (fun x:Deed=>(x.Kind,x.N,x.M,x.Call)) h
 gd h:=Qki (fun x:Deed=>(x.Kind,x.N,x.M,x.Call)) h
end
section
def gl6:List Int:=[1,10,100,1000,10000,100000,1000000,10000000,100000000,1000000000,10000000000,100000000000,1000000000000,10000000000000,100000000000000,1000000000000000,10000000000000000,100000000000000000,1000000000000000000,10000000000000000000]
def gl7:List Int:=[0,1,28,2,29,14,24,3,30,22,20,15,25,17,4,8,31,27,13,23,21,19,16,7,26,12,18,6,11,5,10,9]
def gl8:List Int:=[0,1,56,2,57,49,28,3,61,58,42,50,38,29,17,4,62,47,59,36,45,43,51,22,53,39,33,30,24,18,12,5,63,55,48,27,60,41,37,16,46,35,44,21,52,32,23,11,54,26,40,15,34,20,31,10,25,14,19,9,13,8,7,6]
end
section
def lkT:List (Nat×TI)→Nat→TI
 | [],_=> .no
 | (k,i)::r,t=>bif Nat.beq k t then i else lkT r t
theorem Ye7 {P:Program}: ∀ {l:List (Nat×TI)},(l.all fun p=>p.2.chk P p.1)=true→ ∀ t,(lkT l t).chk P t=true
 | [],_,_=>rfl
 | (k, i) :: r, h, t => by
  simp only[List.all_cons,Bool.and_eq_true] at h
  simp only[lkT]
  cases e:Nat.beq k t with
  | true=>obtain rfl:=Nat.eq_of_beq_eq_true e;exact h.1
  | false=>exact Ye7 h.2 t
def lkZ:List (Nat×Value)→Nat→Option Value
 | [],_=>none
 | (k,i)::r,t=>bif Nat.beq k t then some i else lkZ r t
def ZOk (P:Program):List (Nat×Value)→Prop
 | []=>True
 | p::r=>(∀ w,(zeroValue p.1).run P w= .ok p.2 w)∧ZOk P r
theorem Ye6 {P:Program}: ∀ {l:List (Nat×Value)},ZOk P l→ ∀ t z,lkZ l t=some z→ ∀ w,(zeroValue t).run P w= .ok z w
 | [],_,_,_,h=>by cases h
 | (k, i) :: r, h, t, z, hz => by
  simp only[lkZ] at hz
  cases e:Nat.beq k t with
  | true=>obtain rfl:=Nat.eq_of_beq_eq_true e;rw[e] at hz;cases hz;exact h.1
  | false=>rw[e] at hz;exact Ye6 h.2 t z hz
def tiL:List (Nat×TI):=[(1,.one),(2,.int .i64),(3,.int .i64),(4,.bool),(5,.int .u8),(6,.int .u8),(7,.st 4 [(0,1),(1,1),(2,1),(3,1)]),(8,.st 4 [(0,1),(1,1),(2,1),(3,1)]),(9,.str),(10,.str),(11,.str),(16,.one),(21,.int .i32),(22,.sl 92 2 32),(23,.sl 99 10 160),(24,.sl 168 3 40),(26,.st 2 [(0,1),(1,1)]),(28,.st 3 [(0,1),(1,2)]),(29,.sl 105 8 96),(30,.sl 9 1 16),(32,.st 11 [(0,1),(1,1),(2,3),(5,1),(6,1),(7,1),(8,1),(9,1),(10,1)]),(35,.sl 114 2 32),(36,.sl 119 10 160),(37,.sl 108 3 40),(38,.st 2 [(0,1),(1,1)]),(40,.st 3 [(0,1),(1,2)]),(41,.sl 80 8 96),(43,.st 11 [(0,1),(1,1),(2,3),(5,1),(6,1),(7,1),(8,1),(9,1),(10,1)]),(64,.one),(65,.one),(77,.sl 151 7 80),(78,.sl 154 3 32),(80,.st 8 [(0,1),(1,1),(2,1),(3,1),(4,1),(5,1),(6,1),(7,1)]),(84,.one),(87,.sl 3 1 8),(92,.st 2 [(0,1),(1,1)]),(94,.sl 205 6 72),(95,.sl 207 3 32),(97,.st 2 [(0,1),(1,1)]),(99,.st 10 [(0,1),(1,1),(2,1),(3,1),(4,1),(5,1),(6,2),(8,1),(9,1)]),(103,.sl 210 7 80),(105,.st 8 [(0,1),(1,1),(2,1),(3,1),(4,1),(5,1),(6,1),(7,1)]),(108,.st 3 [(0,1),(1,1),(2,1)]),(110,.sl 35 1 24),(114,.st 2 [(0,1),(1,1)]),(116,.sl 149 6 72),(117,.st 2 [(0,1),(1,1)]),(119,.st 10 [(0,1),(1,1),(2,1),(3,1),(4,1),(5,1),(6,2),(8,1),(9,1)]),(127,.one),(144,.sl 5 1 1),(146,.one),(149,.st 6 [(0,1),(1,1),(2,1),(3,1),(4,1),(5,1)]),(151,.st 7 [(0,1),(1,6)]),(154,.st 3 [(0,1),(1,1),(2,1)]),(160,.one),(168,.st 3 [(0,1),(1,1),(2,1)]),(182,.one),(184,.one),(190,.one),(205,.st 6 [(0,1),(1,1),(2,1),(3,1),(4,1),(5,1)]),(207,.st 3 [(0,1),(1,1),(2,1)]),(210,.st 7 [(0,1),(1,6)]),(216,.one),(217,.one),(238,.one),(240,.st 2 [(0,1),(1,1)]),(253,.one),(255,.int .u8),(256,.int .u64),(260,.int .i64),(263,.one),(269,.int .u64),(277,.st 2 [(0,1),(1,1)]),(282,.st 3 [(0,1),(1,1),(2,1)]),(284,.int .u32),(293,.one),(295,.st 1 [(0,1)])]
def ti (t:Nat):TI:=lkT tiL t
theorem tiok: ∀ t,(ti t).chk Tryz.prog t=true:=Ye7 (by kernel_rfl)
def zrL:List (Nat×Value):=[(1,Value.nilFunc),(2,Value.int i64 0),(3,Value.int i64 0),(4,Value.bool false),(5,Value.int IntKind.u8 0),(6,Value.int IntKind.u8 0),(7,Value.agg #[Value.int i64 0,Value.int i64 0,Value.bool false,Value.int IntKind.u8 0]),(8,Value.agg #[Value.int i64 0,Value.int i64 0,Value.bool false,Value.int IntKind.u8 0]),(9,Value.string { data:= #[] }),(10,Value.string { data:= #[] }),(11,Value.string { data:= #[] }),(16,Value.pointer none),(21,Value.int IntKind.i32 0),(22,Value.slice none 0 0),(23,Value.slice none 0 0),(24,Value.slice none 0 0),(26,Value.agg #[Value.string { data:= #[] },Value.int i64 0]),(28,Value.agg #[Value.slice none 0 0,Value.string { data:= #[] },Value.int i64 0]),(29,Value.slice none 0 0),(30,Value.slice none 0 0),(32,Value.agg #[Value.slice none 0 0,Value.slice none 0 0,Value.slice none 0 0,Value.string { data:= #[] },Value.int i64 0,Value.int i64 0,Value.int i64 0,Value.int i64 0,Value.slice none 0 0,Value.slice none 0 0,Value.bool false]),(35,Value.slice none 0 0),(36,Value.slice none 0 0),(37,Value.slice none 0 0),(38,Value.agg #[Value.string { data:= #[] },Value.int i64 0]),(40,Value.agg #[Value.slice none 0 0,Value.string { data:= #[] },Value.int i64 0]),(41,Value.slice none 0 0),(43,Value.agg #[Value.slice none 0 0,Value.slice none 0 0,Value.slice none 0 0,Value.string { data:= #[] },Value.int i64 0,Value.int i64 0,Value.int i64 0,Value.int i64 0,Value.slice none 0 0,Value.slice none 0 0,Value.bool false]),(64,Value.nilFunc),(65,Value.nilFunc),(77,Value.slice none 0 0),(78,Value.slice none 0 0),(80,Value.agg #[Value.int i64 0,Value.int i64 0,Value.int i64 0,Value.slice none 0 0,Value.slice none 0 0,Value.int i64 0,Value.int i64 0,Value.bool false]),(84,Value.nilFunc),(87,Value.slice none 0 0),(92,Value.agg #[Value.string { data:= #[] },Value.string { data:= #[] }]),(94,Value.slice none 0 0),(95,Value.slice none 0 0),(97,Value.agg #[Value.slice none 0 0,Value.slice none 0 0]),(99,Value.agg #[Value.int i64 0,Value.int i64 0,Value.int i64 0,Value.int i64 0,Value.slice none 0 0,Value.slice none 0 0,Value.slice none 0 0,Value.slice none 0 0,Value.slice none 0 0,Value.int i64 0]),(103,Value.slice none 0 0),(105,Value.agg #[Value.int i64 0,Value.int i64 0,Value.int i64 0,Value.slice none 0 0,Value.slice none 0 0,Value.int i64 0,Value.int i64 0,Value.bool false]),(108,Value.agg #[Value.int i64 0,Value.slice none 0 0,Value.bool false]),(110,Value.slice none 0 0),(114,Value.agg #[Value.string { data:= #[] },Value.string { data:= #[] }]),(116,Value.slice none 0 0),(117,Value.agg #[Value.slice none 0 0,Value.slice none 0 0]),(119,Value.agg #[Value.int i64 0,Value.int i64 0,Value.int i64 0,Value.int i64 0,Value.slice none 0 0,Value.slice none 0 0,Value.slice none 0 0,Value.slice none 0 0,Value.slice none 0 0,Value.int i64 0]),(127,Value.nilFunc),(144,Value.slice none 0 0),(146,Value.nilFunc),(149,Value.agg #[Value.int i64 0,Value.string { data:= #[] },Value.string { data:= #[] },Value.int i64 0,Value.int i64 0,Value.string { data:= #[] }]),(151,Value.agg #[Value.int i64 0,Value.int i64 0,Value.string { data:= #[] },Value.string { data:= #[] },Value.int i64 0,Value.int i64 0,Value.string { data:= #[] }]),(154,Value.agg #[Value.int i64 0,Value.int i64 0,Value.string { data:= #[] }]),(160,Value.nilFunc),(168,Value.agg #[Value.int i64 0,Value.slice none 0 0,Value.bool false]),(182,Value.nilFunc),(184,Value.nilFunc),(190,Value.nilFunc),(205,Value.agg #[Value.int i64 0,Value.string { data:= #[] },Value.string { data:= #[] },Value.int i64 0,Value.int i64 0,Value.string { data:= #[] }]),(207,Value.agg #[Value.int i64 0,Value.int i64 0,Value.string { data:= #[] }]),(210,Value.agg #[Value.int i64 0,Value.int i64 0,Value.string { data:= #[] },Value.string { data:= #[] },Value.int i64 0,Value.int i64 0,Value.string { data:= #[] }]),(216,Value.nilFunc),(217,Value.nilFunc),(238,Value.pointer none),(240,Value.agg #[Value.pointer none,Value.slice none 0 0]),(253,Value.pointer none),(255,Value.int IntKind.u8 0),(256,Value.int IntKind.u64 0),(260,Value.int i64 0),(263,Value.pointer none),(269,Value.int IntKind.u64 0),(277,Value.agg #[Value.int IntKind.u8 0,Value.int IntKind.u8 0]),(284,Value.int IntKind.u32 0),(293,Value.pointer none),(295,Value.agg #[Value.string { data:= #[] }])]
def zr (t:Nat):Option Value:=lkZ zrL t
theorem zok: ∀ t z,zr t=some z→ ∀ w,(zeroValue t).run Tryz.prog w= .ok z w:=Ye6 ⟨Tryz.zeroValue1,Tryz.zeroValue2,Tryz.zeroValue3,Tryz.zeroValue4,Tryz.zeroValue5,Tryz.zeroValue6,Tryz.zeroValue7,Tryz.zeroValue8,Tryz.zeroValue9,Tryz.zeroValue10,Tryz.zeroValue11,Tryz.zeroValue16,Tryz.zeroValue21,Tryz.zeroValue22,Tryz.zeroValue23,Tryz.zeroValue24,Tryz.zeroValue26,Tryz.zeroValue28,Tryz.zeroValue29,Tryz.zeroValue30,Tryz.zeroValue32,Tryz.zeroValue35,Tryz.zeroValue36,Tryz.zeroValue37,Tryz.zeroValue38,Tryz.zeroValue40,Tryz.zeroValue41,Tryz.zeroValue43,Tryz.zeroValue64,Tryz.zeroValue65,Tryz.zeroValue77,Tryz.zeroValue78,Tryz.zeroValue80,Tryz.zeroValue84,Tryz.zeroValue87,Tryz.zeroValue92,Tryz.zeroValue94,Tryz.zeroValue95,Tryz.zeroValue97,Tryz.zeroValue99,Tryz.zeroValue103,Tryz.zeroValue105,Tryz.zeroValue108,Tryz.zeroValue110,Tryz.zeroValue114,Tryz.zeroValue116,Tryz.zeroValue117,Tryz.zeroValue119,Tryz.zeroValue127,Tryz.zeroValue144,Tryz.zeroValue146,Tryz.zeroValue149,Tryz.zeroValue151,Tryz.zeroValue154,Tryz.zeroValue160,Tryz.zeroValue168,Tryz.zeroValue182,Tryz.zeroValue184,Tryz.zeroValue190,Tryz.zeroValue205,Tryz.zeroValue207,Tryz.zeroValue210,Tryz.zeroValue216,Tryz.zeroValue217,Tryz.zeroValue238,Tryz.zeroValue240,Tryz.zeroValue253,Tryz.zeroValue255,Tryz.zeroValue256,Tryz.zeroValue260,Tryz.zeroValue263,Tryz.zeroValue269,Tryz.zeroValue277,Tryz.zeroValue284,Tryz.zeroValue293,Tryz.zeroValue295,trivial⟩
theorem ti_1:ti 1= .one:=rfl
theorem ti_2:ti 2= .int .i64:=rfl
theorem ti_3:ti 3= .int .i64:=rfl
theorem ti_4:ti 4= .bool:=rfl
theorem ti_5:ti 5= .int .u8:=rfl
theorem ti_6:ti 6= .int .u8:=rfl
theorem ti_7:ti 7= .st 4 [(0,1),(1,1),(2,1),(3,1)]:=rfl
theorem ti_8:ti 8= .st 4 [(0,1),(1,1),(2,1),(3,1)]:=rfl
theorem ti_9:ti 9= .str:=rfl
theorem Q5k:ti 10= .str:=rfl
theorem Q5j:ti 11= .str:=rfl
theorem Q5i:ti 16= .one:=rfl
theorem Q5h:ti 21= .int .i32:=rfl
theorem Q5g:ti 22= .sl 92 2 32:=rfl
theorem Q5f:ti 23= .sl 99 10 160:=rfl
theorem Q5e:ti 24= .sl 168 3 40:=rfl
theorem Q5d:ti 26= .st 2 [(0,1),(1,1)]:=rfl
theorem Q5c:ti 28= .st 3 [(0,1),(1,2)]:=rfl
theorem Q5b:ti 29= .sl 105 8 96:=rfl
theorem Q5a:ti 30= .sl 9 1 16:=rfl
theorem Q49:ti 32= .st 11 [(0,1),(1,1),(2,3),(5,1),(6,1),(7,1),(8,1),(9,1),(10,1)]:=rfl
theorem Q48:ti 35= .sl 114 2 32:=rfl
theorem Q47:ti 36= .sl 119 10 160:=rfl
theorem Q46:ti 37= .sl 108 3 40:=rfl
theorem Q45:ti 38= .st 2 [(0,1),(1,1)]:=rfl
theorem Q44:ti 40= .st 3 [(0,1),(1,2)]:=rfl
theorem Q43:ti 41= .sl 80 8 96:=rfl
theorem Q42:ti 43= .st 11 [(0,1),(1,1),(2,3),(5,1),(6,1),(7,1),(8,1),(9,1),(10,1)]:=rfl
theorem Q41:ti 64= .one:=rfl
theorem Q40:ti 65= .one:=rfl
theorem Q4z:ti 77= .sl 151 7 80:=rfl
theorem Q4y:ti 78= .sl 154 3 32:=rfl
theorem Q4x:ti 80= .st 8 [(0,1),(1,1),(2,1),(3,1),(4,1),(5,1),(6,1),(7,1)]:=rfl
theorem Q4w:ti 84= .one:=rfl
theorem Q4v:ti 87= .sl 3 1 8:=rfl
theorem Q4u:ti 92= .st 2 [(0,1),(1,1)]:=rfl
theorem Q4t:ti 94= .sl 205 6 72:=rfl
theorem Q4s:ti 95= .sl 207 3 32:=rfl
theorem Q4r:ti 97= .st 2 [(0,1),(1,1)]:=rfl
theorem Q4q:ti 99= .st 10 [(0,1),(1,1),(2,1),(3,1),(4,1),(5,1),(6,2),(8,1),(9,1)]:=rfl
theorem Qv8:ti 103= .sl 210 7 80:=rfl
theorem Qv7:ti 105= .st 8 [(0,1),(1,1),(2,1),(3,1),(4,1),(5,1),(6,1),(7,1)]:=rfl
theorem Qv6:ti 108= .st 3 [(0,1),(1,1),(2,1)]:=rfl
theorem Qv5:ti 110= .sl 35 1 24:=rfl
theorem Qv4:ti 114= .st 2 [(0,1),(1,1)]:=rfl
theorem Qv3:ti 116= .sl 149 6 72:=rfl
theorem Qsd:ti 117= .st 2 [(0,1),(1,1)]:=rfl
theorem Qv2:ti 119= .st 10 [(0,1),(1,1),(2,1),(3,1),(4,1),(5,1),(6,2),(8,1),(9,1)]:=rfl
theorem Qv1:ti 127= .one:=rfl
theorem Qv0:ti 144= .sl 5 1 1:=rfl
theorem Qvz:ti 146= .one:=rfl
theorem Qvy:ti 149= .st 6 [(0,1),(1,1),(2,1),(3,1),(4,1),(5,1)]:=rfl
theorem Qvx:ti 151= .st 7 [(0,1),(1,6)]:=rfl
theorem Qvw:ti 154= .st 3 [(0,1),(1,1),(2,1)]:=rfl
theorem Qvv:ti 160= .one:=rfl
theorem Qvu:ti 168= .st 3 [(0,1),(1,1),(2,1)]:=rfl
theorem Qvt:ti 182= .one:=rfl
theorem Qvs:ti 184= .one:=rfl
theorem Qvr:ti 190= .one:=rfl
theorem Qvq:ti 205= .st 6 [(0,1),(1,1),(2,1),(3,1),(4,1),(5,1)]:=rfl
theorem Qvp:ti 207= .st 3 [(0,1),(1,1),(2,1)]:=rfl
theorem Qvo:ti 210= .st 7 [(0,1),(1,6)]:=rfl
theorem Qvn:ti 216= .one:=rfl
theorem Qvm:ti 217= .one:=rfl
theorem Qvl:ti 238= .one:=rfl
theorem Qvk:ti 240= .st 2 [(0,1),(1,1)]:=rfl
theorem Qvj:ti 253= .one:=rfl
theorem Qvi:ti 255= .int .u8:=rfl
theorem Qvh:ti 256= .int .u64:=rfl
theorem Qvg:ti 260= .int .i64:=rfl
theorem Qvf:ti 263= .one:=rfl
theorem Qve:ti 269= .int .u64:=rfl
theorem Qvd:ti 277= .st 2 [(0,1),(1,1)]:=rfl
theorem Qvc:ti 282= .st 3 [(0,1),(1,1),(2,1)]:=rfl
theorem Qvb:ti 284= .int .u32:=rfl
theorem Qva:ti 293= .one:=rfl
theorem Qu9:ti 295= .st 1 [(0,1)]:=rfl
theorem zr_1:zr 1=some (Value.nilFunc):=rfl
theorem zr_2:zr 2=some (Value.int i64 0):=rfl
theorem zr_3:zr 3=some (Value.int i64 0):=rfl
theorem zr_4:zr 4=some (Value.bool false):=rfl
theorem zr_5:zr 5=some (Value.int IntKind.u8 0):=rfl
theorem zr_6:zr 6=some (Value.int IntKind.u8 0):=rfl
theorem zr_7:zr 7=some (Value.agg #[Value.int i64 0,Value.int i64 0,Value.bool false,Value.int IntKind.u8 0]):=rfl
theorem zr_8:zr 8=some (Value.agg #[Value.int i64 0,Value.int i64 0,Value.bool false,Value.int IntKind.u8 0]):=rfl
theorem zr_9:zr 9=some (Value.string { data:= #[] }):=rfl
theorem Q91:zr 10=some (Value.string { data:= #[] }):=rfl
theorem Q90:zr 11=some (Value.string { data:= #[] }):=rfl
theorem Q9z:zr 16=some (Value.pointer none):=rfl
theorem Q9y:zr 21=some (Value.int IntKind.i32 0):=rfl
theorem Q9x:zr 22=some (Value.slice none 0 0):=rfl
theorem Q9w:zr 23=some (Value.slice none 0 0):=rfl
theorem Q9v:zr 24=some (Value.slice none 0 0):=rfl
theorem Q9u:zr 26=some (Value.agg #[Value.string { data:= #[] },Value.int i64 0]):=rfl
theorem Q9t:zr 28=some (Value.agg #[Value.slice none 0 0,Value.string { data:= #[] },Value.int i64 0]):=rfl
theorem Q9s:zr 29=some (Value.slice none 0 0):=rfl
theorem Q9r:zr 30=some (Value.slice none 0 0):=rfl
theorem Q9q:zr 32=some (Value.agg #[Value.slice none 0 0,Value.slice none 0 0,Value.slice none 0 0,Value.string { data:= #[] },Value.int i64 0,Value.int i64 0,Value.int i64 0,Value.int i64 0,Value.slice none 0 0,Value.slice none 0 0,Value.bool false]):=rfl
theorem Q9p:zr 35=some (Value.slice none 0 0):=rfl
theorem Q9o:zr 36=some (Value.slice none 0 0):=rfl
theorem Q9n:zr 37=some (Value.slice none 0 0):=rfl
theorem Q9m:zr 38=some (Value.agg #[Value.string { data:= #[] },Value.int i64 0]):=rfl
theorem Q9l:zr 40=some (Value.agg #[Value.slice none 0 0,Value.string { data:= #[] },Value.int i64 0]):=rfl
theorem Q9k:zr 41=some (Value.slice none 0 0):=rfl
theorem Q9j:zr 43=some (Value.agg #[Value.slice none 0 0,Value.slice none 0 0,Value.slice none 0 0,Value.string { data:= #[] },Value.int i64 0,Value.int i64 0,Value.int i64 0,Value.int i64 0,Value.slice none 0 0,Value.slice none 0 0,Value.bool false]):=rfl
theorem Q9i:zr 64=some (Value.nilFunc):=rfl
theorem Q9h:zr 65=some (Value.nilFunc):=rfl
theorem Q9g:zr 77=some (Value.slice none 0 0):=rfl
theorem Q9f:zr 78=some (Value.slice none 0 0):=rfl
theorem Q9e:zr 80=some (Value.agg #[Value.int i64 0,Value.int i64 0,Value.int i64 0,Value.slice none 0 0,Value.slice none 0 0,Value.int i64 0,Value.int i64 0,Value.bool false]):=rfl
theorem Q9d:zr 84=some (Value.nilFunc):=rfl
theorem Q9c:zr 87=some (Value.slice none 0 0):=rfl
theorem Q9b:zr 92=some (Value.agg #[Value.string { data:= #[] },Value.string { data:= #[] }]):=rfl
theorem Q9a:zr 94=some (Value.slice none 0 0):=rfl
theorem Q89:zr 95=some (Value.slice none 0 0):=rfl
theorem Q88:zr 97=some (Value.agg #[Value.slice none 0 0,Value.slice none 0 0]):=rfl
theorem Q87:zr 99=some (Value.agg #[Value.int i64 0,Value.int i64 0,Value.int i64 0,Value.int i64 0,Value.slice none 0 0,Value.slice none 0 0,Value.slice none 0 0,Value.slice none 0 0,Value.slice none 0 0,Value.int i64 0]):=rfl
theorem Q18:zr 103=some (Value.slice none 0 0):=rfl
theorem Q17:zr 105=some (Value.agg #[Value.int i64 0,Value.int i64 0,Value.int i64 0,Value.slice none 0 0,Value.slice none 0 0,Value.int i64 0,Value.int i64 0,Value.bool false]):=rfl
theorem Q16:zr 108=some (Value.agg #[Value.int i64 0,Value.slice none 0 0,Value.bool false]):=rfl
theorem Q15:zr 110=some (Value.slice none 0 0):=rfl
theorem Q14:zr 114=some (Value.agg #[Value.string { data:= #[] },Value.string { data:= #[] }]):=rfl
theorem Q13:zr 116=some (Value.slice none 0 0):=rfl
theorem Q12:zr 117=some (Value.agg #[Value.slice none 0 0,Value.slice none 0 0]):=rfl
theorem Q11:zr 119=some (Value.agg #[Value.int i64 0,Value.int i64 0,Value.int i64 0,Value.int i64 0,Value.slice none 0 0,Value.slice none 0 0,Value.slice none 0 0,Value.slice none 0 0,Value.slice none 0 0,Value.int i64 0]):=rfl
theorem Q10:zr 127=some (Value.nilFunc):=rfl
theorem Q1z:zr 144=some (Value.slice none 0 0):=rfl
theorem Q1y:zr 146=some (Value.nilFunc):=rfl
theorem Q1x:zr 149=some (Value.agg #[Value.int i64 0,Value.string { data:= #[] },Value.string { data:= #[] },Value.int i64 0,Value.int i64 0,Value.string { data:= #[] }]):=rfl
theorem Q1w:zr 151=some (Value.agg #[Value.int i64 0,Value.int i64 0,Value.string { data:= #[] },Value.string { data:= #[] },Value.int i64 0,Value.int i64 0,Value.string { data:= #[] }]):=rfl
theorem Q1v:zr 154=some (Value.agg #[Value.int i64 0,Value.int i64 0,Value.string { data:= #[] }]):=rfl
theorem Q1u:zr 160=some (Value.nilFunc):=rfl
theorem Q1t:zr 168=some (Value.agg #[Value.int i64 0,Value.slice none 0 0,Value.bool false]):=rfl
theorem Q1s:zr 182=some (Value.nilFunc):=rfl
theorem Q1r:zr 184=some (Value.nilFunc):=rfl
theorem Q1q:zr 190=some (Value.nilFunc):=rfl
theorem Q1p:zr 205=some (Value.agg #[Value.int i64 0,Value.string { data:= #[] },Value.string { data:= #[] },Value.int i64 0,Value.int i64 0,Value.string { data:= #[] }]):=rfl
theorem Q1o:zr 207=some (Value.agg #[Value.int i64 0,Value.int i64 0,Value.string { data:= #[] }]):=rfl
theorem Q1n:zr 210=some (Value.agg #[Value.int i64 0,Value.int i64 0,Value.string { data:= #[] },Value.string { data:= #[] },Value.int i64 0,Value.int i64 0,Value.string { data:= #[] }]):=rfl
theorem Q1m:zr 216=some (Value.nilFunc):=rfl
theorem Q1l:zr 217=some (Value.nilFunc):=rfl
theorem Q1k:zr 238=some (Value.pointer none):=rfl
theorem Q1j:zr 240=some (Value.agg #[Value.pointer none,Value.slice none 0 0]):=rfl
theorem Q1i:zr 253=some (Value.pointer none):=rfl
theorem Q1h:zr 255=some (Value.int IntKind.u8 0):=rfl
theorem Q1g:zr 256=some (Value.int IntKind.u64 0):=rfl
theorem Q1f:zr 260=some (Value.int i64 0):=rfl
theorem Q1e:zr 263=some (Value.pointer none):=rfl
theorem Q1d:zr 269=some (Value.int IntKind.u64 0):=rfl
theorem Q1c:zr 277=some (Value.agg #[Value.int IntKind.u8 0,Value.int IntKind.u8 0]):=rfl
theorem Q1b:zr 284=some (Value.int IntKind.u32 0):=rfl
theorem Q1a:zr 293=some (Value.pointer none):=rfl
theorem Q09:zr 295=some (Value.agg #[Value.string { data:= #[] }]):=rfl
def Gw (w:World):Prop:=GV 6 (gl6.map (Value.int .u64)) w∧GE 0 w∧GE 4 w∧GE 5 w
theorem GV.keep {g:Nat} {cs:List Value} {w w':World} (h:GV g cs w) (hk:Keep (Old w) w w'):GV g cs w':=by
 have hl:=h.lt
 obtain⟨T,fr,h⟩:=h
 exact⟨T,fr,(hk.block g hl).trans h⟩
theorem Yl0: ∀ w w',Gw w→Keep (Old w) w w'→Gw w':=fun _ _ h hk=>⟨h.1.keep hk,h.2.1.keep hk,h.2.2.1.keep hk,h.2.2.2.keep hk⟩
def gls:List Nat:=[6,0,4,5]
theorem Gin (w : World) (h : Gw w) : ∀ g ∈ gls, Old w g := fun g hg => by
 simp only[gls,List.mem_cons,List.not_mem_nil,or_false] at hg
 rcases hg with rfl | rfl | rfl | rfl
 ·exact h.1.lt
 ·exact h.2.1.lt
 ·exact h.2.2.1.lt
 ·exact h.2.2.2.lt
theorem Gl6: ∀ w,Gw w→GV 6 (gl6.map (Value.int .u64)) w:=fun _ h=>h.1
theorem Gl0: ∀ w,Gw w→GE 0 w:=fun _ h=>h.2.1
theorem Gl4: ∀ w,Gw w→GE 4 w:=fun _ h=>h.2.2.1
theorem Gl5: ∀ w,Gw w→GE 5 w:=fun _ h=>h.2.2.2
theorem Ydk:SysOk Tryz.prog ti zr Gw:=⟨tiok,zok,Yl0⟩
theorem mixed:Tryz.prog.follows .mixedOrders=true:=by kernel_rfl
structure Bs where
 S0:Nat→Prop
 w:World
 gok: ∀ w',Keep S0 w w'→Gw w'
 base: ∀ b,S0 b→b<w.heap.size
 gin: ∀ g∈gls,S0 g
 Q:(World→Value→Prop)→World→Value→Prop
@[reducible] def Bs.old (w:World) (hG:Gw w):Bs:=⟨Old w,w,fun w' hk=>Yl0 w w' hG hk,fun _ h=>h,Gin w hG,fun R=>R⟩
@[reducible] def Bs.mut (S:Nat→Prop) (w:World) (hG: ∀ w',Keep S w w'→Gw w') (hb: ∀ b,S b→b<w.heap.size) (hg: ∀ g∈gls,S g) (p:Nat→Loc) (mk:Nat) (E1:List (Nat×En)) (nn:Nat) (r:List V) (G0:Prop):Bs:=⟨S,w,hG,hb,hg,fun _=>MQ S w p mk E1 nn r G0⟩
@[reducible] noncomputable def cx (fn:Func) (Bz:Bs) (S1:Nat→Prop) (w1:World) (hk1:Keep Bz.S0 Bz.w w1) (hs1: ∀ b,Bz.S0 b→S1 b) (hd1: ∀ b,S1 b→b<w1.heap.size):Cx:=⟨Tryz.prog,fn,ti,zr,Gw,S1,w1,tiok,zok,fun w' hk=>Bz.gok w' (hk1.trans (hk.mono hs1)),hd1,Bz.Q⟩
abbrev CTEs (f:FuncId) (args:List Arg) (res:Value→List Re) (ok:Bool):Prop:=CTE Tryz.prog Gw f args res ok
abbrev CTMs (f:FuncId) (mk m0:Nat) (E0 F0:List (Nat×En)) (args:List V) (E1:List (Nat×En)) (nn:Nat) (r:List V) (G0:Prop):Prop:=CTM Tryz.prog Gw gls f mk m0 E0 F0 args E1 nn r G0
abbrev CTs (f:FuncId) (args:List Arg) (res:List Re):Prop:=CT Tryz.prog Gw f args res
theorem om {p:Prop} (h:p:=by first | omega | (simp only[Bool.not_eq_eq_eq_not,Bool.not_true,Bool.not_false,decide_eq_true_eq,decide_eq_false_iff_not,Bool.not_eq_true',Bool.not_eq_false',Bool.or_eq_false_iff,Bool.or_eq_true,Bool.and_eq_true,Decidable.not_not] at *;omega) | ((repeat rw[IntWalk.i64_in _ (by omega)]);omega)):p:=h
theorem lv0 {p:Prop} (h:p:=by first | exact⟨by omega,by simp⟩ | omega | simp | (dsimp only;omega)):p:=h
theorem lv1 {p:Prop} (h:p:=by show _ - _<_ - _;(try dsimp only);omega):p:=h
theorem lv2 {p:Prop} (h:p:=by first | assumption | omega | exact om):p:=h
theorem lv5 {p:Prop} (h:p:=by first | assumption | exact om):p:=h
theorem lv3 {p:Prop} (h:p:=by first | assumption | (unfold I64;omega)):p:=h
section
variable {fn:Func} {Bz:Bs} {S1:Nat→Prop} {w1:World} {hk1:Keep Bz.S0 Bz.w w1} {hs1: ∀ b,Bz.S0 b→S1 b} {hd1: ∀ b,S1 b→b<w1.heap.size} {res:List Re} {σ σ':St} {k k':List It}
theorem Dq1.{u} {α:Sort u} {a b:α} (h:a=b:=by dsimp only[ncV,szA,cvV,rnR,rnE,V.rn,rnL,En.rn,Qhd,memN,Qdm,an,stK,cdK,opK,gdK,nvK,Qq6,Qqy,blK,bsK,stW,stV,ptK,litD,litC,pkV,wrV,binV,unV,ldV,faW,faV,agO,blV,exV,mfV,lenV,caV,Qz5,Qyp,stO',sdV,Qa9,grdO,gBV,gPw,gPk,gGo,gK,gK1,gK2,tkK,tk1,rvsV,rvV,Nat.reduceAdd,Nat.reduceSub,Nat.reduceMul,advN,adv1,stO,litV,Qul,Qoz,pv,ev,evs,lk,lkE,setE,putE,put,cond,ldC,ldE,nthN,tuAt,bin,bi,bs,bb,ikq,TI.cells,V.cells,V.one,oneL,Qrl,grd,nthO,beqB,gB,wnt,gOp,adG,adG1,Qx5,Qf8,evG,V.side,V.strip,Qcp,Qdt,Qey,Qdl,Qkk,Qgg,Qh1,Qka,Qpg,Qld,Qnr,ini,Qm2,opn,nsl,adD,Ql6,Str.fk,ti_1,ti_2,ti_3,ti_4,ti_5,ti_6,ti_7,ti_8,ti_9,Q5k,Q5j,Q5i,Q5h,Q5g,Q5f,Q5e,Q5d,Q5c,Q5b,Q5a,Q49,Q48,Q47,Q46,Q45,Q44,Q43,Q42,Q41,Q40,Q4z,Q4y,Q4x,Q4w,Q4v,Q4u,Q4t,Q4s,Q4r,Q4q,Qv8,Qv7,Qv6,Qv5,Qv4,Qv3,Qsd,Qv2,Qv1,Qv0,Qvz,Qvy,Qvx,Qvw,Qvv,Qvu,Qvt,Qvs,Qvr,Qvq,Qvp,Qvo,Qvn,Qvm,Qvl,Qvk,Qvj,Qvi,Qvh,Qvg,Qvf,Qve,Qvd,Qvc,Qvb,Qva,Qu9,zr_1,zr_2,zr_3,zr_4,zr_5,zr_6,zr_7,zr_8,zr_9,Q91,Q90,Q9z,Q9y,Q9x,Q9w,Q9v,Q9u,Q9t,Q9s,Q9r,Q9q,Q9p,Q9o,Q9n,Q9m,Q9l,Q9k,Q9j,Q9i,Q9h,Q9g,Q9f,Q9e,Q9d,Q9c,Q9b,Q9a,Q89,Q88,Q87,Q18,Q17,Q16,Q15,Q14,Q13,Q12,Q11,Q10,Q1z,Q1y,Q1x,Q1w,Q1v,Q1u,Q1t,Q1s,Q1r,Q1q,Q1p,Q1o,Q1n,Q1m,Q1l,Q1k,Q1j,Q1i,Q1h,Q1g,Q1f,Q1e,Q1d,Q1c,Q1b,Q1a,Q09,Nat.blt,Nat.succ_eq_add_one,Nat.ble,Nat.beq,Nat.pred,Nat.add_zero,Nat.zero_add,Nat.add_eq,List.toList_toArray,List.length,List.length_cons,List.length_nil,List.take,List.drop,List.append_nil,List.nil_append,List.cons_append,List.map,List.take_succ_cons,List.take_zero,List.take_nil,List.drop_succ_cons,List.drop_zero,List.drop_nil,List.size_toArray,List.getD,id,Op.operands,Call.operands,Value.cells,Array.size_empty]):a=b:=h
theorem ad (n:Nat) (h:Run (cx fn Bz S1 w1 hk1 hs1 hd1) res σ' k') (hs:advN ti zr n (some (σ,k))=some (σ',k'):=by exact Dq1):Run (cx fn Bz S1 w1 hk1 hs1 hd1) res σ k:=Run.advN n hs h
theorem ag (n:Nat) {l l':List Oper} {all:Array Oper} {q:Prop} (h:Run (cx fn Bz S1 w1 hk1 hs1 hd1) res σ' (.ops l' all::k)) (hs:adG ti zr all n (some (σ,l,True))=some (σ',l',q):=by exact Dq1) (hq:q:=by(repeat' apply And.intro)<;>first | exact trivial | exact fun h=>h | exact fun h=>(Bool.and_eq_true_iff.1 h).1 | exact fun h=>(Bool.and_eq_true_iff.1 h).2 | exact fun h=>(Bool.and_eq_true_iff.1 (Bool.and_eq_true_iff.1 h).1).1 | (intro h;simp_all)):Run (cx fn Bz S1 w1 hk1 hs1 hd1) res σ (.ops l all::k):=Run.adG n hs hq h
theorem Dq0.{u} {α:Sort u} {a b:α} (h:a=b:=by dsimp only[ev,evs,evsG,Qa9,lk,lkE,cond,Nat.beq,evG,stO',V.strip,grd,grdO,nthO,gB,gBV,Nat.pred,wnt,List.toList_toArray,List.cons_append,List.nil_append,List.append_nil]):a=b:=h
theorem cd {x:Operand} {y z:Code} {b:Bool} (ht:b=true→Run (cx fn Bz S1 w1 hk1 hs1 hd1) res σ (.code y::k)) (hf:b=false→Run (cx fn Bz S1 w1 hk1 hs1 hd1) res σ (.code z::k)) (hx:ev σ.ρ x=some (.v (.bool b)):=by exact Dq0):Run (cx fn Bz S1 w1 hk1 hs1 hd1) res σ (.code (.cond x y z)::k):=Run.cond hx ht hf
theorem Dq2.{u} {α:Sort u} {a b:α} (h:a=b:=by dsimp only[Qcp,Qle,Qe6,setV,fwE,En.fw,V.fw,fwL,nthG,pickE,Qqx,nthE,Nat.pred,Qdt,Qf1,Qf0,Qdm,rnR,rnE,V.rn,rnL,En.rn,Qhd,memN,V.names.namesL,V.names,Qey,Qdl,put,putE,setE,Qkk,Qgg,Qh1,opn,nsl,id,cond,Nat.beq,Nat.reduceAdd,Nat.add_zero,Nat.zero_add,List.cons_append,List.nil_append,List.append_nil,List.append,List.length_cons,List.length_nil,Str.fk]):a=b:=h
theorem op {o:Oper} {r:List Oper} {all:Array Oper} {σ1:St} (ho:OpS (cx fn Bz S1 w1 hk1 hs1 hd1) σ all o σ1) (h:Run (cx fn Bz S1 w1 hk1 hs1 hd1) res σ' (.ops r all::k)) (hs:σ1=σ':=by exact Dq2):Run (cx fn Bz S1 w1 hk1 hs1 hd1) res σ (.ops (o::r) all::k):=Run.op ho (by rw[hs];exact h)
theorem og {o:Oper} {r:List Oper} {all:Array Oper} {σ1:St} {G H:Prop} (ho:OpSg (cx fn Bz S1 w1 hk1 hs1 hd1) σ all o σ1 G) (h:H→Run (cx fn Bz S1 w1 hk1 hs1 hd1) res σ' (.ops r all::k)) (hs:σ1=σ':=by exact Dq2) (hh:G=H:=by first | dsimp only[Q00] | rfl):Run (cx fn Bz S1 w1 hk1 hs1 hd1) res σ (.ops (o::r) all::k):=Run.opg ho (by rw[hs,hh];exact h)
theorem fz (r:Nat) {α:Type} {d:Dat α} {xs:List α} {E':List (Nat×En)} (h:Run (cx fn Bz S1 w1 hk1 hs1 hd1) res ⟨σ.n,σ.m,σ.ρ,E'⟩ k) (he:lkE σ.E r=some (.own α d xs):=by exact Dq0) (hs:putE r (r,.ros α d xs) σ.E=E':=by exact Dq2):Run (cx fn Bz S1 w1 hk1 hs1 hd1) res σ k:=Run.freeze r he (by rw[hs];exact h)
theorem nC (r j:Nat) (α:Type) (d:Dat α) {cs:List V} {T:TypeId} {σ':St} (h:Run (cx fn Bz S1 w1 hk1 hs1 hd1) res σ' k) (hl:lkE σ.E r=some (.var cs T):=by exact Dq0) (hj:nthV cs j=some (.v (.slice none 0 0)):=by rfl) (hs:(⟨σ.n,σ.m+1,σ.ρ,(σ.m,.own α d [])::putE r (r,.var (setV (.sl σ.m 0) cs j) T) σ.E⟩:St)=σ':=by exact Dq2):Run (cx fn Bz S1 w1 hk1 hs1 hd1) res σ k:=Run.nilC r j hl hj (by rw[hs];exact h)
theorem gd (r:Nat) {α:Type} {d:Dat α} {xs:List α} (h:(@instDatList α d).good xs→Run (cx fn Bz S1 w1 hk1 hs1 hd1) res σ k) (hp:payE σ.E r=some ⟨α,d,xs⟩:=by rfl):Run (cx fn Bz S1 w1 hk1 hs1 hd1) res σ k:=Run.gd r hp h
theorem li (r:Nat) {α:Type} {d:Dat α} [s:@Str α d] (ys:List α) {cs:List V} {T n:Nat} {E':List (Nat×En)} (h:Run (cx fn Bz S1 w1 hk1 hs1 hd1) res ⟨σ.n,σ.m,σ.ρ,E'⟩ k) (he:lkE σ.E r=some (.lit cs T n):=by exact Dq0) (ho:ElOk σ.E (Dat.sz α) d s.fk ys cs:=by dsimp only[ElOk,Qxh,Qoo,En.payO,lkE,cond,Nat.beq,FkO,agC,List.map,Str.fk,id,List.take,List.drop,List.take_succ_cons,List.drop_succ_cons,List.take_zero,List.drop_zero];repeat' (first | assumption | exact gi _ | exact gs _ | rfl | exact trivial | apply And.intro | omega)) (hl:ys.length=n:=by rfl) (hm:Nat.ble n 1000=true:=by rfl) (hn:V.names.namesL cs=[]:=by rfl) (hs:putE r (r,.own α d ys) σ.E=E':=by exact Dq2):Run (cx fn Bz S1 w1 hk1 hs1 hd1) res σ k:=Run.lit r ys he hl hm hn ho (by rw[hs];exact h)
theorem dr {id:Nat} {ops:Array Oper} (n:Nat) {σ':St} (h: ∀ S2 w2 hk2 hs2 hd2,(∀ θ σ a w',R (cx fn Bz S2 w2 hk2 hs2 hd2) θ σ a w'→R (cx fn Bz S1 w1 hk1 hs1 hd1) θ σ a w')→RunD (cx fn Bz S2 w2 hk2 hs2 hd2) (kQ (cx fn Bz S1 w1 hk1 hs1 hd1) res k .normal) σ'.E σ'.m ops n [] (Array.replicate n false) σ') (hs:σ=σ':=by dsimp only) (hn:ops.size=n:=by rfl):Run (cx fn Bz S1 w1 hk1 hs1 hd1) res σ (.code (.region id ops true)::k):=by
 subst hs
 exact Run.draw n mixed hn fun S w2 hk hs hd=>h S w2 (hk1.trans ((show Keep S1 w1 w2 from hk).mono hs1)) (fun b hb=>hs b (hs1 b hb)) hd (fun _ _ _ _ h=>R.unbase (hk:=hk) (hs:=hs) (hd:=hd) h)
theorem ds {id:Nat} {ops:Array Oper} (n:Nat) (is0:List Nat) {E0:List (Nat×En)} {σ':St} (h: ∀ S2 w2 hk2 hs2 hd2,(∀ θ σ a w',R (cx fn Bz S2 w2 hk2 hs2 hd2) θ σ a w'→R (cx fn Bz S1 w1 hk1 hs1 hd1) θ σ a w')→RunD (cx fn Bz S2 w2 hk2 hs2 hd2) (kQ (cx fn Bz S1 w1 hk1 hs1 hd1) res k .normal) E0 σ'.m ops n [] (Array.replicate n false) σ') (hs:σ=σ':=by dsimp only) (hE:pk is0 σ.E=E0:=by dsimp only[pk,pkc,nthE,cond,Nat.beq,Nat.pred]) (hp:is0.map (nthE σ.E)=E0.map some:=by rfl) (hd0:is0.Nodup:=by decide) (hn:ops.size=n:=by rfl):Run (cx fn Bz S1 w1 hk1 hs1 hd1) res σ (.code (.region id ops true)::k):=by
 subst hs
 exact Run.drawS n is0 E0 hp hd0 mixed hn fun S w2 hk hs hd=>h S w2 (hk1.trans ((show Keep S1 w1 w2 from hk).mono hs1)) (fun b hb=>hs b (hs1 b hb)) hd (fun _ _ _ _ h=>R.unbase (hk:=hk) (hs:=hs) (hd:=hd) h)
end
section
variable {fn:Func} {Bz:Bs} {S1:Nat→Prop} {w1:World} {hk1:Keep Bz.S0 Bz.w w1} {hs1: ∀ b,Bz.S0 b→S1 b} {hd1: ∀ b,S1 b→b<w1.heap.size} {K:Act→World→Prop} {E0 M:List (Nat×En)} {m0:Nat} {ops:Array Oper} {σ σ' σ1:St} {listed:Array Bool}
theorem tk (is:List Nat) {n n':Nat} {q:Prop} (h:RunD (cx fn Bz S1 w1 hk1 hs1 hd1) K E0 m0 ops n M (Ql6 listed is) σ') (hn:n'=n+is.length:=by rfl) (hb:okD ops listed is=true:=by kernel_rfl) (hs:adD ti zr ops (M++E0) is (some (σ,True))=some (σ',q):=by exact Dq1) (hq:q:=by(repeat' apply And.intro)<;>first | exact trivial | exact fun h=>h | exact fun h=>(Bool.and_eq_true_iff.1 h).1 | exact fun h=>(Bool.and_eq_true_iff.1 h).2 | exact fun h=>(Bool.and_eq_true_iff.1 (Bool.and_eq_true_iff.1 h).1).1 | (intro h;simp_all)):RunD (cx fn Bz S1 w1 hk1 hs1 hd1) K E0 m0 ops n' M listed σ:=by subst hn;exact RunD.takes is hb hs hq h
theorem on (i:Nat) (is:List Nat) {n n':Nat} (ho:OpS (cx fn Bz S1 w1 hk1 hs1 hd1) σ ops (opAt ops.toList i) σ1) (h:RunD (cx fn Bz S1 w1 hk1 hs1 hd1) K E0 m0 ops n M (listed.setIfInBounds i true) σ') (hn:n'=n+1:=by rfl) (hi:nthO ops.toList i=some (opAt ops.toList i):=by rfl) (hs:σ1=σ':=by exact Dq2) (hp:is.map (nthE σ'.E)=E0.map some:=by rfl) (hr:Region.ready .any ops listed=[i]:=by kernel_rfl) (hd:is.Nodup:=by decide):RunD (cx fn Bz S1 w1 hk1 hs1 hd1) K E0 m0 ops n' M listed σ:=by subst hs;subst hn;exact RunD.only i is hr hi ho hp hd h
theorem ong (i:Nat) (is:List Nat) {n n':Nat} {G H:Prop} (ho:OpSg (cx fn Bz S1 w1 hk1 hs1 hd1) σ ops (opAt ops.toList i) σ1 G) (h:H→RunD (cx fn Bz S1 w1 hk1 hs1 hd1) K E0 m0 ops n M (listed.setIfInBounds i true) σ') (hn:n'=n+1:=by rfl) (hi:nthO ops.toList i=some (opAt ops.toList i):=by rfl) (hs:σ1=σ':=by exact Dq2) (hh:G=H:=by first | dsimp only[Q00] | rfl) (hp:is.map (nthE σ'.E)=E0.map some:=by rfl) (hr:Region.ready .any ops listed=[i]:=by kernel_rfl) (hd:is.Nodup:=by decide):RunD (cx fn Bz S1 w1 hk1 hs1 hd1) K E0 m0 ops n' M listed σ:=by subst hs;subst hn;subst hh;exact RunD.onlyg i is hr hi ho hp hd h
theorem o2 (i j:Nat) {n n':Nat} (h1:Qxi (cx fn Bz S1 w1 hk1 hs1 hd1) K E0 m0 ops n M listed σ i) (h2:Qxi (cx fn Bz S1 w1 hk1 hs1 hd1) K E0 m0 ops n M listed σ j) (hn:n'=n+1:=by rfl) (hr:Region.ready .any ops listed=[i,j]:=by kernel_rfl):RunD (cx fn Bz S1 w1 hk1 hs1 hd1) K E0 m0 ops n' M listed σ:=by
 subst hn
 refine RunD.alts hr (by simp) fun k hk=>?_
 rcases List.mem_cons.1 hk with rfl | hk
 ·exact h1
 ·obtain rfl:=mem_singleton.1 hk
  exact h2
theorem on1 (i:Nat) (is:List Nat) {n:Nat} (ho:OpS (cx fn Bz S1 w1 hk1 hs1 hd1) σ ops (opAt ops.toList i) σ1) (h:RunD (cx fn Bz S1 w1 hk1 hs1 hd1) K E0 m0 ops n M (listed.setIfInBounds i true) σ') (hi:nthO ops.toList i=some (opAt ops.toList i):=by rfl) (hs:σ1=σ':=by exact Dq2) (hp:is.map (nthE σ'.E)=E0.map some:=by rfl) (hd:is.Nodup:=by decide):Qxi (cx fn Bz S1 w1 hk1 hs1 hd1) K E0 m0 ops n M listed σ i:=by subst hs;exact Qxi.ofg i is hi ho.g hp hd fun _=>h
theorem ong1 (i:Nat) (is:List Nat) {n:Nat} {G H:Prop} (ho:OpSg (cx fn Bz S1 w1 hk1 hs1 hd1) σ ops (opAt ops.toList i) σ1 G) (h:H→RunD (cx fn Bz S1 w1 hk1 hs1 hd1) K E0 m0 ops n M (listed.setIfInBounds i true) σ') (hi:nthO ops.toList i=some (opAt ops.toList i):=by rfl) (hs:σ1=σ':=by exact Dq2) (hh:G=H:=by first | dsimp only[Q00] | rfl) (hp:is.map (nthE σ'.E)=E0.map some:=by rfl) (hd:is.Nodup:=by decide):Qxi (cx fn Bz S1 w1 hk1 hs1 hd1) K E0 m0 ops n M listed σ i:=by subst hs;subst hh;exact Qxi.ofg i is hi ho hp hd h
theorem tx {n n':Nat} {M1 M':List (Nat×En)} (j:Nat) (ht:TkS (cx fn Bz S1 w1 hk1 hs1 hd1) E0 M σ ops listed j σ1 M1) (h:RunD (cx fn Bz S1 w1 hk1 hs1 hd1) K E0 m0 ops n M' (listed.setIfInBounds j true) σ') (hn:n'=n+1:=by rfl) (hs:σ1=σ':=by exact Dq2) (hM:M1=M':=by exact Dq2):RunD (cx fn Bz S1 w1 hk1 hs1 hd1) K E0 m0 ops n' M listed σ:=by subst hs;subst hn;subst hM;exact ht _ _ _ h
theorem dx {α:Type} {dα:Dat α} [s:Str α] [Inhabited α] {t e by' r len d:Nat} {x y:Operand} {ty:TypeId} {pos:String} {after:Array Edge} {i:Int} {xs:List α} {j:Nat} (k:Nat) (hk:k<xs.length) (hi':nthO ops.toList j=some ⟨some d,.indexAddr t x y,ty,pos,after,none⟩:=by rfl) (hB:Qrm ops listed j=true:=by kernel_rfl) (hx:ev σ.ρ x=some (.sl r len):=by exact Dq0) (hy:ev σ.ρ y=some (.v (.int .i64 i)):=by exact Dq0) (hp:lkE (M++E0) r=some (.ros α dα xs):=by exact Dq0) (hl:len=xs.length:=by first | rfl | simp only[List.length_set]) (hi:i=k:=by rfl) (ht:ti t= .sl e (Dat.sz α) by':=by rfl) (hd:Nat.blt d σ.n=true:=by rfl):TkS (cx fn Bz S1 w1 hk1 hs1 hd1) E0 M σ ops listed j (Qdt σ d (nth xs k) s.fk) (Qf1 σ (nth xs k) s.fk M):=TkS.idx j k hk hi' hB hx hy hp hl hi ht hd
theorem tsx {t d:Nat} {x y:Operand} {i:Int} {s:ByteArray} {ty:TypeId} {pos:String} {after:Array Edge} {j:Nat} (k:Nat) (hk:k<s.size) (hi':nthO ops.toList j=some ⟨some d,.index t x y,ty,pos,after,none⟩:=by rfl) (hB:Qrm ops listed j=true:=by kernel_rfl) (hx:ev σ.ρ x=some (.v (.string s)):=by exact Dq0) (hy:ev σ.ρ y=some (.v (.int .i64 i)):=by exact Dq0) (hi:i=k:=by rfl) (ht:ti t= .str:=by rfl) (hd:Nat.blt d σ.n=true:=by rfl):TkS (cx fn Bz S1 w1 hk1 hs1 hd1) E0 M σ ops listed j (put d (.v (.int .u8 (Qav s k).toNat)) σ) M:=TkS.sidx j k hk hi' hB hx hy ht hi hd
theorem tqo {t t' d:Nat} {x y:Operand} {k:IntKind} {i i2:Int} {ty:TypeId} {pos:String} {after:Array Edge} {j:Nat} (hi':nthO ops.toList j=some ⟨some d,.binOp .quo t x y t',ty,pos,after,none⟩:=by rfl) (hB:Qrm ops listed j=true:=by kernel_rfl) (hx:ev σ.ρ x=some (.v (.int k i)):=by exact Dq0) (hy:ev σ.ρ y=some (.v (.int k i2)):=by exact Dq0) (hj:i2≠0:=by decide) (hd:Nat.blt d σ.n=true:=by rfl):TkS (cx fn Bz S1 w1 hk1 hs1 hd1) E0 M σ ops listed j (put d (.v (.int k (k.wrap (i.tdiv i2)))) σ) M:=TkS.quo j hj hi' hB hx hy hd
theorem trm {t t' d:Nat} {x y:Operand} {k:IntKind} {i i2:Int} {ty:TypeId} {pos:String} {after:Array Edge} {j:Nat} (hi':nthO ops.toList j=some ⟨some d,.binOp .rem t x y t',ty,pos,after,none⟩:=by rfl) (hB:Qrm ops listed j=true:=by kernel_rfl) (hx:ev σ.ρ x=some (.v (.int k i)):=by exact Dq0) (hy:ev σ.ρ y=some (.v (.int k i2)):=by exact Dq0) (hj:i2≠0:=by decide) (hd:Nat.blt d σ.n=true:=by rfl):TkS (cx fn Bz S1 w1 hk1 hs1 hd1) E0 M σ ops listed j (put d (.v (.int k (i.tmod i2))) σ) M:=TkS.rem j hj hi' hB hx hy hd
theorem tca {t t' d:Nat} {x y:Operand} {p q:ByteArray} {ty:TypeId} {pos:String} {after:Array Edge} {j:Nat} (hi':nthO ops.toList j=some ⟨some d,.binOp .add t x y t',ty,pos,after,none⟩:=by rfl) (hB:Qrm ops listed j=true:=by kernel_rfl) (hx:ev σ.ρ x=some (.v (.string p)):=by exact Dq0) (hy:ev σ.ρ y=some (.v (.string q)):=by exact Dq0) (hd:Nat.blt d σ.n=true:=by rfl) (hs:p.size+q.size≤9223372036854775807):TkS (cx fn Bz S1 w1 hk1 hs1 hd1) E0 M σ ops listed j (put d (.v (.string (p++q))) σ) M:=TkS.cat j hs hi' hB hx hy hd
theorem dn {res:List Re} {k:List It} {S2:Nat→Prop} {w2:World} {hk2:Keep Bz.S0 Bz.w w2} {hs2: ∀ b,Bz.S0 b→S2 b} {hd2: ∀ b,S2 b→b<w2.heap.size} (hb: ∀ θ σ a w',R (cx fn Bz S2 w2 hk2 hs2 hd2) θ σ a w'→R (cx fn Bz S1 w1 hk1 hs1 hd1) θ σ a w') (h:Run (cx fn Bz S1 w1 hk1 hs1 hd1) res σ k) (hr:Region.ready .any ops listed=[]:=by kernel_rfl):RunD (cx fn Bz S2 w2 hk2 hs2 hd2) (kQ (cx fn Bz S1 w1 hk1 hs1 hd1) res k .normal) E0 m0 ops 0 M listed σ:=fun θ0 η a w _ hR _ _ _=>Ymu hr (h _ a w (hb _ _ _ _ hR))
end
section
variable {fn:Func} {Bz:Bs} {S1:Nat→Prop} {w1:World} {hk1:Keep Bz.S0 Bz.w w1} {hs1: ∀ b,Bz.S0 b→S1 b} {hd1: ∀ b,S1 b→b<w1.heap.size} {σ:St} {all:Array Oper} {ty:TypeId} {pos:String} {after:Array Edge} {d:Nat}
theorem cl {res:List Re} {f:FuncId} {x:Operand} {cs:List V} {xs:Array Operand} {ts:Array TypeId} {args:List Arg} {vs:List V} (hct:CTs f args res) (hfn:FnOk Tryz.prog f) (hx:ev σ.ρ x=some (.fn f cs):=by exact Dq0) (hev:evs σ.ρ xs.toList=some vs:=by exact Dq0) (hargs:Qmv σ.E (vs++cs) args:=by dsimp only[lk,lkE,cond,Nat.beq,List.cons_append,List.nil_append,List.append_nil,Qmv,AsOk,Arg.ok,Ar0.ok,SlOk,payE,En.pay,FkV,agC,Qun,En.cells,List.map,Str.fk,id];repeat' (first | assumption | rfl | exact trivial | apply And.intro | omega)) (hd:Nat.blt d σ.n=true:=by rfl):
    OpS (cx fn Bz S1 w1 hk1 hs1 hd1) σ all ⟨some d,.call { callee:= .value x,args:=xs,argTypes:=ts },ty,pos,after,none⟩ (Qcp σ d res):=OpS.call hct hfn hx hev hargs hd
theorem clg {res:List Re} {f:FuncId} {x:Operand} {cs:List V} {xs:Array Operand} {ts:Array TypeId} {args:List Arg} {vs:List V} (hct:CTs f args res) (hfn:FnOk Tryz.prog f) (hx:ev σ.ρ x=some (.fn f cs):=by exact Dq0) (hev:evs σ.ρ xs.toList=some vs:=by exact Dq0) (hargs:Qmv σ.E (vs++cs) args:=by dsimp only[lk,lkE,cond,Nat.beq,List.cons_append,List.nil_append,List.append_nil,Qmv,AsOk,Arg.ok,Ar0.ok,SlOk,payE,En.pay,FkV,agC,Qun,En.cells,List.map,Str.fk,id];repeat' (first | assumption | rfl | exact trivial | apply And.intro | omega)) (hd:Nat.blt d σ.n=true:=by rfl):
    OpSg (cx fn Bz S1 w1 hk1 hs1 hd1) σ all ⟨some d,.call { callee:= .value x,args:=xs,argTypes:=ts },ty,pos,after,none⟩ (Qcp σ d res) (Q00 res):=OpSg.call hct hfn hx hev hargs hd
theorem cG {u:Value} {f:FuncId} {x:Operand} {cs:List V} {xs:Array Operand} {ts:Array TypeId} {args:List Arg} {vs:List V} {j:Nat} {want B:Bool} (hB:gB σ.ρ all j want=some B:=by exact Dq0) (hx:ev σ.ρ x=some (.fn f cs):=by exact Dq0) (hvs':evsG σ.ρ xs.toList=some vs:=by exact Dq0) (hct:B=true→CTs f args [.c u]) (hfn:FnOk Tryz.prog f) (hside:B=true→Qf8 B True σ.ρ xs.toList:=by intro h;first | exact trivial | (dsimp only[Qf8,sdV,ev,lk,cond,Nat.beq,V.side,List.toList_toArray];(repeat' apply And.intro)<;>first | exact trivial | exact h | exact fun h=>h | exact(Bool.and_eq_true_iff.1 h).1 | exact(Bool.and_eq_true_iff.1 h).2 | exact fun h=>(Bool.and_eq_true_iff.1 h).1 | exact fun h=>(Bool.and_eq_true_iff.1 h).2 | exact fun h=>(Bool.and_eq_true_iff.1 (Bool.and_eq_true_iff.1 h).1).1 | (intro h;simp_all))) (hargs:B=true→Qmv σ.E (vs++cs) args:=by intro h;dsimp only[lk,lkE,cond,Nat.beq,List.cons_append,List.nil_append,List.append_nil,Qmv,AsOk,Arg.ok,Ar0.ok,SlOk,payE,En.pay,FkV,agC,Qun,En.cells,List.map,Str.fk,id];repeat' (first | assumption | rfl | exact trivial | apply And.intro | omega)) (hd:Nat.blt d σ.n=true:=by rfl):
    OpS (cx fn Bz S1 w1 hk1 hs1 hd1) σ all ⟨some d,.call { callee:= .value x,args:=xs,argTypes:=ts },ty,pos,after,some (j,want)⟩ (put d (.gd B (.v u)) σ):=have hvs:=Q56 hvs'
    OpS.callG hB hct hfn hx (fun y hy => by
      have:evG σ.ρ y∈xs.toList.map (evG σ.ρ):=List.mem_map.2 ⟨y,hy,rfl⟩
      rw[hvs] at this
      obtain⟨v,_,hv⟩:=List.mem_map.1 this
      rw[←hv];rfl) hvs hside hargs hd
theorem qe {op:BinOp} {t t':Nat} {x y:Operand} {vx vy:List V} {cx' cy:List Value} {r b:Bool} (he:eqP Tryz.prog t cx' cy r) (hx:ev σ.ρ x=some (.ag vx):=by exact Dq0) (hy:ev σ.ρ y=some (.ag vy):=by exact Dq0) (hcx:Qsn vx=some cx':=by rfl) (hcy:Qsn vy=some cy:=by rfl) (ho:op= .eql∨op= .neq:=by first | exact .inl rfl | exact .inr rfl) (hb:(match op with | .eql=>r | _=>!r)=b:=by dsimp only) (hd:Nat.blt d σ.n=true:=by rfl):
  OpS (cx fn Bz S1 w1 hk1 hs1 hd1) σ all ⟨some d,.binOp op t x y t',ty,pos,after,none⟩ (put d (.v (.bool b)) σ):=by rw[←hb];exact OpS.eqs hx hy hcx hcy he ho hd
theorem sG {t:Nat} {x y:Operand} {i:Int} {s:ByteArray} {j:Nat} {want B:Bool} (k:Nat) (hB:gB σ.ρ all j want=some B:=by exact Dq0) (hx:evG σ.ρ x=some (.v (.string s)):=by exact Dq0) (hy:evG σ.ρ y=some (.v (.int .i64 i)):=by exact Dq0) (hk:B=true→k<s.size) (hi:B=true→i=k:=by intro _;rfl) (hside:B=true→Qf8 B True σ.ρ [x,y]:=by intro h;first | exact trivial | (dsimp only[Qf8,sdV,ev,lk,cond,Nat.beq,V.side,List.toList_toArray];(repeat' apply And.intro)<;>first | exact trivial | exact h | exact fun h=>h | exact(Bool.and_eq_true_iff.1 h).1 | exact(Bool.and_eq_true_iff.1 h).2 | exact fun h=>(Bool.and_eq_true_iff.1 h).1 | exact fun h=>(Bool.and_eq_true_iff.1 h).2 | exact fun h=>(Bool.and_eq_true_iff.1 (Bool.and_eq_true_iff.1 h).1).1 | (intro h;simp_all))) (ht:ti t= .str:=by rfl) (hd:Nat.blt d σ.n=true:=by rfl):
  OpS (cx fn Bz S1 w1 hk1 hs1 hd1) σ all ⟨some d,.index t x y,ty,pos,after,some (j,want)⟩ (put d (.gd B (.v (.int .u8 (Qav s k).toNat))) σ):=OpS.sidxG hB hx hy hside ht hi hk hd
theorem cm {fid:FuncId} {mk m0 nn:Nat} {E0 F0 E1:List (Nat×En)} {args r:List V} (f fk is js rest:List Nat) {x:Operand} {cs:List V} {xs:Array Operand} {ts:Array TypeId} {vs:List V} {G0:Prop} (hct:CTMs fid mk m0 E0 F0 args E1 nn r G0) (hfn:FnOk Tryz.prog fid) (hx:ev σ.ρ x=some (.fn fid cs):=by exact Dq0) (hev:evs σ.ρ xs.toList=some vs:=by exact Dq0) (hva:renL f args=some (vs++cs):=by rfl) (hfm:Nat.beq f.length m0=true:=by rfl) (hfk:f.take mk=fk:=by rfl) (hE0:SubE f σ.E is E0:=by first | exact trivial | (dsimp only[SubE,V.ren,renL,En.ren,nthE,nthF,lk,cond,Nat.beq,Nat.pred,List.length,List.length_nil,Nat.reduceAdd,List.getElem?_cons_zero,List.getElem?_cons_succ,Qso,borL,borN,List.cons_append,List.nil_append,List.append_nil];(repeat' apply And.intro)<;>first | rfl | exact trivial)) (hF0:SubE f (borL σ.E) js F0:=by first | exact trivial | (dsimp only[SubE,V.ren,renL,En.ren,nthE,nthF,lk,cond,Nat.beq,Nat.pred,List.length,List.length_nil,Nat.reduceAdd,List.getElem?_cons_zero,List.getElem?_cons_succ,Qso,borL,borN,List.cons_append,List.nil_append,List.append_nil];(repeat' apply And.intro)<;>first | rfl | exact trivial)) (hFs:isFs F0=true:=by rfl) (hdj:djB is js=true:=by rfl) (hnd:(is++rest).Nodup:=by decide) (hrest:rest.map (nthE σ.E)=(pickE σ.E rest).map some:=by rfl) (hd:Nat.blt d σ.n=true:=by rfl) (hlt:Yc1 σ.m f=true:=by rfl) (hmk:Nat.ble mk m0=true:=by rfl) (hE1:Q66 E1=true:=by rfl):
    OpSg (cx fn Bz S1 w1 hk1 hs1 hd1) σ all ⟨some d,.call { callee:= .value x,args:=xs,argTypes:=ts },ty,pos,after,none⟩ (Qle σ d fk E1 nn r rest) G0:=OpS.callM hct hfn (fun g hg=>hs1 g (Bz.gin g hg)) f fk is js rest hx hev hva hfm hfk hE0 hF0 hFs hdj hnd hrest hd hlt hmk hE1
theorem ce {res:List Re} {k:List It} {r:List Oper} {res2:Value→List Re} {ok:Bool} {f:FuncId} {x:Operand} {cs:List V} {xs:Array Operand} {ts:Array TypeId} {args:List Arg} {vs:List V} (hct:CTEs f args res2 ok) (hfn:FnOk Tryz.prog f) {σ':Value→St} (h: ∀ u,Q7x ok u→Run (cx fn Bz S1 w1 hk1 hs1 hd1) res (σ' u) (.ops r all::k)) (hx:ev σ.ρ x=some (.fn f cs):=by exact Dq0) (hev:evs σ.ρ xs.toList=some vs:=by exact Dq0) (hargs:Qmv σ.E (vs++cs) args:=by dsimp only[lk,lkE,cond,Nat.beq,List.cons_append,List.nil_append,List.append_nil,Qmv,AsOk,Arg.ok,Ar0.ok,SlOk,payE,En.pay,FkV,agC,Qun,En.cells,List.map,Str.fk,id];repeat' (first | assumption | rfl | exact trivial | apply And.intro | omega)) (hd:Nat.blt d σ.n=true:=by rfl) (hs: ∀ u,Qcp σ d (res2 u)=σ' u:=by intro u;dsimp only[Qcp,Qle,Qe6,setV,fwE,En.fw,V.fw,fwL,nthG,pickE,Qqx,nthE,Nat.pred,Qdt,Qf1,Qf0,Qdm,rnR,rnE,V.rn,rnL,En.rn,Qhd,memN,V.names.namesL,V.names,Qey,Qdl,put,putE,setE,Qkk,Qgg,Qh1,opn,nsl,id,cond,Nat.beq,Nat.reduceAdd,Nat.add_zero,Nat.zero_add,List.cons_append,List.nil_append,List.append_nil,List.append,List.length_cons,List.length_nil,Str.fk]):
    Run (cx fn Bz S1 w1 hk1 hs1 hd1) res σ (.ops (⟨some d,.call { callee:= .value x,args:=xs,argTypes:=ts },ty,pos,after,none⟩::r) all::k):=Run.callE hct hfn hx hev hargs hd (fun u hu=>by rw[hs u];exact h u hu)
theorem er {t t':Nat} {x:Operand} {u:Value} {ok:Bool} (hu:Q7x ok u) (hx:ev σ.ρ x=some (.v u):=by exact Dq0) (ht:Tryz.prog.underlying t=some (.interface (Tryz.prog.methodsAt t)):=by kernel_rfl) (hd:Nat.blt d σ.n=true:=by rfl):
  OpS (cx fn Bz S1 w1 hk1 hs1 hd1) σ all ⟨some d,.binOp .neq t x (.const .nilIface) t',ty,pos,after,none⟩ (put d (.v (.bool (!ok))) σ):=OpS.errne hx hu ht hd
theorem rG {t t':Nat} {x y:Operand} {k:IntKind} {i i2:Int} {j:Nat} {want B:Bool} (hB:gB σ.ρ all j want=some B:=by exact Dq0) (hx:evG σ.ρ x=some (.v (.int k i)):=by exact Dq0) (hy:evG σ.ρ y=some (.v (.int k i2)):=by exact Dq0) (hside:B=true→Qf8 B True σ.ρ [x,y]:=by intro h;first | exact trivial | (dsimp only[Qf8,sdV,ev,lk,cond,Nat.beq,V.side,List.toList_toArray];(repeat' apply And.intro)<;>first | exact trivial | exact h | exact fun h=>h | (intro h;simp_all))) (hj:B=true→i2≠0:=by intro _;decide) (hd:Nat.blt d σ.n=true:=by rfl):
  OpS (cx fn Bz S1 w1 hk1 hs1 hd1) σ all ⟨some d,.binOp .rem t x y t',ty,pos,after,some (j,want)⟩ (put d (.gd B (.v (.int k (i.tmod i2)))) σ):=OpS.remG hB hx hy hside hj hd
theorem ix {α:Type} {dα:Dat α} [s:Str α] [Inhabited α] {t e by' r len:Nat} {x y:Operand} {i:Int} {xs:List α} (k:Nat) (hk:k<xs.length) (hx:ev σ.ρ x=some (.sl r len):=by exact Dq0) (hy:ev σ.ρ y=some (.v (.int .i64 i)):=by exact Dq0) (hp:lkE σ.E r=some (.ros α dα xs):=by exact Dq0) (hl:len=xs.length:=by first | rfl | simp only[List.length_set]) (hi:i=k:=by rfl) (ht:ti t= .sl e (Dat.sz α) by':=by rfl) (hd:Nat.blt d σ.n=true:=by rfl):
  OpS (cx fn Bz S1 w1 hk1 hs1 hd1) σ all ⟨some d,.indexAddr t x y,ty,pos,after,none⟩ (Qdt σ d (nth xs k) s.fk):=OpS.index hx hy hp hl ht hd hi hk
theorem sx {t:Nat} {x y:Operand} {i:Int} {s:ByteArray} (k:Nat) (hk:k<s.size) (hx:ev σ.ρ x=some (.v (.string s)):=by exact Dq0) (hy:ev σ.ρ y=some (.v (.int .i64 i)):=by exact Dq0) (hi:i=k:=by rfl) (ht:ti t= .str:=by rfl) (hd:Nat.blt d σ.n=true:=by rfl):
  OpS (cx fn Bz S1 w1 hk1 hs1 hd1) σ all ⟨some d,.index t x y,ty,pos,after,none⟩ (put d (.v (.int .u8 (Qav s k).toNat)) σ):=OpS.sidx hx hy ht hd hi hk
theorem ca {t t':Nat} {x y:Operand} {p q:ByteArray} (hx:ev σ.ρ x=some (.v (.string p)):=by exact Dq0) (hy:ev σ.ρ y=some (.v (.string q)):=by exact Dq0) (hd:Nat.blt d σ.n=true:=by rfl) (hs:p.size+q.size≤9223372036854775807):
  OpS (cx fn Bz S1 w1 hk1 hs1 hd1) σ all ⟨some d,.binOp .add t x y t',ty,pos,after,none⟩ (put d (.v (.string (p++q))) σ):=OpS.cat hx hy hd hs
theorem ap {α:Type} {dα:Dat α} [s:@Str α dα] {t e by' r q n len T:Nat} {x y:Operand} {z:Value} {xs:List α} (ys:List α) {cs:List V} (hx:ev σ.ρ x=some (.sl r len):=by exact Dq0) (hr:lkE σ.E r=some (.own α dα xs):=by exact Dq0) (hy:ev σ.ρ y=some (.sl q n):=by exact Dq0) (hq:lkE σ.E q=some (.lit cs T n):=by exact Dq0) (ht:ti t= .sl e (Dat.sz α) by':=by rfl) (hz:zr e=some z:=by rfl) (hm:xs.length+ys.length≤9223372036854775807:=by first | omega | (simp only[List.length_cons,List.length_nil];first | omega | exact om) | exact om) (hl:len=xs.length:=by first | rfl | simp only[List.length_set])
    (hzs:z.cells.size=Dat.sz α:=by rfl) (hd:Nat.blt d σ.n=true:=by rfl) (hyl:ys.length=n:=by rfl) (hnm:V.names.namesL cs=[]:=by rfl) (h1:oneL cs=true:=by rfl) (hg:ElOk σ.E (Dat.sz α) dα s.fk ys cs) (hb:(xs.length+ys.length)*by'≤140737488355328):
    OpS (cx fn Bz S1 w1 hk1 hs1 hd1) σ all ⟨some d,.call { callee:= .builtin .append,args:= #[x,y],argTypes:= #[t,t] },ty,pos,after,none⟩ (Qey σ d r dα (xs++ys)):=OpS.app hx hr hl hy hq ht hz hzs hd hyl hnm hg h1 hb hm
theorem aS {α:Type} {dα:Dat α} [s:@Str α dα] {t e by':Nat} {x y:Operand} {z:Value} (xs ys:List α) (rs:List Nat) {vx vy:V} (hb:(xs.length+ys.length)*by'≤140737488355328) (hm:xs.length+ys.length≤9223372036854775807) (hx:ev σ.ρ x=some vx:=by exact Dq0) (hy:ev σ.ρ y=some vy:=by exact Dq0) (hr:XRow σ.E α dα xs rs vx:=by dsimp only[XRow,Qoo,En.payO,lkE,cond,Nat.beq];repeat' (first | rfl | exact trivial | apply And.intro)) (hq:SlOk σ.E α dα ys vy:=by dsimp only[SlOk,payE,En.pay,lkE,cond,Nat.beq];repeat' (first | rfl | exact trivial | apply And.intro)) (ht:ti t= .sl e (Dat.sz α) by':=by rfl) (hz:zr e=some z:=by rfl) (hfl:Qqw s.fk=true:=by rfl)
    (hzs:z.cells.size=Dat.sz α:=by rfl) (hd:Nat.blt d σ.n=true:=by rfl):
    OpS (cx fn Bz S1 w1 hk1 hs1 hd1) σ all ⟨some d,.call { callee:= .builtin .append,args:= #[x,y],argTypes:= #[t,t] },ty,pos,after,none⟩ (Qe6 σ d dα (xs++ys) rs):=OpS.appS hx hr hy hq hfl ht hz hzs hd hb hm
theorem aN {α:Type} {dα:Dat α} [s:@Str α dα] {t e by' q T:Nat} {x y:Operand} {z:Value} (xs:List α) (y0:α) (rs:List Nat) {vx:V} {cs:List V} (hg:Dat.good y0) (hb:(xs.length+1)*by'≤140737488355328) (hm:xs.length+1≤9223372036854775807) (hx:ev σ.ρ x=some vx:=by exact Dq0) (hy:ev σ.ρ y=some (.sl q 1):=by exact Dq0) (hq:lkE σ.E q=some (.lit cs T 1):=by exact Dq0) (hr:XRow σ.E α dα xs rs vx:=by dsimp only[XRow,Qoo,En.payO,lkE,cond,Nat.beq];repeat' (first | rfl | exact trivial | apply And.intro)) (ht:ti t= .sl e (Dat.sz α) by':=by rfl) (hz:zr e=some z:=by rfl)
    (hzs:z.cells.size=Dat.sz α:=by rfl) (hd:Nat.blt d σ.n=true:=by rfl) (hf:FkO σ.E y0 s.fk cs:=by dsimp only[Qxh,Qoo,En.payO,lkE,cond,Nat.beq,FkO,Str.fk,id];repeat' (first | assumption | rfl | exact trivial | apply And.intro | omega)) (h1:oneL cs=true:=by rfl) (hn:(rs++V.names.namesL cs).Nodup:=by dsimp only[V.names.namesL,V.names,List.append_nil,List.nil_append,List.cons_append];decide):
    OpS (cx fn Bz S1 w1 hk1 hs1 hd1) σ all ⟨some d,.call { callee:= .builtin .append,args:= #[x,y],argTypes:= #[t,t] },ty,pos,after,none⟩ (Qe6 σ d dα (xs++[y0]) (rs++V.names.namesL cs)):=OpS.appN y0 hx hr hy hq ht hz hzs hd hg hf h1 hn hb hm
theorem ma {α:Type} {dα:Dat α} [s:@Str α dα] {t e by':Nat} {x y:Operand} {z:Value} {i j:Int} (m:Nat) (z0:α) (hx:ev σ.ρ x=some (.v (.int .i64 i)):=by exact Dq0) (hy:ev σ.ρ y=some (.v (.int .i64 j)):=by exact Dq0) (ht:ti t= .sl e (Dat.sz α) by':=by rfl) (hz:zr e=some z:=by rfl) (hm:m≤9223372036854775807:=by omega) (hb:by'*m≤281474976710656:=by omega) (hi:i=m:=by rfl) (hj:j=m:=by rfl) (hzs:z.cells.size=Dat.sz α:=by rfl) (ho:ElOk σ.E (Dat.sz α) dα s.fk [z0] (z.cells.toList.map V.v):=by dsimp only[Value.cells,List.toList_toArray,List.map];dsimp only[ElOk,Qxh,Qoo,En.payO,lkE,cond,Nat.beq,FkO,agC,List.map,Str.fk,id,List.take,List.drop,List.take_succ_cons,List.drop_succ_cons,List.take_zero,List.drop_zero];repeat' (first | assumption | exact gi _ | exact gs _ | rfl | exact trivial | apply And.intro | omega)) (hd:Nat.blt d σ.n=true:=by rfl):
  OpS (cx fn Bz S1 w1 hk1 hs1 hd1) σ all ⟨some d,.makeSlice t x y,ty,pos,after,none⟩ (Qdl σ d dα (List.replicate m z0)):=OpS.make m z0 hx hy hi hj ht hz hzs ho hb hm hd
theorem l0 {t e sz by':Nat} (ht:ti t= .sl e sz by':=by rfl) (hd:Nat.blt d σ.n=true:=by rfl):OpS (cx fn Bz S1 w1 hk1 hs1 hd1) σ all ⟨some d,.buildSlice t 0 #[],ty,pos,after,none⟩ ⟨σ.n,σ.m+1,(d,.sl σ.m 0)::σ.ρ,(σ.m,.lit [] e 0)::σ.E⟩:=OpS.lit0 ht hd
theorem ts {t u e by':Nat} {x:Operand} {v:V} (xs:List UInt8) (hx:ev σ.ρ x=some v:=by exact Dq0) (hs:SlOk σ.E UInt8 instDatUInt8 xs v:=by dsimp only[SlOk,payE,En.pay,lkE,cond,Nat.beq];first | exact⟨rfl,rfl⟩ | exact⟨by exact om,rfl⟩) (ht:ti t= .sl e 1 by':=by rfl) (he:ti e= .int .u8:=by rfl) (hu:ti u= .str:=by rfl) (hd:Nat.blt d σ.n=true:=by rfl):
  OpS (cx fn Bz S1 w1 hk1 hs1 hd1) σ all ⟨some d,.convert t u x,ty,pos,after,none⟩ (put d (.v (.string (bstr xs))) σ):=OpS.toStr xs hx hs ht he hu hd
theorem tb {t u e by':Nat} {x:Operand} {s:ByteArray} (hx:ev σ.ρ x=some (.v (.string s)):=by exact Dq0) (ht:ti u= .sl e 1 by':=by rfl) (he:ti e= .int .u8:=by rfl) (hu:ti t= .str:=by rfl) (hd:Nat.blt d σ.n=true:=by rfl) (hs:s.size≤maxLen):
  OpS (cx fn Bz S1 w1 hk1 hs1 hd1) σ all ⟨some d,.convert t u x,ty,pos,after,none⟩ (Qf0 σ d instDatUInt8 (Qa7 s)):=OpS.toBytes hx hs ht he hu hd
theorem cu {t:Nat} {x:Operand} {lo hi:Option Operand} {s:ByteArray} (l h:Nat) (hx:ev σ.ρ x=some (.v (.string s)):=by exact Dq0) (hl:bnd σ.ρ 0 l lo:=by dsimp only[bnd,ev,lk,cond,Nat.beq];first | rfl | exact⟨_,rfl,rfl⟩ | exact⟨_,rfl,by exact om⟩) (hh:bnd σ.ρ s.size h hi:=by dsimp only[bnd,ev,lk,cond,Nat.beq];first | rfl | exact⟨_,rfl,rfl⟩ | exact⟨_,rfl,by exact om⟩) (ht:ti t= .str:=by rfl) (hd:Nat.blt d σ.n=true:=by rfl) (h1:l≤h:=by exact om) (h2:h≤s.size:=by exact om):
  OpS (cx fn Bz S1 w1 hk1 hs1 hd1) σ all ⟨some d,.slice t x lo hi none,ty,pos,after,none⟩ (put d (.v (.string (cutS s l h))) σ):=OpS.cut l h hx hl hh h1 h2 ht hd
theorem pa {α:Type} {dα:Dat α} {t e by' r len:Nat} {x:Operand} {lo hi:Option Operand} {xs:List α} (l h:Nat) (hx:ev σ.ρ x=some (.sl r len):=by exact Dq0) (hp:lkE σ.E r=some (.ros α dα xs):=by exact Dq0) (hlen:len=xs.length:=by rfl) (hl:bnd σ.ρ 0 l lo:=by dsimp only[bnd,ev,lk,cond,Nat.beq];first | rfl | exact⟨_,rfl,rfl⟩ | exact⟨_,rfl,by exact om⟩) (hh:bnd σ.ρ xs.length h hi:=by dsimp only[bnd,ev,lk,cond,Nat.beq];first | rfl | exact⟨_,rfl,rfl⟩ | exact⟨_,rfl,by exact om⟩) (ht:ti t= .sl e (Dat.sz α) by':=by rfl) (hd:Nat.blt d σ.n=true:=by rfl) (h1:l≤h:=by exact om) (h2:h≤xs.length:=by exact om):
  OpS (cx fn Bz S1 w1 hk1 hs1 hd1) σ all ⟨some d,.slice t x lo hi none,ty,pos,after,none⟩ (Qf0 σ d dα (cutL xs l h)):=OpS.part l h hx hp hlen hl hh h1 h2 ht hd
theorem rm {t t':Nat} {x y:Operand} {k:IntKind} {i j:Int} (hx:ev σ.ρ x=some (.v (.int k i)):=by exact Dq0) (hy:ev σ.ρ y=some (.v (.int k j)):=by exact Dq0) (hd:Nat.blt d σ.n=true:=by rfl) (hj:j≠0:=by decide):
  OpS (cx fn Bz S1 w1 hk1 hs1 hd1) σ all ⟨some d,.binOp .rem t x y t',ty,pos,after,none⟩ (put d (.v (.int k (i.tmod j))) σ):=OpS.rem hx hy hd hj
theorem oi {α:Type} {dα:Dat α} {t e by' r len:Nat} {x y:Operand} {i:Int} {xs:List α} (k:Nat) (hk:k<xs.length) (hx:ev σ.ρ x=some (.sl r len):=by exact Dq0) (hy:ev σ.ρ y=some (.v (.int .i64 i)):=by exact Dq0) (hp:lkE σ.E r=some (.own α dα xs):=by exact Dq0) (hl:len=xs.length:=by first | rfl | simp only[List.length_set]) (hi:i=k:=by rfl) (ht:ti t= .sl e (Dat.sz α) by':=by rfl) (hd:Nat.blt d σ.n=true:=by rfl):
  OpS (cx fn Bz S1 w1 hk1 hs1 hd1) σ all ⟨some d,.indexAddr t x y,ty,pos,after,none⟩ (put d (.pt r (k*Dat.sz α)) σ):=OpS.oidx k hk hx hy hp hl hi ht hd
theorem se {α:Type} {dα:Dat α} [s:@Str α dα] {t:Nat} {x v:Operand} {r off:Nat} {xs:List α} {vv:V} {cs:List V} (k:Nat) (y:α) (hg:Dat.good y) (hk:k<xs.length) (hx:ev σ.ρ x=some (.pt r off):=by exact Dq0) (hr:lkE σ.E r=some (.own α dα xs):=by exact Dq0) (hoff:off=k*Dat.sz α:=by rfl)
  (hv:ev σ.ρ v=some vv:=by exact Dq0) (hvc:vv.cells=some cs:=by rfl) (ht:(ti t).cells=some (Dat.sz α):=by rfl) (hf:FkO σ.E y s.fk cs:=by dsimp only[Qxh,Qoo,En.payO,lkE,cond,Nat.beq,FkO,Str.fk,id];repeat' (first | assumption | rfl | exact trivial | apply And.intro | omega)) (h1:oneL cs=true:=by rfl) (hn:(r::V.names.namesL cs).Nodup:=by dsimp only[V.names.namesL,V.names,List.append_nil,List.nil_append,List.cons_append];decide):
  OpS (cx fn Bz S1 w1 hk1 hs1 hd1) σ all ⟨none,.store t x v,ty,pos,after,none⟩ (Qdm σ r dα (xs.set k y) (V.names.namesL cs)):=OpS.stE k y hx hoff hr hk hv hvc ht hg hf h1 hn
end
section
variable {fn:Func} {Bz:Bs} {S1:Nat→Prop} {w1:World} {hk1:Keep Bz.S0 Bz.w w1} {hs1: ∀ b,Bz.S0 b→S1 b} {hd1: ∀ b,S1 b→b<w1.heap.size} {res:List Re} {σ:St} {k:List It}
theorem Dq3.{u} {α:Sort u} {a b:α} (h:a=b:=by dsimp only[ti_1,ti_2,ti_3,ti_4,ti_5,ti_6,ti_7,ti_8,ti_9,Q5k,Q5j,Q5i,Q5h,Q5g,Q5f,Q5e,Q5d,Q5c,Q5b,Q5a,Q49,Q48,Q47,Q46,Q45,Q44,Q43,Q42,Q41,Q40,Q4z,Q4y,Q4x,Q4w,Q4v,Q4u,Q4t,Q4s,Q4r,Q4q,Qv8,Qv7,Qv6,Qv5,Qv4,Qv3,Qsd,Qv2,Qv1,Qv0,Qvz,Qvy,Qvx,Qvw,Qvv,Qvu,Qvt,Qvs,Qvr,Qvq,Qvp,Qvo,Qvn,Qvm,Qvl,Qvk,Qvj,Qvi,Qvh,Qvg,Qvf,Qve,Qvd,Qvc,Qvb,Qva,Qu9,rvsV,rvV,ldV,ldE,ldC,tuAt,lkE,Qa9,lk,cond,Nat.beq,Nat.pred,Nat.ble,List.length,List.length_cons,List.length_nil,List.take,List.drop,List.take_succ_cons,List.drop_zero,List.take_zero,Nat.reduceAdd]):a=b:=h
theorem rz {w:World} {hG:Gw w} {hk1:Keep (Old w) w w1} {hs1: ∀ b,Old w b→S1 b} {rs:List ResultVar} {vs:List V} {res':List Re} (hq:res=res') (hr:(cx fn (Bs.old w hG) S1 w1 hk1 hs1 hd1).fn.results.toList=rs:=by rfl) (hl:Nat.ble rs.length 4=true:=by rfl) (hv:rvsV ti σ.ρ σ.E rs=some vs:=by exact Dq3) (hn:(Qq0 vs res').Nodup:=by dsimp only[Qq0,agC,V.names.namesL,List.append_nil,List.nil_append,List.cons_append,List.map];decide) (ho:Yav σ.E vs res':=by dsimp only[Yav,Re.ok,Qxh,Qoo,En.payO,lkE,cond,Nat.beq,FkO,agC,List.map,Str.fk,id];repeat' (first | assumption | rfl | exact trivial | apply And.intro | omega)):Run (cx fn (Bs.old w hG) S1 w1 hk1 hs1 hd1) res σ (.code .ret::k):=Run.ret hr hl hv (by rw[hq];exact ho) (by rw[hq];exact hn) (fun _ _ h=>h)
end
theorem bt {α:Type} {b:Bool} {x y:α} (h:b=true):(bif b then x else y)=x:=by rw[h];rfl
theorem bf {α:Type} {b:Bool} {x y:α} (h:b=false):(bif b then x else y)=y:=by rw[h];rfl
theorem su {f is:List Nat} {σ σ2:St} (h:Sub f is σ σ2:=by dsimp only[Sub,SubR,SubE,V.ren,renL,En.ren,nthE,nthF,lk,cond,Nat.beq,Nat.pred,List.length,List.length_nil,Nat.reduceAdd,List.getElem?_cons_zero,List.getElem?_cons_succ];(repeat' apply And.intro)<;>first | rfl | exact trivial | (rw[List.length_set])):Sub f is σ σ2:=h
theorem gdt {p:Prop} (h:p:=by dsimp only[ElOk,Qxh,Qoo,En.payO,lkE,cond,Nat.beq,FkO,agC,List.map,Str.fk,id,List.take,List.drop,List.take_succ_cons,List.drop_succ_cons,List.take_zero,List.drop_zero];repeat' (first | assumption | rfl | exact trivial | apply And.intro | omega)):p:=h
theorem bifI {b:Bool} {x y:Int} (hx:I64 x) (hy:I64 y):I64 (bif b then x else y):=by cases b<;>assumption
theorem bifS {b:Bool} {x y:ByteArray} (hx:x.size≤maxLen) (hy:y.size≤maxLen):(bif b then x else y).size≤maxLen:=by cases b<;>assumption
theorem bts (a:Array UInt8):(⟨a⟩:ByteArray).size=a.size:=rfl
theorem szt {p:Prop} (h:p:=by first | assumption | omega | (simp only[ByteArray.size_append,bts,List.size_toArray,List.length_cons,List.length_nil];omega)):p:=h
theorem en {f:FuncId} {fn:Func} {code:Code} {n:Nat} {args:List Arg} {res:List Re} {σ:St} {H:Prop} (hf:Tryz.prog.funcs[f]?=some fn) (hn:fn.ntmps=n) (h: ∀ w (hG:Gw w),H→Run (cx fn (Bs.old w hG) (Old w) w (Keep.refl _ _) (fun _ h=>h) (fun _ h=>h)) res σ [.code code]) (hb:fn.body=some code:=by rfl) (hl:Nat.ble args.length n=true:=by rfl) (hi:ini n args=σ:=by exact Dq1) (hgd:Qrj args=H:=by dsimp only[Qrj]):CTs f args res:=
 CT.of Ydk hf hb hn hl (by rw[hi,hgd];exact h)
theorem enM {G0:Prop} {f:FuncId} {fn:Func} {code:Code} {n mk m0 nn:Nat} {E0 F0 E1:List (Nat×En)} {args r:List V} (hf:Tryz.prog.funcs[f]?=some fn) (hn:fn.ntmps=n) (h: ∀ S w p hG hb hg,Run (cx fn (Bs.mut S w hG hb hg p mk E1 nn r G0) S w (Keep.refl _ _) (fun _ h=>h) hb) [] ⟨n,m0,Qm2 0 args,E0++F0++Qso p 0 mk⟩ [.code code]) (hb:fn.body=some code:=by rfl) (hl:Nat.ble args.length n=true:=by rfl) (hmk:Nat.ble mk m0=true:=by rfl) (hE:Q66 E0=true:=by rfl):CTMs f mk m0 E0 F0 args E1 nn r G0:=
 CTM.of Ydk hf hb hn hl hmk hE fun S w p hG hb hg=>h S w p hG hb hg
theorem rzM {G0 G1:Prop} {fn:Func} {S:Nat→Prop} {w:World} {hG: ∀ w',Keep S w w'→Gw w'} {hb: ∀ b,S b→b<w.heap.size} {hg: ∀ g∈gls,S g} {p:Nat→Loc} {mk nn:Nat} {E1 E1':List (Nat×En)} {r r':List V} {S1:Nat→Prop} {w1:World} {hk1:Keep S w w1} {hs1: ∀ b,S b→S1 b} {hd1: ∀ b,S1 b→b<w1.heap.size} {res:List Re} {σ:St} {k:List It} {rs:List ResultVar} {vs:List V} (f is:List Nat) (hg1:G1) (hG1:G0=G1) (hE:E1=E1') (hr':r=r') (hr:fn.results.toList=rs:=by rfl) (hl:Nat.ble rs.length 4=true:=by rfl) (hv:rvsV ti σ.ρ σ.E rs=some vs:=by exact Dq3)
  (hs:SubE f σ.E is (E1'++Qso p 0 mk):=by first | exact trivial | (dsimp only[SubE,V.ren,renL,En.ren,nthE,nthF,lk,cond,Nat.beq,Nat.pred,List.length,List.length_nil,Nat.reduceAdd,List.getElem?_cons_zero,List.getElem?_cons_succ,Qso,borL,borN,List.cons_append,List.nil_append,List.append_nil];(repeat' apply And.intro)<;>first | rfl | exact trivial)) (hlen:Nat.beq f.length (mk+nn)=true:=by rfl) (hn:is.Nodup:=by decide) (hres:renL f r'=some vs:=by rfl):Run (cx fn (Bs.mut S w hG hb hg p mk E1 nn r G0) S1 w1 hk1 hs1 hd1) res σ (.code .ret::k):=by
 subst hE
 subst hr'
 exact Run.retM hr hl hv (hG1▸hg1) (fun _ _ _ h=>h) hs1 hk1 hb f is hlen hs hn hres
theorem Yhu {i:Nat} (h:i+2≤9223372036854775807):i64.wrap ((i:Int)+2)=((i+2:Nat):Int):=by
 rw[IntWalk.i64_in _ (by omega)];omega
theorem Qb3 {i:Nat} (h:i+1≤9223372036854775807):i64.wrap ((i:Int)+1)=((i+1:Nat):Int):=by
 rw[IntWalk.i64_in _ (by omega)];omega
end
section
section
variable {fn:Func} {Bz:Bs} {S1:Nat→Prop} {w1:World} {hk1:Keep Bz.S0 Bz.w w1} {hs1: ∀ b,Bz.S0 b→S1 b} {hd1: ∀ b,S1 b→b<w1.heap.size} {res:List Re} {σ σ':St} {k k':List It}
theorem adu (n:Nat) (h:Run (cx fn Bz S1 w1 hk1 hs1 hd1) res σ' k') (hs:advN ti zr n (some (σ,k))=some (σ',k'):=by dsimp only[undef,ncV,szA,cvV,rnR,rnE,V.rn,rnL,En.rn,Qhd,memN,Qdm,an,stK,cdK,opK,gdK,nvK,Qq6,Qqy,blK,bsK,stW,stV,ptK,litD,litC,pkV,wrV,binV,unV,ldV,faW,faV,agO,blV,exV,mfV,lenV,caV,Qz5,Qyp,stO',sdV,Qa9,grdO,gBV,gPw,gPk,gGo,gK,gK1,gK2,tkK,tk1,rvsV,rvV,Nat.reduceAdd,Nat.reduceSub,Nat.reduceMul,advN,adv1,stO,litV,Qul,Qoz,pv,ev,evs,lk,lkE,setE,putE,put,cond,ldC,ldE,nthN,tuAt,bin,bi,bs,bb,ikq,TI.cells,V.cells,V.one,oneL,Qrl,grd,nthO,beqB,gB,wnt,gOp,adG,adG1,Qx5,Qf8,evG,V.side,V.strip,Qcp,Qdt,Qey,Qdl,Qkk,Qgg,Qh1,Qka,Qpg,Qld,Qnr,ini,Qm2,opn,nsl,adD,Ql6,Str.fk,ti_1,ti_2,ti_3,ti_4,ti_5,ti_6,ti_7,ti_8,ti_9,Q5k,Q5j,Q5i,Q5h,Q5g,Q5f,Q5e,Q5d,Q5c,Q5b,Q5a,Q49,Q48,Q47,Q46,Q45,Q44,Q43,Q42,Q41,Q40,Q4z,Q4y,Q4x,Q4w,Q4v,Q4u,Q4t,Q4s,Q4r,Q4q,Qv8,Qv7,Qv6,Qv5,Qv4,Qv3,Qsd,Qv2,Qv1,Qv0,Qvz,Qvy,Qvx,Qvw,Qvv,Qvu,Qvt,Qvs,Qvr,Qvq,Qvp,Qvo,Qvn,Qvm,Qvl,Qvk,Qvj,Qvi,Qvh,Qvg,Qvf,Qve,Qvd,Qvc,Qvb,Qva,Qu9,zr_1,zr_2,zr_3,zr_4,zr_5,zr_6,zr_7,zr_8,zr_9,Q91,Q90,Q9z,Q9y,Q9x,Q9w,Q9v,Q9u,Q9t,Q9s,Q9r,Q9q,Q9p,Q9o,Q9n,Q9m,Q9l,Q9k,Q9j,Q9i,Q9h,Q9g,Q9f,Q9e,Q9d,Q9c,Q9b,Q9a,Q89,Q88,Q87,Q18,Q17,Q16,Q15,Q14,Q13,Q12,Q11,Q10,Q1z,Q1y,Q1x,Q1w,Q1v,Q1u,Q1t,Q1s,Q1r,Q1q,Q1p,Q1o,Q1n,Q1m,Q1l,Q1k,Q1j,Q1i,Q1h,Q1g,Q1f,Q1e,Q1d,Q1c,Q1b,Q1a,Q09,Nat.blt,Nat.succ_eq_add_one,Nat.ble,Nat.beq,Nat.pred,Nat.add_zero,Nat.zero_add,Nat.add_eq,List.toList_toArray,List.length,List.length_cons,List.length_nil,List.take,List.drop,List.append_nil,List.nil_append,List.cons_append,List.map,List.take_succ_cons,List.take_zero,List.take_nil,List.drop_succ_cons,List.drop_zero,List.drop_nil,List.size_toArray,List.getD,id,Op.operands,Call.operands,Value.cells,Array.size_empty]):Run (cx fn Bz S1 w1 hk1 hs1 hd1) res σ k:=Run.advN n hs h
end
end
section
def Fk.same {α:Type} (x y:α):Fk α→Prop
 | .int g=>g y=g x
 | .byte g=>g y=g x
 | .bool g=>g y=g x
 | .str g=>g y=g x
 | .sl _ _ g=>g y=g x
def Fk.scal {α:Type} (y:α) (u:Value):Fk α→Prop
 | .int g=>u= .int .i64 (g y)∧I64 (g y)
 | .byte g=>u= .int .u8 (g y).toNat
 | .bool g=>u= .bool (g y)
 | .str g=>u= .string (g y)∧(g y).size≤maxLen
 | .sl _ _ _=>False
def FkSm {α:Type} (x y:α):List (Fk α)→Prop
 | []=>True
 | f::fs=>f.same x y∧FkSm x y fs
def FkUp {α:Type} (x y:α) (u:Value):List (Fk α)→Nat→Prop
 | [],_=>False
 | f::fs,j=>bif Nat.beq j 0 then f.scal y u∧FkSm x y fs else f.same x y∧FkUp x y u fs (Nat.pred j)
section
variable {α:Type} {x y:α} {u:Value} {w:World}
theorem Fk.own_sm {f:Fk α} (h:f.same x y) {v:Value} {F:List Nat} (ho:f.own w x v F):f.own w y v F:=by
 cases f<;>simp only[Fk.same] at h<;>simp only[Fk.own] at ho ⊢ <;> rw[h]<;>exact ho
theorem Ygb: ∀ {fs:List (Fk α)} {cs:List Value} {F:List Nat},FkSm x y fs→OwL w x fs cs F→OwL w y fs cs F
 | [],_,_,_,h=>h
 | f::fs,_,_,h,⟨v,r,G,H,e1,e2,hv,hr⟩=>⟨v,r,G,H,e1,e2,Fk.own_sm h.1 hv,Ygb h.2 hr⟩
theorem Yga: ∀ {fs:List (Fk α)} {cs:List Value} {F:List Nat} {j:Nat},FkUp x y u fs j→OwL w x fs cs F→OwL w y fs (cs.set j u) F
 | [],_,_,_,h,_=>h.elim
 | f :: fs, cs, F, j, h, ⟨v, r, G, H, e1, e2, hv, hr⟩ => by
  subst e1
  subst e2
  simp only[FkUp] at h
  cases j with
  | zero =>
   have h':f.scal y u∧FkSm x y fs:=h
   refine⟨u,r,G,H,rfl,rfl,?_,Ygb h'.2 hr⟩
   have h1:=h'.1
   cases f<;>simp only[Fk.scal] at h1<;>simp only[Fk.own] at hv ⊢
   ·exact⟨h1,hv.2⟩
   ·exact⟨h1,hv.2⟩
   ·exact⟨h1,hv.2⟩
   ·exact⟨h1,hv.2⟩
  | succ j =>
   have h':f.same x y∧FkUp x y u fs j:=h
   exact⟨v,r.set j u,G,H,rfl,rfl,Fk.own_sm h'.1 hv,Yga h'.2 hr⟩
theorem Q8a: ∀ {fs:List (Fk α)} {j:Nat},FkUp x y u fs j→u.oneCell'=true∧u.cells= #[u]∧j<fs.length
 | [],_,h=>h.elim
 | f :: fs, j, h => by
  simp only[FkUp] at h
  cases j with
  | zero =>
   have h1:f.scal y u:=(show f.scal y u∧FkSm x y fs from h).1
   refine⟨?_,?_,Nat.succ_pos _⟩<;>cases f<;>simp only[Fk.scal] at h1
   ·rw[h1.1];rfl
   ·rw[h1];rfl
   ·rw[h1];rfl
   ·rw[h1.1];rfl
   ·rw[h1.1];rfl
   ·rw[h1];rfl
   ·rw[h1];rfl
   ·rw[h1.1];rfl
  | succ j =>
   obtain⟨h1,h2,h3⟩:=Q8a (show f.same x y∧FkUp x y u fs j from h).2
   exact⟨h1,h2,Nat.succ_lt_succ h3⟩
theorem Q2t: ∀ {fs:List (Fk α)} {cs:List Value} {F:List Nat},OwL w x fs cs F→cs.length=fs.length
 | [],_,_,h=>by rw[h.1];rfl
 | f::fs,_,_,⟨v,r,G,H,e1,e2,hv,hr⟩=>by rw[e1,length_cons,length_cons,Q2t hr]
end
theorem Ycp {l : List Value} {k sz j : Nat} {u : Value} (hj : j < sz) (i : Nat) : Fw.cut sz (l.set (k * sz + j) u) i = if i = k then (Fw.cut sz l k).set j u else Fw.cut sz l i := by
 unfold Fw.cut
 apply List.ext_getElem?
 intro n
 by_cases e:i=k
 ·subst e
  rw[if_pos rfl,getElem?_take,List.getElem?_set]
  by_cases hn:n<sz
  ·rw[if_pos hn,getElem?_drop,List.getElem?_set,getElem?_take,if_pos hn,getElem?_drop]
   by_cases hjn:j=n
   ·subst hjn
    rw[if_pos rfl,if_pos rfl]
    by_cases hl:i*sz+j<l.length
    ·rw[if_pos hl,if_pos (by rw[length_take,length_drop];omega)]
    ·rw[if_neg hl,if_neg (by rw[length_take,length_drop];omega)]
   ·rw[if_neg (by omega),if_neg hjn]
  ·rw[if_neg hn,if_neg (by omega),getElem?_take,if_neg hn]
 ·rw[if_neg e,getElem?_take,getElem?_take]
  by_cases hn:n<sz
  ·rw[if_pos hn,if_pos hn,getElem?_drop,getElem?_drop,List.getElem?_set,if_neg]
   intro h
   rcases Nat.lt_or_gt_of_ne e with h1 | h1
   ·have:=Nat.mul_le_mul_right sz (show i+1≤k by omega)
    rw[Nat.succ_mul] at this
    omega
   ·have:=Nat.mul_le_mul_right sz (show k+1≤i by omega)
    rw[Nat.succ_mul] at this
    omega
  ·rw[if_neg hn,if_neg hn]
theorem put1 {arr:Array Value} {off:Nat} {u:Value} (h:off<arr.size):Qhw arr off 1 [u]=(arr.toList.set off u).toArray:=by
 unfold Qhw
 rw[List.set_eq_take_append_cons_drop,if_pos (by rw[Array.length_toList];exact h),append_assoc]
 rfl
section
variable {c:Cx} {σ:St} {all:Array Oper} {ty:TypeId} {pos:String} {after:Array Edge} {d:Nat}
theorem OpS.stF {α:Type} {dα:Dat α} [s:@Str α dα] [Inhabited α] {t:Nat} {x v:Operand} {r off:Nat} {xs:List α} (k j:Nat) (y:α) {u:Value} (hx:ev σ.ρ x=some (.pt r off)) (hoff:off=k*Dat.sz α+j) (hr:lkE σ.E r=some (.own α dα xs)) (hk:k<xs.length)
  (hv:ev σ.ρ v=some (.v u)) (ht:(c.ti t).cells=some 1) (hu:FkUp (nth xs k) y u s.fk j):
  OpS c σ all ⟨none,.store t x v,ty,pos,after,none⟩ ⟨σ.n,σ.m,σ.ρ,putE r (r,.own α dα (xs.set k y)) σ.E⟩:=
 OpS.of fun θ a w h K Q hK => by
  subst hoff
  obtain⟨S,w1,hh⟩:=h.heap
  obtain⟨l,hl,hown⟩:=hh.own hr
  obtain⟨h1,hcells,hj⟩:=Q8a hu
  have hve:=h.env.con hv
  simp only[V.con,Option.some.injEq] at hve
  rcases hown with ⟨e1,e2,_⟩ | ⟨g,cap,arr,T,Fs,e1,e2,e3,e4,e5,e6,e7,e8⟩
  ·rw[e2] at hk;exact absurd hk (by simp)
  obtain⟨A,cap',F⟩:=l
  injection e1 with e1a e1b e1c
  simp only at e1a e1c e6
  subst e1a
  subst e1c
  subst e6
  have hnk:xs[k]?=some (nth xs k):=by
   unfold nth
   rw[List.getD_eq_getElem?_getD,getElem?_eq_getElem hk]
   rfl
  obtain⟨Gk,hGk,hok⟩:=e8 k _ hnk
  have hjs:j<Dat.sz α:=by
   have e:=Q2t (s.oop hok)
   have:=Dat.rd_len (Dat.own_rd (B:=fun _=>True) hok fun _ _=>trivial)
   omega
  have hle:k*Dat.sz α+Dat.sz α≤arr.size:=by
   have h1:(k+1)*Dat.sz α≤cap'*Dat.sz α:=Nat.mul_le_mul_right _ (by omega)
   rw[Nat.succ_mul] at h1
   omega
  have hxe:=h.env.con hx
  simp only[V.con,hl,Option.some.injEq] at hxe
  have e:(⟨g,0,none⟩:Addr).add (k*Dat.sz α+j)=⟨g,k*Dat.sz α+j,none⟩:=by unfold Addr.add;split<;>simp_all
  have hst:=run_storeCells_at c.P g (k*Dat.sz α+j) T [u] 0 arr w e2 (by rw[List.length_singleton];omega) (fun x hx=>by rw[mem_singleton.1 hx];exact h1)
  have hsz: ∀ w,(sizeOf t).run c.P w= .ok 1 w:=fun w=>TI.cells_size (c.tiok t) ht w
  have hrun:(execOp a.eval ⟨none,.store t x v,ty,pos,after,none⟩).run c.P w= .ok .skip (w.setRow g (Qhw arr (k*Dat.sz α+j) 1 [u])):=by
   have hs:(a.eval v).cells.size=1:=by rw[←hve,hcells];rfl
   simp only[execOp,←hxe,Instr.storeAt,Instr.sureAddr,storeVar,Sem.run_bind,Sem.run_pure,Result.andThen_ok,hsz,hs,ne_eq,not_true_eq_false,if_false,e]
   rw[←hve,hcells,show(#[u]:Array Value).toList=[u] from rfl,hst]
   simp only[Nat.add_zero,List.length_singleton,Result.andThen_ok,Qhw]
  unfold Oper.wp
  rw[hrun,put1 (by omega)]
  have hck:((En.own α dα xs).ck θ r).F=g::Fs.flatten:=Qaj hl
  have hother: ∀ b,b≠g→(w.setRow g (arr.toList.set (k*Dat.sz α+j) u).toArray).heap[b]?=w.heap[b]?:=fun b hb=>setRow_other w g b _ hb
  refine hK [] _ _ ⟨by rw[append_nil];exact h.len,by rw[append_nil];exact h.env,S,w1,?_⟩
  rw[append_nil]
  have hnd:=hh.sh.nd (k:=(Qon hr).choose) (c:=(En.own α dα xs).ck θ r) (by rw[getElem?_map,(Qon hr).choose_spec.1];rfl)
  rw[hck] at hnd
  have hgF:g ∉ Fs.flatten:=(List.nodup_cons.1 hnd).1
  refine hh.turn hr (p:=(r,.own α dα (xs.set k y))) rfl rfl rfl (by simp) (fun b _ hb=>hother b fun e=>hb (by rw[hck,e];exact List.mem_cons_self)) ?_ ?_ ?_ trivial
  ·intro w2 hw2
   have hF':((En.own α dα (xs.set k y)).ck θ r).F=g::Fs.flatten:=Qaj hl
   refine⟨_,hl,Qhj.2 (.inr ⟨g,cap',(arr.toList.set (k*Dat.sz α+j) u).toArray,T,Fs,rfl,?_,by rw[length_set];exact e3,e4,by rw[size_toArray,length_set,Array.length_toList];exact e5,rfl,by rw[length_set];exact e7,fun i x hi=>?_⟩)⟩
   ·exact(hw2 g (by rw[hF'];exact List.mem_cons_self)).trans (setRow_heap w g arr _ T _ e2)
   ·have hsame : ∀ G, Fs[i]? = some G → ∀ b ∈ G, w2.heap[b]? = w.heap[b]? := fun G hG b hb => by
     have hbf:b∈Fs.flatten:=List.mem_flatten.2 ⟨G,mem_of_getElem? hG,hb⟩
     exact(hw2 b (by rw[hF'];exact mem_cons_of_mem _ hbf)).trans (hother b fun e=>hgF (e▸hbf))
    rw[show((arr.toList.set (k*Dat.sz α+j) u).toArray.toList)=arr.toList.set (k*Dat.sz α+j) u from rfl,Ycp hjs]
    rw[List.getElem?_set] at hi
    by_cases e:k=i
    ·subst e
     rw[if_pos rfl,if_pos hk] at hi
     cases hi
     rw[if_pos rfl]
     exact⟨Gk,hGk,Dat.own_same (s.omk (Yga hu (s.oop hok))) (hsame Gk hGk)⟩
    ·rw[if_neg e] at hi
     rw[if_neg (fun h=>e h.symm)]
     obtain⟨G,hG,ho⟩:=e8 i x hi
     exact⟨G,hG,Dat.own_same ho (hsame G hG)⟩
  ·intro b hb
   have hb':b∈g::Fs.flatten:=by
    have:((r,En.own α dα (xs.set k y)).2.ck θ (r,En.own α dα (xs.set k y)).1).F=g::Fs.flatten:=Qaj hl
    rwa [this] at hb
   refine⟨.inl (by rw[hck];exact hb'),?_⟩
   rw[size_setRow]
   exact(hh.sh.ge _ (List.mem_map.2 ⟨_,Qe1 hr,rfl⟩) b (by rw[hck];exact hb')).2
  ·show(locF θ r).Nodup
   rw[Qaj hl]
   exact hnd
end
end
section
theorem Run.midO {c:Cx} {res:List Re} {σ:St} {l:List Oper} {all:Array Oper} {k:List It} (σ2:St) (h:Run c res σ (.ops l all :: .goal (At c σ2)::k)) (hk:Run c res σ2 k):Run c res σ (.ops l all::k):=by
 intro θ a w hR
 rw[Qpy]
 refine Qqh (Mid:=At c σ2) l l.length a w ?_ ?_
 ·rw[List.take_length]
  exact h θ a w hR
 ·rw[List.drop_length]
  rintro a w ⟨θ',hR'⟩
  exact hk θ' a w hR'
theorem Run.bc {c:Cx} {res:List Re} {σ:St} {k:List It} (t:Nat) {b:Bool} (hl:lk σ.ρ t=some (.v (.bool b))) (ht:b=true→Run c res ⟨σ.n,σ.m,(t,.v (.bool true))::σ.ρ,σ.E⟩ k) (hf:b=false→Run c res ⟨σ.n,σ.m,(t,.v (.bool false))::σ.ρ,σ.E⟩ k):Run c res σ k:=by
 intro θ a w hR
 have key : ∀ b', b = b' → R c θ ⟨σ.n, σ.m, (t, .v (.bool b')) :: σ.ρ, σ.E⟩ a w := fun b' hb => by
  subst hb
  refine⟨hR.len,⟨hR.env.size,hR.env.defers,fun t' v hv=>?_⟩,hR.heap⟩
  simp only[lk] at hv
  by_cases e:Nat.beq t t'=true
  ·rw[e] at hv
   obtain rfl:=Nat.eq_of_beq_eq_true e
   cases hv
   exact hR.env.get t _ hl
  ·rw[Bool.not_eq_true] at e
   rw[e] at hv
   exact hR.env.get t' v hv
 cases hb:b with
 | true=>exact ht hb θ a w (key _ hb)
 | false=>exact hf hb θ a w (key _ hb)
section
variable {P:Program} {n:Nat} {ρ:List (Nat×Value)} {a:Act} {w:World} {ty:TypeId}
theorem Yme (hE:Env n ρ a) {x y:Operand} {ts:Array TypeId} {k q:IntKind} {i j:Int} (hx:ev? ρ x=some (.int k i)) (hy:ev? ρ y=some (.int q j)):
    Qb7 P a w (.call { callee:= .builtin .min,args:= #[x,y],argTypes:=ts }) ty (.int k (min i j)):=by
  intro _ _ _ _
  have e:(if j<i then j else i)=min i j:=by split<;>omega
  simp[execOp,resolve,hE.eval hx,hE.eval hy,invoke,builtin,Builtin.min_,Builtin.min2,e]
theorem Ymf (hE:Env n ρ a) {x y:Operand} {ts:Array TypeId} {k q:IntKind} {i j:Int} (hx:ev? ρ x=some (.int k i)) (hy:ev? ρ y=some (.int q j)):
    Qb7 P a w (.call { callee:= .builtin .max,args:= #[x,y],argTypes:=ts }) ty (.int k (max i j)):=by
  intro _ _ _ _
  have e:(if i<j then j else i)=max i j:=by split<;>omega
  simp[execOp,resolve,hE.eval hx,hE.eval hy,invoke,builtin,Builtin.max_,Builtin.max2,e]
def ltB (x y:ByteArray):Bool:=Op.bytesLess x.toList y.toList
theorem Qu4 (hE:Env n ρ a) {x y:Operand} {t t':Nat} {i j:ByteArray} (hx:ev? ρ x=some (.string i)) (hy:ev? ρ y=some (.string j)):
  Qb7 P a w (.binOp .lss t x y t') ty (.bool (ltB i j)):=by
 intro _ _ _ _
 simp only[execOp,hE.eval hx,hE.eval hy,eqGuard_at_string,binOp,Op.stringOp,Qnw,Sem.run_bind,Sem.run_pure,Result.andThen_ok,ltB]
theorem Qu6 (hE:Env n ρ a) {x y:Operand} {t t':Nat} {i j:ByteArray} (hx:ev? ρ x=some (.string i)) (hy:ev? ρ y=some (.string j)):
  Qb7 P a w (.binOp .leq t x y t') ty (.bool (ltB i j||decide (i=j))):=by
 intro _ _ _ _
 simp only[execOp,hE.eval hx,hE.eval hy,eqGuard_at_string,binOp,Op.stringOp,Qnw,Sem.run_bind,Sem.run_pure,Result.andThen_ok,ltB]
theorem Qu7 (hE:Env n ρ a) {x y:Operand} {t t':Nat} {i j:ByteArray} (hx:ev? ρ x=some (.string i)) (hy:ev? ρ y=some (.string j)):
  Qb7 P a w (.binOp .gtr t x y t') ty (.bool (!(ltB i j||decide (i=j)))):=by
 intro _ _ _ _
 simp only[execOp,hE.eval hx,hE.eval hy,eqGuard_at_string,binOp,Op.stringOp,Qnw,Sem.run_bind,Sem.run_pure,Result.andThen_ok,ltB]
theorem Qu8 (hE:Env n ρ a) {x y:Operand} {t t':Nat} {i j:ByteArray} (hx:ev? ρ x=some (.string i)) (hy:ev? ρ y=some (.string j)):
  Qb7 P a w (.binOp .geq t x y t') ty (.bool (!(ltB i j))):=by
 intro _ _ _ _
 simp only[execOp,hE.eval hx,hE.eval hy,eqGuard_at_string,binOp,Op.stringOp,Qnw,Sem.run_bind,Sem.run_pure,Result.andThen_ok,ltB]
end
section
variable {c:Cx} {σ:St} {all:Array Oper} {ty:TypeId} {pos:String} {after:Array Edge} {d:Nat}
theorem OpS.min2 {x y:Operand} {ts:Array TypeId} {k q:IntKind} {i j:Int} (hx:ev σ.ρ x=some (.v (.int k i))) (hy:ev σ.ρ y=some (.v (.int q j))) (hd:Nat.blt d σ.n=true):
    OpS c σ all ⟨some d,.call { callee:= .builtin .min,args:= #[x,y],argTypes:=ts },ty,pos,after,none⟩ (put d (.v (.int k (min i j))) σ):=
  OpS.of fun θ a w h K Q hK => by
    unfold Oper.wp
    rw[Yme (P:=c.P) (w:=w) (ty:=ty) h.env.env (h.env.isv hx) (h.env.isv hy)]
    exact hK [] _ _ (h.put hd rfl).app0
theorem OpS.max2 {x y:Operand} {ts:Array TypeId} {k q:IntKind} {i j:Int} (hx:ev σ.ρ x=some (.v (.int k i))) (hy:ev σ.ρ y=some (.v (.int q j))) (hd:Nat.blt d σ.n=true):
    OpS c σ all ⟨some d,.call { callee:= .builtin .max,args:= #[x,y],argTypes:=ts },ty,pos,after,none⟩ (put d (.v (.int k (max i j))) σ):=
  OpS.of fun θ a w h K Q hK => by
    unfold Oper.wp
    rw[Ymf (P:=c.P) (w:=w) (ty:=ty) h.env.env (h.env.isv hx) (h.env.isv hy)]
    exact hK [] _ _ (h.put hd rfl).app0
def cmpB:BinOp→ByteArray→ByteArray→Option Bool
 | .lss,i,j=>some (ltB i j)
 | .leq,i,j=>some (ltB i j||decide (i=j))
 | .gtr,i,j=>some (!(ltB i j||decide (i=j)))
 | .geq,i,j=>some (!(ltB i j))
 | _,_,_=>none
theorem OpS.scmp {o:BinOp} {t t':Nat} {x y:Operand} {i j:ByteArray} {b:Bool} (hx:ev σ.ρ x=some (.v (.string i))) (hy:ev σ.ρ y=some (.v (.string j))) (hc:cmpB o i j=some b) (hd:Nat.blt d σ.n=true):
  OpS c σ all ⟨some d,.binOp o t x y t',ty,pos,after,none⟩ (put d (.v (.bool b)) σ):=
 OpS.of fun θ a w h K Q hK => by
  have hyy:Qb7 c.P a w (.binOp o t x y t') ty (.bool b):=by
   cases o<;>simp only[cmpB] at hc<;>cases hc
   ·exact Qu4 h.env.env (h.env.isv hx) (h.env.isv hy)
   ·exact Qu6 h.env.env (h.env.isv hx) (h.env.isv hy)
   ·exact Qu7 h.env.env (h.env.isv hx) (h.env.isv hy)
   ·exact Qu8 h.env.env (h.env.isv hx) (h.env.isv hy)
  unfold Oper.wp
  rw[hyy]
  exact hK [] _ _ (h.put hd rfl).app0
end
end
section
section
variable {fn:Func} {Bz:Bs} {S1:Nat→Prop} {w1:World} {hk1:Keep Bz.S0 Bz.w w1} {hs1: ∀ b,Bz.S0 b→S1 b} {hd1: ∀ b,S1 b→b<w1.heap.size} {res:List Re} {k:List It} {σ σ':St} {all:Array Oper} {ty:TypeId} {pos:String} {after:Array Edge} {d:Nat}
theorem sF {α:Type} {dα:Dat α} [s:@Str α dα] [Inhabited α] {t:Nat} {x v:Operand} {r off:Nat} {xs:List α} {u:Value} (kk j:Nat) (y:α) (hu:FkUp (nth xs kk) y u s.fk j) (hk:kk<xs.length) (hx:ev σ.ρ x=some (.pt r off):=by exact Dq0) (hr:lkE σ.E r=some (.own α dα xs):=by exact Dq0) (hv:ev σ.ρ v=some (.v u):=by exact Dq0) (hoff:off=kk*Dat.sz α+j:=by rfl) (ht:(ti t).cells=some 1:=by rfl):
  OpS (cx fn Bz S1 w1 hk1 hs1 hd1) σ all ⟨none,.store t x v,ty,pos,after,none⟩ ⟨σ.n,σ.m,σ.ρ,putE r (r,.own α dα (xs.set kk y)) σ.E⟩:=OpS.stF kk j y hx hoff hr hk hv ht hu
theorem bN {x y:Operand} {ts:Array TypeId} {k q:IntKind} {i j:Int} (hx:ev σ.ρ x=some (.v (.int k i)):=by exact Dq0) (hy:ev σ.ρ y=some (.v (.int q j)):=by exact Dq0) (hd:Nat.blt d σ.n=true:=by rfl):
    OpS (cx fn Bz S1 w1 hk1 hs1 hd1) σ all ⟨some d,.call { callee:= .builtin .min,args:= #[x,y],argTypes:=ts },ty,pos,after,none⟩ (put d (.v (.int k (min i j))) σ):=OpS.min2 hx hy hd
theorem bX {x y:Operand} {ts:Array TypeId} {k q:IntKind} {i j:Int} (hx:ev σ.ρ x=some (.v (.int k i)):=by exact Dq0) (hy:ev σ.ρ y=some (.v (.int q j)):=by exact Dq0) (hd:Nat.blt d σ.n=true:=by rfl):
    OpS (cx fn Bz S1 w1 hk1 hs1 hd1) σ all ⟨some d,.call { callee:= .builtin .max,args:= #[x,y],argTypes:=ts },ty,pos,after,none⟩ (put d (.v (.int k (max i j))) σ):=OpS.max2 hx hy hd
theorem sQ {o:BinOp} {t t':Nat} {x y:Operand} {i j:ByteArray} {b:Bool} (hx:ev σ.ρ x=some (.v (.string i)):=by exact Dq0) (hy:ev σ.ρ y=some (.v (.string j)):=by exact Dq0) (hc:cmpB o i j=some b:=by rfl) (hd:Nat.blt d σ.n=true:=by rfl):
  OpS (cx fn Bz S1 w1 hk1 hs1 hd1) σ all ⟨some d,.binOp o t x y t',ty,pos,after,none⟩ (put d (.v (.bool b)) σ):=OpS.scmp hx hy hc hd
theorem adL {id:Nat} {ops ops':Array Oper} {l:List Oper} (h:Run (cx fn Bz S1 w1 hk1 hs1 hd1) res σ (.ops l ops'::k)) (ho:ops=ops':=by dsimp only[List.append]) (hl:ops'.toList=l:=by dsimp only[List.toList_toArray]):Run (cx fn Bz S1 w1 hk1 hs1 hd1) res σ (.code (.region id ops false)::k):=by
 subst ho
 subst hl
 exact Run.advN 1 rfl h
theorem bc (t:Nat) {b:Bool} (ht:b=true→Run (cx fn Bz S1 w1 hk1 hs1 hd1) res ⟨σ.n,σ.m,(t,.v (.bool true))::σ.ρ,σ.E⟩ k) (hf:b=false→Run (cx fn Bz S1 w1 hk1 hs1 hd1) res ⟨σ.n,σ.m,(t,.v (.bool false))::σ.ρ,σ.E⟩ k) (hl:lk σ.ρ t=some (.v (.bool b)):=by exact Dq0):Run (cx fn Bz S1 w1 hk1 hs1 hd1) res σ k:=Run.bc t hl ht hf
end
end
section
theorem Q82 {f:List Nat} {E:List (Nat×En)}: ∀ {js:List Nat} {E2:List (Nat×En)},SubE f E js E2→ ∀ e∈E2,∃ q e',f[e.1]?=some q∧e.2.ren f=some e'∧(q,e')∈E
 | [],[],_,_,h=>by cases h
 | [],_::_,h,_,_=>h.elim
 | _::_,[],h,_,_=>h.elim
 | i :: is, (r, e) :: E2, h, x, hx => by
  obtain⟨h1,h2⟩:=h
  rcases List.mem_cons.1 hx with rfl | hx
  ·split at h1
   ·rename_i q e' hq he
    exact⟨q,e',Qx9 hq,he,mem_of_getElem? (Ql8 h1)⟩
   ·exact h1.elim
  ·exact Q82 h2 x hx
theorem renθ_pre {f:List Nat} {m0:Nat} {θ0 η:List Loc} (hl:θ0.length=m0) (h0:f.take m0=List.range m0):renθ f (θ0++η)=θ0++renθ (f.drop m0) (θ0++η):=by
 conv=>lhs;rw[←List.take_append_drop m0 f]
 unfold renθ
 rw[List.map_append,h0]
 congr 1
 subst hl
 apply List.ext_getElem?
 intro i
 rw[getElem?_map]
 rcases Nat.lt_or_ge i θ0.length with h | h
 ·rw[List.getElem?_range h,Option.map_some,List.getD_eq_getElem?_getD,getElem?_append_left h,getElem?_eq_getElem h]
  rfl
 ·rw[List.getElem?_eq_none (by rw[List.length_range];exact h),List.getElem?_eq_none h]
  rfl
theorem RunD.sub {c:Cx} {K:Act→World→Prop} {E0:List (Nat×En)} {m0:Nat} {ops:Array Oper} {n:Nat} {M:List (Nat×En)} {listed:Array Bool} {σ σ2:St} (f is js:List Nat) (hs:Sub f is σ σ2) (hn:is.Nodup) (h0:f.take m0=List.range m0) (hM:SubE f M js M) (h:RunD c K E0 m0 ops n M listed σ2):RunD c K E0 m0 ops n M listed σ:=by
 intro θ0 η a w hl hR hS hB0 hF
 have hR2:=hR.sub hs hn
 rw[renθ_pre hl h0] at hR2
 refine h θ0 _ a w hl hR2 hS hB0 fun e he=>⟨?_,(hF e he).2⟩
 obtain⟨q,e',hq,hr,hmem⟩:=Q82 hM e he
 have:=En.ren_ok hq hr (hF _ hmem).1
 rw[renθ_pre hl h0] at this
 exact this
def Q38 (c:Cx) (K:Act→World→Prop) (E0:List (Nat×En)) (m0:Nat) (ops:Array Oper) (n:Nat) (M:List (Nat×En)) (listed:Array Bool) (σ:St):List Nat→Prop
 | []=>True
 | i::is=>Qxi c K E0 m0 ops n M listed σ i∧Q38 c K E0 m0 ops n M listed σ is
theorem Q38.all {c:Cx} {K:Act→World→Prop} {E0:List (Nat×En)} {m0:Nat} {ops:Array Oper} {n:Nat} {M:List (Nat×En)} {listed:Array Bool} {σ:St}: ∀ {L:List Nat},Q38 c K E0 m0 ops n M listed σ L→ ∀ i∈L,Qxi c K E0 m0 ops n M listed σ i
 | [],_,_,h=>by cases h
 | j :: L, h, i, hi => by
  rcases List.mem_cons.1 hi with rfl | hi
  ·exact h.1
  ·exact Q38.all h.2 i hi
end
section
theorem RunD.lit {c:Cx} {K:Act→World→Prop} {E0:List (Nat×En)} {m0:Nat} {ops:Array Oper} {N:Nat} {M:List (Nat×En)} {listed:Array Bool} {σ:St} (r:Nat) {α:Type} {d:Dat α} [s:@Str α d] (ys:List α) {cs:List V} {T n:Nat} (he:lkE σ.E r=some (.lit cs T n)) (hl:ys.length=n) (hm:Nat.ble n 1000=true) (hn:V.names.namesL cs=[]) (ho:ElOk σ.E (Dat.sz α) d s.fk ys cs) (h:RunD c K E0 m0 ops N M listed ⟨σ.n,σ.m,σ.ρ,putE r (r,.own α d ys) σ.E⟩):RunD c K E0 m0 ops N M listed σ:=by
 intro θ0 η a w hl0 hR hS hB0 hM
 obtain⟨S,w1,hh⟩:=hR.heap
 exact h θ0 η a w hl0 ⟨hR.len,hR.env,S,w1,hh.lit he s hl (by have:=Nat.le_of_ble_eq_true hm;unfold maxLen;omega) hn ho⟩ hS hB0 hM
end
section
section
variable {fn:Func} {Bz:Bs} {S1:Nat→Prop} {w1:World} {hk1:Keep Bz.S0 Bz.w w1} {hs1: ∀ b,Bz.S0 b→S1 b} {hd1: ∀ b,S1 b→b<w1.heap.size} {K:Act→World→Prop} {E0:List (Nat×En)} {m0:Nat} {ops:Array Oper} {n:Nat} {M:List (Nat×En)} {listed:Array Bool} {σ σ':St}
theorem dcut {P:Prop} (nn n2:Nat) (is2:List Nat) (σ2:St) (h:P→RunD (cx fn Bz S1 w1 hk1 hs1 hd1) K E0 m0 ops n2 M (Ql6 (Array.replicate nn false) is2) σ2) (hk:(P→RunD (cx fn Bz S1 w1 hk1 hs1 hd1) K E0 m0 ops n2 M (Ql6 (Array.replicate nn false) is2) σ2)→RunD (cx fn Bz S1 w1 hk1 hs1 hd1) K E0 m0 ops n M listed σ):RunD (cx fn Bz S1 w1 hk1 hs1 hd1) K E0 m0 ops n M listed σ:=hk h
theorem dAt {listed2:Array Bool} {σ2:St} (f is js:List Nat) (r:RunD (cx fn Bz S1 w1 hk1 hs1 hd1) K E0 m0 ops n M listed2 σ2) (hs:Sub f is σ σ2) (hl:listed=listed2:=by kernel_rfl) (hn:is.Nodup:=by decide) (h0:f.take m0=List.range m0:=by rfl) (hM:SubE f M js M:=by dsimp only[SubE,V.ren,renL,En.ren,nthE,nthF,lk,cond,Nat.beq,Nat.pred];(repeat' apply And.intro)<;>first | rfl | exact trivial):RunD (cx fn Bz S1 w1 hk1 hs1 hd1) K E0 m0 ops n M listed σ:=by
 subst hl
 exact RunD.sub f is js hs hn h0 hM r
theorem oL (L:List Nat) {n':Nat} (h:Q38 (cx fn Bz S1 w1 hk1 hs1 hd1) K E0 m0 ops n M listed σ L) (hn:n'=n+1:=by rfl) (hr:Region.ready .any ops listed=L:=by kernel_rfl) (hL:L≠[]:=by simp):RunD (cx fn Bz S1 w1 hk1 hs1 hd1) K E0 m0 ops n' M listed σ:=by
 subst hn
 exact RunD.alts hr hL (Q38.all h)
theorem liD (r:Nat) {α:Type} {d:Dat α} [s:@Str α d] (ys:List α) {cs:List V} {T n0:Nat} {E':List (Nat×En)} (h:RunD (cx fn Bz S1 w1 hk1 hs1 hd1) K E0 m0 ops n M listed ⟨σ.n,σ.m,σ.ρ,E'⟩) (he:lkE σ.E r=some (.lit cs T n0):=by exact Dq0) (ho:ElOk σ.E (Dat.sz α) d s.fk ys cs:=by dsimp only[ElOk,Qxh,Qoo,En.payO,lkE,cond,Nat.beq,FkO,agC,List.map,Str.fk,id,List.take,List.drop,List.take_succ_cons,List.drop_succ_cons,List.take_zero,List.drop_zero];repeat' (first | assumption | exact gi _ | exact gs _ | rfl | exact trivial | apply And.intro | omega)) (hl:ys.length=n0:=by rfl) (hm:Nat.ble n0 1000=true:=by rfl) (hn:V.names.namesL cs=[]:=by rfl) (hs:putE r (r,.own α d ys) σ.E=E':=by exact Dq2):RunD (cx fn Bz S1 w1 hk1 hs1 hd1) K E0 m0 ops n M listed σ:=RunD.lit r ys he hl hm hn ho (by rw[hs];exact h)
theorem d2 {i:Nat} {is:List Nat} (h1:Qxi (cx fn Bz S1 w1 hk1 hs1 hd1) K E0 m0 ops n M listed σ i) (h2:Q38 (cx fn Bz S1 w1 hk1 hs1 hd1) K E0 m0 ops n M listed σ is):Q38 (cx fn Bz S1 w1 hk1 hs1 hd1) K E0 m0 ops n M listed σ (i::is):=⟨h1,h2⟩
theorem d0:Q38 (cx fn Bz S1 w1 hk1 hs1 hd1) K E0 m0 ops n M listed σ []:=trivial
end
section
variable {fn:Func} {Bz:Bs} {S1:Nat→Prop} {w1:World} {hk1:Keep Bz.S0 Bz.w w1} {hs1: ∀ b,Bz.S0 b→S1 b} {hd1: ∀ b,S1 b→b<w1.heap.size} {σ σ':St} {all:Array Oper} {ty:TypeId} {pos:String} {after:Array Edge} {d:Nat}
end
theorem gnil {α:Type} {d:Dat α}:(@instDatList α d).good []:=⟨Nat.zero_le _,fun _ h=>by cases h⟩
theorem gdz {p:Prop} (h:p:=by dsimp only[Value.cells,List.toList_toArray,List.map];dsimp only[ElOk,Qxh,Qoo,En.payO,lkE,cond,Nat.beq,FkO,agC,List.map,Str.fk,id,List.take,List.drop,List.take_succ_cons,List.drop_succ_cons,List.take_zero,List.drop_zero];repeat' (first | assumption | exact gi _ | exact gs _ | exact gnil | rfl | exact trivial | apply And.intro | omega)):p:=h
end
section
section
variable {c:Cx} {σ:St} {all:Array Oper} {ty:TypeId} {pos:String} {after:Array Edge} {d:Nat}
theorem OpS.scmpG {op:BinOp} {t t':Nat} {x y:Operand} {i1 i2:ByteArray} {b:Bool} {j:Nat} {want B:Bool} (hB:gB σ.ρ all j want=some B) (hx:evG σ.ρ x=some (.v (.string i1))) (hy:evG σ.ρ y=some (.v (.string i2))) (hside:B=true→Qf8 B True σ.ρ [x,y]) (hc:cmpB op i1 i2=some b) (hd:Nat.blt d σ.n=true):
    OpS c σ all ⟨some d,.binOp op t x y t',ty,pos,after,some (j,want)⟩ (put d (.gd B (.v (.bool b))) σ):=
  OpS.valG hB (fun hb θ a w h => by
    have h1:=Qho h.env hb (hside hb) x (by simp) _ hx
    have h2:=Qho h.env hb (hside hb) y (by simp) _ hy
    have e1:ev? (selfρ a) x=some (.string i1):=by rw[h1.2,←h1.1];rfl
    have e2:ev? (selfρ a) y=some (.string i2):=by rw[h2.2,←h2.1];rfl
    cases op<;>simp only[cmpB] at hc<;>cases hc
    · exact Qu4 h.env.env e1 e2
    · exact Qu6 h.env.env e1 e2
    · exact Qu7 h.env.env e1 e2
    · exact Qu8 h.env.env e1 e2) hd
end
end
section
section
variable {P:Program} {α:Type} [Dat α] {w:World}
theorem Ydq {t ts e ty sz bytes:Nat} {z:Value} (ht:Qeh P t e sz bytes=true) (hsz:sz=Dat.sz α) (hz: ∀ w,(zeroValue e).run P w= .ok z w) (hzs:z.cells.size=sz) {v:Value} {str:ByteArray} {xs ys:List α} {F:List Nat} (hv:SlO w v xs F) (hF:F.Nodup)
  {news:List Value} {Gs:List (List Nat)} (hts:P.underlying ts=some .string) (hstr:str.size=ys.length) (hfirst: ∀ w,(Builtin.firstCells (Dat.sz α) ys.length (.string str)).run P w= .ok news.toArray w) (hl:news.length=ys.length*Dat.sz α) (h1: ∀ u∈news,u.oneCell'=true) (hy:Qke w news ys Gs) (hG:Gs.flatten.Nodup) (hdis: ∀ b∈Gs.flatten,b ∉ F)
  (hb:(xs.length+ys.length)*bytes≤140737488355328) (hm:xs.length+ys.length≤maxLen):
  ∃ v' w' F',(Builtin.append_ #[t,ts] ty #[v,.string str]).run P w= .ok v' w'∧SlO w' v' (xs++ys) F'∧F'.Nodup∧w'.os=w.os∧w'.tape=w.tape∧w'.output=w.output∧w.heap.size≤w'.heap.size∧
   (∀ b,b<w.heap.size→b ∉ F→w'.heap[b]?=w.heap[b]?)∧(∀ b∈F',b∈F∨b∈Gs.flatten∨w.heap.size≤b):=by
 obtain⟨hu,i,hi,his,hib⟩:=Qbd ht
 have hzi:i.zero=some z:=by
  have:=hz w
  simp only[zeroValue,Sem.run_bind,typeInfo,run_program,hi,Sem.run_pure,Result.andThen_ok] at this
  cases hzz:i.zero with
  | none=>rw[hzz] at this;simp at this
  | some z'=>rw[hzz] at this;simp at this;rw[this]
 subst his
 have hszp:0<Dat.sz α:=Dat.sz_pos α
 have grow: ∀ (old:Nat) (olds:List Value) (Fs:List (List Nat)),old<xs.length+ys.length→olds.length=xs.length*Dat.sz α→Qke w olds xs Fs→(Fs.flatten++Gs.flatten).Nodup→(∀ b∈Fs.flatten,b∈F)→
   ∀ v' w',v'= .slice (some ⟨w.heap.size,0,none⟩) (xs.length+ys.length) (grownCap w (xs.length+ys.length) old e)→
    w'=w.drew.alloc (.cells (olds.toArray++news.toArray++Builtin.zeroCells z.cells (grownCap w (xs.length+ys.length) old e - (xs.length+ys.length))) e)→
    ∃ F',SlO w' v' (xs++ys) F'∧F'.Nodup∧w'.os=w.os∧w'.tape=w.tape∧w'.output=w.output∧w.heap.size≤w'.heap.size∧
     (∀ b,b<w.heap.size→b ∉ F→w'.heap[b]?=w.heap[b]?)∧(∀ b∈F',b∈F∨b∈Gs.flatten∨w.heap.size≤b):=by
  intro old olds Fs ho hlo hels hnd hsub v' w' ev ew
  subst ev
  subst ew
  have hge:=grownCap_ge w (xs.length+ys.length) old e
  have hcm:=grownCap_le_maxLen w (xs.length+ys.length) old e hm
  have hsame: ∀ (b:Nat),b<w.heap.size→(w.drew.alloc (.cells (olds.toArray++news.toArray++Builtin.zeroCells z.cells (grownCap w (xs.length+ys.length) old e - (xs.length+ys.length))) e)).heap[b]?=w.heap[b]?:=fun b hb=>heap_alloc_old w.drew _ hb
  have hltF:=hels.lt
  have hltG:=hy.lt
  refine⟨w.heap.size::(Fs++Gs).flatten,?_,?_,rfl,rfl,rfl,by simp,fun b hb _=>hsame b hb,?_⟩
  ·refine Qhj.2 (.inr ⟨w.heap.size,_,_,e,Fs++Gs,by rw[length_append],heap_alloc_new w.drew _,by rw[length_append];exact hge,hcm,?_,rfl,?_⟩)
   ·simp only[Array.size_append,size_toArray,size_zeroCells,hzs,hlo,hl,hsz]
    rw[←Nat.add_mul,←Nat.add_mul]
    exact Nat.mul_le_mul_right _ (by omega)
   ·refine(hels.same fun b hb=>hsame b (hltF b hb)).app (hy.same fun b hb=>hsame b (hltG b hb)) (l':=news) ?_ (by omega)
    simp only[Array.toList_append,append_assoc]
    rw[←append_assoc,List.take_append_of_le_length (by rw[length_append,hlo,hl,Nat.add_mul];exact Nat.le_refl _),take_of_length_le (by rw[length_append,hlo,hl,Nat.add_mul];exact Nat.le_refl _),
     take_of_length_le (by rw[hlo];exact Nat.le_refl _)]
  ·rw[List.flatten_append]
   refine List.nodup_cons.2 ⟨fun hb=>?_,hnd⟩
   rcases List.mem_append.1 hb with hb | hb
   ·exact absurd (hltF _ hb) (by omega)
   ·exact absurd (hltG _ hb) (by omega)
  ·intro b hb
   rw[List.flatten_append] at hb
   rcases List.mem_cons.1 hb with rfl | hb
   ·exact .inr (.inr (Nat.le_refl _))
   ·rcases List.mem_append.1 hb with hb | hb
    ·exact .inl (hsub b hb)
    ·exact .inr (.inl hb)
 rcases Qhj.1 hv with ⟨rfl,rfl,rfl⟩ | ⟨g,cap,arr,T,Fs,rfl,hg,hlc,hcm,hsize,rfl,hels⟩
 ·by_cases h0:ys.length=0
  ·have:ys=[]:=List.eq_nil_of_length_eq_zero h0
   subst this
   refine⟨.slice none 0 0,w,[],?_,Qhj.2 (.inl ⟨rfl,rfl,rfl⟩),by simp,rfl,rfl,rfl,Nat.le_refl _,fun _ _ _=>rfl,fun b hb=>by cases hb⟩
   simp only[length_nil] at hfirst ⊢
   simp[Builtin.append_,run_underlying hu,run_underlying hts,hstr,sizeOf,typeInfo,hi,Builtin.lenOf,hsz,hfirst]
  ·obtain⟨F',h⟩:=grow 0 [] [] (by simp;omega) (by simp) Qke.nil (by simpa using hG) (by simp) _ _ rfl rfl
   refine⟨_,_,F',?_,h⟩
   have h63': ¬ (9223372036854775807<(ys.length:Int)):=by simp only[List.length_nil,Nat.zero_add,maxLen] at hm;omega
   have h48': ¬ (281474976710656<Builtin.nextslicecap ys.length 0*i.bytes):=by rw[nextslicecap_zero (by omega),hib];simp only[List.length_nil,Nat.zero_add] at hb;omega
   simp only[length_nil,Nat.zero_add,Array.empty_append,List.toArray]
   simp[Builtin.append_,run_underlying hu,run_underlying hts,hstr,sizeOf,typeInfo,hi,hzi,Builtin.lenOf,hsz,hfirst,h0,h63',h48',zeroValue,grownCap,run_firstCells_none,newRow,Question.forced]
 ·have hal:arr.toList.length=arr.size:=Array.length_toList
  by_cases hroom:xs.length+ys.length≤cap
  ·have hcut:(xs.length+ys.length)*Dat.sz α≤arr.size:=Nat.le_trans (Nat.mul_le_mul_right _ hroom) hsize
   rw[Nat.add_mul] at hcut
   have hst:=run_storeCells_at P g (xs.length*Dat.sz α) T news 0 arr w hg (by omega) h1
   simp only[Nat.add_zero] at hst
   have hother: ∀ b,b≠g→(w.setRow g (arr.toList.take (xs.length*Dat.sz α)++news++arr.toList.drop (xs.length*Dat.sz α+news.length)).toArray).heap[b]?=w.heap[b]?:=fun b hb=>setRow_other w g b _ hb
   have hnd:=hF
   rw[List.nodup_cons] at hnd
   refine⟨_,_,g::(Fs++Gs).flatten,?_,Qhj.2 (.inr ⟨g,cap,_,T,Fs++Gs,rfl,setRow_heap w g arr _ T _ hg,by rw[length_append];exact hroom,hcm,?_,rfl,?_⟩),?_,rfl,rfl,rfl,by simp,fun b _ hb=>hother b (fun e=>hb (by simp[e])),?_⟩
   ·rw[length_append]
    simp[Builtin.append_,run_underlying hu,run_underlying hts,hstr,sizeOf,typeInfo,hi,Builtin.lenOf,hroom,hsz,hfirst,Addr.add_lit,hst]
   ·simp only[size_toArray,length_append,length_take,length_drop,hal]
    omega
   ·refine(hels.same fun b hb=>hother b (fun e=>hnd.1 (e▸hb))).app (hy.same fun b hb=>hother b (fun e=>hdis b hb (by simp[e]))) (l':=news) ?_ (by rw[hal];omega)
    rw[append_assoc,←append_assoc,List.take_append_of_le_length (by rw[length_append,length_take,hal,hl,Nat.add_mul];omega),take_of_length_le (by rw[length_append,length_take,hal,hl,Nat.add_mul];omega)]
   ·rw[List.flatten_append]
    refine List.nodup_cons.2 ⟨fun hb=>?_,List.nodup_append.2 ⟨hnd.2,hG,fun a ha b hb'=>?_⟩⟩
    ·rcases List.mem_append.1 hb with hb | hb
     ·exact hnd.1 hb
     ·exact hdis g hb (by simp)
    ·rintro rfl
     exact hdis a hb' (mem_cons_of_mem _ ha)
   ·intro b hb
    rw[List.flatten_append] at hb
    rcases List.mem_cons.1 hb with rfl | hb
    ·exact .inl (by simp)
    ·rcases List.mem_append.1 hb with hb | hb
     ·exact .inl (mem_cons_of_mem _ hb)
     ·exact .inr (.inl hb)
  ·have hnd:=hF
   rw[List.nodup_cons] at hnd
   have hsz':xs.length*Dat.sz α≤arr.size:=Nat.le_trans (Nat.mul_le_mul_right _ hlc) hsize
   have hlo:(arr.toList.take (xs.length*Dat.sz α)).length=xs.length*Dat.sz α:=by rw[List.length_take,hal];omega
   have hels' : Qke w (arr.toList.take (xs.length * Dat.sz α)) xs Fs := ⟨hels.1, fun i x hi => by
    obtain⟨G,hG,ho⟩:=hels.2 i x hi
    refine⟨G,hG,?_⟩
    rw[Qos ((List.getElem?_eq_some_iff.1 hi).1)]
    exact ho⟩
   obtain⟨F',h⟩:=grow cap (arr.toList.take (xs.length*Dat.sz α)) Fs (by omega) hlo hels' (List.nodup_append.2 ⟨hnd.2,hG,fun a ha b hb'=>by rintro rfl;exact hdis a hb' (mem_cons_of_mem _ ha)⟩) (fun b hb=>mem_cons_of_mem _ hb) _ _ rfl rfl
   refine⟨_,_,F',?_,h⟩
   have hrow:Qcf w ⟨g,0,none⟩ arr.toList:=Qcf.row (by simpa using hg)
   have holds : ∀ j u, (arr.toList.take (xs.length * Dat.sz α))[j]? = some u → w.cell? ((⟨g, 0, none⟩ : Addr).add j) = some u := fun j u hj => by
    rw[getElem?_take] at hj
    split at hj
    ·exact hrow j u hj
    ·cases hj
   have hf2:=run_firstCells_some (P:=P) w.drew (Dat.sz α) xs.length ⟨g,0,none⟩ xs.length cap _ hlo holds
   have h63': ¬ (9223372036854775807<((xs.length:Int)+(ys.length:Int))):=by simp only[maxLen] at hm;omega
   have h48': ¬ (281474976710656<Builtin.nextslicecap (xs.length+ys.length) cap*i.bytes):=by have:=growslice_fits (old:=cap) (need:=xs.length+ys.length) (bytes:=i.bytes) (by omega) (by rw[hib];exact hb);omega
   have hng: ¬ (xs.length+ys.length≤cap):=hroom
   simp[Builtin.append_,run_underlying hu,run_underlying hts,hstr,sizeOf,typeInfo,hi,hzi,Builtin.lenOf,hsz,hfirst,hf2,hng,h63',h48',zeroValue,grownCap,newRow,Question.forced]
   congr 2
   apply Array.ext'
   simp[append_assoc]
end
section
variable {c:Cx} {σ:St} {all:Array Oper} {ty:TypeId} {pos:String} {after:Array Edge} {d:Nat}
end
end
section
section
variable {fn:Func} {Bz:Bs} {S1:Nat→Prop} {w1:World} {hk1:Keep Bz.S0 Bz.w w1} {hs1: ∀ b,Bz.S0 b→S1 b} {hd1: ∀ b,S1 b→b<w1.heap.size} {σ:St} {all:Array Oper} {ty:TypeId} {pos:String} {after:Array Edge} {d:Nat}
theorem sQG {op:BinOp} {t t':Nat} {x y:Operand} {i1 i2:ByteArray} {b:Bool} {j:Nat} {want B:Bool} (hB:gB σ.ρ all j want=some B:=by exact Dq0) (hx:evG σ.ρ x=some (.v (.string i1)):=by exact Dq0) (hy:evG σ.ρ y=some (.v (.string i2)):=by exact Dq0) (hside:B=true→Qf8 B True σ.ρ [x,y]:=by intro h;first | exact trivial | (dsimp only[Qf8,sdV,ev,lk,cond,Nat.beq,V.side,List.toList_toArray];(repeat' apply And.intro)<;>first | exact trivial | exact h | exact fun h=>h | exact(Bool.and_eq_true_iff.1 h).1 | exact(Bool.and_eq_true_iff.1 h).2 | exact fun h=>(Bool.and_eq_true_iff.1 h).1 | exact fun h=>(Bool.and_eq_true_iff.1 h).2 | exact fun h=>(Bool.and_eq_true_iff.1 (Bool.and_eq_true_iff.1 h).1).1 | (intro h;simp_all))) (hc:cmpB op i1 i2=some b:=by rfl) (hd:Nat.blt d σ.n=true:=by rfl):
  OpS (cx fn Bz S1 w1 hk1 hs1 hd1) σ all ⟨some d,.binOp op t x y t',ty,pos,after,some (j,want)⟩ (put d (.gd B (.v (.bool b))) σ):=OpS.scmpG hB hx hy hside hc hd
end
end
section
def flV {α:Type} (x:α):List (Fk α)→List V
 | []=>[]
 | .int g::fs=> .v (.int .i64 (g x))::flV x fs
 | .byte g::fs=> .v (.int .u8 (g x).toNat)::flV x fs
 | .bool g::fs=> .v (.bool (g x))::flV x fs
 | .str g::fs=> .v (.string (g x))::flV x fs
 | .sl _ _ _::fs=>flV x fs
theorem Qyn {α:Type} {w:World} {x:α} {θ:List Loc}: ∀ {fk:List (Fk α)} {cs:List Value} {F:List Nat},Qqw fk=true→OwL w x fk cs F→conL θ (flV x fk)=some cs
 | [],_,_,_,h=>by rw[h.1];rfl
 | f :: fs, _, _, hf, ⟨v, r, G, H, e1, e2, hv, hr⟩ => by
  subst e1
  cases f with
  | int g=>exact Qgo (congrArg some hv.1.1.symm) (Qyn hf hr)
  | byte g=>exact Qgo (congrArg some hv.1.symm) (Qyn hf hr)
  | bool g=>exact Qgo (congrArg some hv.1.symm) (Qyn hf hr)
  | str g=>exact Qgo (congrArg some hv.1.1.symm) (Qyn hf hr)
  | sl=>cases hf
section
variable {c:Cx} {σ:St} {all:Array Oper} {ty:TypeId} {pos:String} {after:Array Edge} {d:Nat}
theorem OpS.ldO {α:Type} {dα:Dat α} [s:@Str α dα] [Inhabited α] {t:Nat} {x:Operand} {r off:Nat} {xs:List α} {v:V} (k:Nat) (hx:ev σ.ρ x=some (.pt r off)) (hoff:off=k*Dat.sz α) (hr:lkE σ.E r=some (.own α dα xs)) (hk:k<xs.length)
  (hfl:Qqw s.fk=true) (hv:ldC (c.ti t) 0 (flV (nth xs k) s.fk)=some v) (hd:Nat.blt d σ.n=true):
  OpS c σ all ⟨some d,.load t x,ty,pos,after,none⟩ (put d v σ):=
 OpS.of fun θ a w h K Q hK => by
  subst hoff
  obtain⟨S,w1,hh⟩:=h.heap
  obtain⟨l,hl,hown⟩:=hh.own hr
  rcases hown with ⟨e1,e2,_⟩ | ⟨g,cap,arr,T,Fs,e1,e2,e3,e4,e5,e6,e7,e8⟩
  ·rw[e2] at hk;exact absurd hk (by simp)
  obtain⟨G,hG,ho⟩:=e8 k (nth xs k) (by rw[getElem?_eq_getElem hk];simp only[nth,List.getD_eq_getElem?_getD,getElem?_eq_getElem hk,Option.getD_some])
  have hcon:conL θ (flV (nth xs k) s.fk)=some (Fw.cut (Dat.sz α) arr.toList k):=Qyn hfl (s.oop ho)
  have hcells:Qcf w ((⟨g,0,none⟩:Addr).add (k*Dat.sz α)) (Fw.cut (Dat.sz α) arr.toList k):=(Qcf.row (by simpa using e2)).part rfl
  have hxe:=h.env.con hx
  have hA:l.A=some ⟨g,0,none⟩:=by injection e1
  obtain⟨l',A',h1',h2',hp⟩:=Qqz hxe
  rw[hl] at h1';cases h1'
  rw[hA] at h2';cases h2'
  have hx':=h.env.ev1 hx
  rw[hp] at hx'
  have hE:=h.env.env
  have hti:=c.tiok t
  unfold ldC at hv
  have hz0: ∀ A:Addr,(A.add 0)=A:=fun A=>Addr.add_zero' A
  have hx2:ev? (selfρ a) x=some (.pointer (some (((⟨g,0,none⟩:Addr).add (k*Dat.sz α)).add 0))):=by rw[hz0];exact hx'
  split at hv
  ·cases hv
  ·rename_i n offs heq
   rw[heq] at hti
   simp only[TI.chk,Bool.and_eq_true] at hti
   cases hb:Nat.ble (0+n) (flV (nth xs k) s.fk).length with
   | false=>rw[hb] at hv;cases hv
   | true =>
    rw[hb] at hv
    cases hv
    have hlen:=Qhi hcon
    have hle:=Nat.le_of_ble_eq_true hb
    have hy:=Q2b (P:=c.P) (w:=w) (ty:=ty) hE hx2 hcells (t:=t) (k:=n) rfl (by rw[length_take,length_drop];omega) hti.1
    unfold Oper.wp
    rw[hy]
    refine hK [] _ _ (h.put hd (v:= .ag (((flV (nth xs k) s.fk).drop 0).take n)) ?_).app0
    simp only[V.con,Qob n (Qoc 0 hcon),Option.map_some]
  ·rename_i hno hst
   obtain⟨u,hu,hcu⟩:=Qql hcon (Qpi hv)
   have hy:=Qnt (P:=c.P) (w:=w) (ty:=ty) hE hx2 hcells hu (t:=t) (by
    rcases TI.one_of hti with ⟨n,o,e⟩ | e | h
    ·exact absurd e (by intro h;exact hst n o h)
    ·exact absurd e (by intro h;exact hno h)
    ·exact h.1)
   unfold Oper.wp
   rw[hy]
   exact hK [] _ _ (h.put hd hcu).app0
def OpSx (c:Cx) (σ:St) (all:Array Oper) (o:Oper) {ι:Type} (σ':ι→St) (G:ι→Prop):Prop:=
 ∀ θ a w,R c θ σ a w→ ∀ (K:Act→World→Prop) (Q:Exit→Act→World→Prop),(∀ i η a' w',R c (θ++η) (σ' i) a' w'→G i→K a' w')→
  if Region.wanted o (yielded all a.tmps) then o.wp c.P a w K Q else K (a.put o.dst undef) w
theorem Run.opx {res:List Re} {o:Oper} {r:List Oper} {k:List It} {ι:Type} {σ':ι→St} {G:ι→Prop} (ho:OpSx c σ all o σ' G) (h: ∀ i,G i→Run c res (σ' i) (.ops r all::k)):Run c res σ (.ops (o::r) all::k):=by
 intro θ a w hR
 rw[Qpy]
 refine wpList_step fun K hK=>?_
 exact ho θ a w hR K _ fun i η a' w' h' hg=>hK _ _ (h i hg _ a' w' h')
theorem OpS.isNil {α:Type} {dα:Dat α} {t t' e by' r len:Nat} {x:Operand} {xs:List α} (hx:ev σ.ρ x=some (.sl r len)) (hp:payE σ.E r=some ⟨α,dα,xs⟩) (hl:len=xs.length) (ht:c.ti t= .sl e (Dat.sz α) by') (hd:Nat.blt d σ.n=true):
  OpSx c σ all ⟨some d,.binOp .eql t x (.const (.slice none 0 0)) t',ty,pos,after,none⟩ (fun b:Bool=>put d (.v (.bool b)) σ) (fun b=>b=true→xs=[]):=by
 intro θ a w h K Q hK
 rw[if_pos (by simp[Region.wanted])]
 subst hl
 obtain⟨S,w1,hh⟩:=h.heap
 have hA: ∃ l:Loc,θ[r]?=some l∧(l.A=none→xs=[]):=by
  rcases Qx6 hp with he | he
  ·obtain⟨l,hl,ho⟩:=hh.own he
   refine⟨l,hl,fun hn=>?_⟩
   rcases ho with ⟨_,e2,_⟩ | ⟨g,cap,arr,T,Fs,e1,_⟩
   ·exact e2
   ·injection e1 with e1;rw[hn] at e1;cases e1
  ·obtain⟨l,hl,A,cap,e1,_,_,e3⟩:=hh.ok _ (Qe1 he)
   refine⟨l,hl,fun hn=>Classical.byContradiction fun hne=>?_⟩
   obtain⟨ad,had,_⟩:=e3 hne
   injection e1 with e1
   rw[hn] at e1
   subst e1
   cases had
 obtain⟨l,hl,hnil⟩:=hA
 have hc:=h.env.con hx
 simp only[V.con,hl,Option.some.injEq] at hc
 have hu:=(Qbd (c.tsl ht)).1
 have hrun:(execOp a.eval ⟨some d,.binOp .eql t x (.const (.slice none 0 0)) t',ty,pos,after,none⟩).run c.P w= .ok (.value (.bool l.A.isNone)) w:=by
  have h1:=Lib.run_eql_slice_nil w t _ l.A xs.length l.cap 0 0 hu
  have h2:a.eval (.const (.slice none 0 0))= .slice none 0 0:=rfl
  simp only[execOp,←hc,h2,eqGuard_at_slice,Sem.run_bind,Sem.run_pure,Result.andThen_ok,h1]
 unfold Oper.wp
 rw[hrun,Oper.upon_value]
 refine hK l.A.isNone [] _ _ (h.put hd rfl).app0 fun hb=>hnil ?_
 cases hA:l.A with
 | none=>rfl
 | some A=>rw[hA] at hb;cases hb
theorem Qlh: ∀ {k:Nat} {Fs:List (List Nat)},List.Sublist (Fs.take k).flatten Fs.flatten
 | 0,Fs=>by simp
 | k+1,[]=>by simp
 | k + 1, F :: Fs => by
  rw[List.take_succ_cons,List.flatten_cons,List.flatten_cons]
  exact(List.Sublist.refl F).append Qlh
theorem SlO.pre {α:Type} [Dat α] {w:World} {l:Loc} {xs:List α} {k:Nat} (hk:k≤xs.length) (h:SlO w (.slice l.A xs.length l.cap) xs l.F):
  ∃ F',List.Sublist F' l.F∧ ∀ w2:World,(∀ b∈F',w2.heap[b]?=w.heap[b]?)→SlO w2 (.slice l.A (xs.take k).length l.cap) (xs.take k) F':=by
 rcases h with ⟨e1,e2,e3⟩ | ⟨g,cap,arr,T,Fs,e1,e2,e3,e4,e5,e6,e7,e8⟩
 ·subst e2
  injection e1 with h1 h2 h3
  refine⟨[],List.nil_sublist _,fun w2 _=> .inl ⟨?_,by simp,rfl⟩⟩
  rw[h1,h3]
  simp
 ·injection e1 with h1 h2 h3
  refine⟨g::(Fs.take k).flatten,by rw[e6];exact Qlh.cons_cons _,fun w2 hw=> .inr ⟨g,cap,arr,T,Fs.take k,by rw[h1,h3],(hw g (by simp)).trans e2,by rw[length_take];omega,e4,e5,rfl,by rw[length_take,length_take,e7],fun i x hi=>?_⟩⟩
  rw[getElem?_take] at hi
  by_cases hik:i<k
  ·rw[if_pos hik] at hi
   obtain⟨G,hG,ho⟩:=e8 i x hi
   have hG':(Fs.take k)[i]?=some G:=by rw[List.getElem?_take,if_pos hik,hG]
   exact⟨G,hG',Dat.own_same ho fun b hb=>hw b (mem_cons_of_mem _ (Qi4 hG' hb))⟩
  ·rw[if_neg hik] at hi
   cases hi
theorem OpS.cutO {α:Type} {dα:Dat α} {t e by' r len:Nat} {x y:Operand} {i:Int} {xs:List α} (k:Nat) (hk:k≤xs.length) (hx:ev σ.ρ x=some (.sl r len)) (hy:ev σ.ρ y=some (.v (.int .i64 i))) (hr:lkE σ.E r=some (.own α dα xs)) (hl:len=xs.length) (hi:i=k) (ht:c.ti t= .sl e (Dat.sz α) by') (hd:Nat.blt d σ.n=true):
  OpS c σ all ⟨some d,.slice t x none (some y) none,ty,pos,after,none⟩ ⟨σ.n,σ.m+1,(d,.sl σ.m (xs.take k).length)::σ.ρ,(σ.m,.own α dα (xs.take k))::Qhd [r] σ.E⟩:=
 OpS.of fun θ a w h K Q hK => by
  subst hl
  subst hi
  obtain⟨S,w1,hh⟩:=h.heap
  obtain⟨l,hlo,hown⟩:=hh.own hr
  have hc:=h.env.con hx
  simp only[V.con,hlo,Option.some.injEq] at hc
  have hu:=(Qbd (c.tsl ht)).1
  obtain⟨inf,hin,hsz,_⟩:=(Qbd (c.tsl ht)).2
  have hcap:=(Quw (hown.rd (B:=fun _=>True) fun _ _=>trivial)).1
  have hA0:l.A.map (fun b=>b.add 0)=l.A:=by cases l.A<;>simp[Addr.add]
  have hle:k≤l.cap:=by omega
  have elen:(xs.take k).length=k:=by rw[List.length_take];omega
  have hrun:(execOp a.eval ⟨some d,.slice t x none (some y) none,ty,pos,after,none⟩).run c.P w= .ok (.value (.slice l.A k l.cap)) w:=by
   simp[execOp,←hc,h.env.env.eval (h.env.isv hy),Instr.sliceAt,Instr.slice,run_underlying hu,Instr.sliceBounds,Instr.sliceBound,asIntOf,hle,sizeOf,typeInfo,hin,hA0]
  unfold Oper.wp
  rw[hrun,Oper.upon_value]
  obtain⟨F',hF',hS⟩:=SlO.pre hk hown
  let l':Loc:=⟨l.A,l.cap,F'⟩
  have hg':(θ++[l'])[σ.m]?=some l':=by rw[←h.len];exact Qfu
  have hgr:=Qem (θ':=[l']) hlo
  have hon:ownN σ.E r:=⟨⟨α,dα,xs⟩,by unfold Qoo;rw[hr];rfl⟩
  have hFt: ∀ b∈l.F,b∈(Qnv [r] σ.E).flatMap (fun e=>(e.2.ck (θ++[l']) e.1).F):=fun b hb=>Qpj (mem_singleton.2 rfl) hon (by rw[Qaj hgr];exact hb)
  have hlF:((En.own α dα xs).ck θ r).F=l.F:=Qaj hlo
  have hge:=hh.sh.ge _ (List.mem_map.2 ⟨_,Qe1 hr,rfl⟩)
  have hnd:l.F.Nodup:=by
   obtain⟨i,hi⟩:=List.getElem?_of_mem (List.mem_map.2 ⟨_,Qe1 hr,rfl⟩:(En.own α dα xs).ck θ r∈σ.E.map fun e=>e.2.ck θ e.1)
   have:=(Qbs.1 hh.sh.apart).1 i _ hi
   rwa [hlF] at this
  have hfuse:=(hh.ext (θ':=[l'])).fuse [r] (p:=(σ.m,En.own α dα (xs.take k))) (w':=w) rfl rfl rfl (Nat.le_refl _) (fun _ _ _=>rfl) ?_ ?_ ?_ trivial
  ·refine hK [l'] _ _ ⟨by rw[length_append,h.len];rfl,(h.env.ext (θ':=[l'])).put hd ?_,S,w1,hfuse⟩
   simp only[V.con,hg',elen,l']
  ·intro w2 hw2
   refine⟨l',hg',hS w2 fun b hb=>hw2 b ?_⟩
   show b∈locF _ σ.m
   rw[Qaj hg']
   exact hb
  ·intro b hb
   have hb':b∈F':=by
    have:b∈locF (θ++[l']) σ.m:=hb
    rwa [Qaj hg'] at this
   exact⟨.inl (hFt b (hF'.subset hb')),(hge b (by rw[hlF];exact hF'.subset hb')).2⟩
  ·show(locF _ σ.m).Nodup
   rw[Qaj hg']
   exact hnd.sublist hF'
theorem Qum {sz k m : Nat} {l ds : List Value} (hd : ds.length = m * sz) (hl : k * sz + m * sz ≤ l.length) (i : Nat) : Fw.cut sz (l.take (k * sz) ++ ds ++ l.drop (k * sz + m * sz)) i = if i < k then Fw.cut sz l i else if i < k + m then Fw.cut sz ds (i - k) else Fw.cut sz l i := by
 have h1:(l.take (k*sz)).length=k*sz:=by rw[List.length_take];omega
 have h2:(l.take (k*sz)++ds).length=(k+m)*sz:=by rw[List.length_append,h1,hd,Nat.add_mul]
 by_cases hi:i<k
 ·rw[if_pos hi,append_assoc,Qj8 h1 hi,Qos hi]
 ·rw[if_neg hi]
  by_cases hm:i<k+m
  ·rw[if_pos hm,Qj8 h2 hm,Qli h1 (by omega)]
  ·rw[if_neg hm,Qli h2 (by omega)]
   unfold Fw.cut
   rw[List.drop_drop,←Nat.add_mul,←Nat.add_mul,show k+m+(i - (k+m))=i by omega]
theorem Q8w {z:Array Value} {n i:Nat} (hz:0<z.size) (hi:i<n):Fw.cut z.size (Builtin.zeroCells z n).toList i=z.toList:=by
 apply List.ext_getElem?
 intro q
 unfold Fw.cut Builtin.zeroCells
 rw[getElem?_take]
 by_cases hq:q<z.size
 ·rw[if_pos hq,getElem?_drop]
  have hlt:i*z.size+q<n*z.size:=by
   have:=Nat.mul_le_mul_right z.size (show i+1≤n by omega)
   rw[Nat.succ_mul] at this
   omega
  have hmod:(i*z.size+q) % z.size=q:=by rw[Nat.add_comm,Nat.add_mul_mod_self_right,Nat.mod_eq_of_lt hq]
  simp[hlt,hmod,hq]
 ·rw[if_neg hq,List.getElem?_eq_none (by rw[Array.length_toList];omega)]
theorem EnvV.putU {n:Nat} {θ:List Loc} {ρ:List (Nat×V)} {a:Act} (h:EnvV n θ ρ a) {d:Nat} (hd:lk ρ d=none) (x:Value):EnvV n θ ρ (a.put (some d) x):=by
 refine⟨by simp[Act.put,h.size],by simp[Act.put,h.defers],fun t v hv=>?_⟩
 obtain⟨h1,h2⟩:=h.get t v hv
 refine⟨?_,h2⟩
 have hne:d≠t:=fun e=>by rw[←e,hd] at hv;cases hv
 rw[h1]
 simp only[Act.put,Array.getD_eq_getD_getElem?]
 rw[Array.getElem?_setIfInBounds_ne hne]
theorem R.turnO {θ:List Loc} {a:Act} {w w':World} {α:Type} {dα:Dat α} {r:Nat} {l:Loc} {xs zs:List α} {F':List Nat} (h:R c θ σ a w) (hr:lkE σ.E r=some (.own α dα xs)) (hlo:θ[r]?=some l) (hos:w'.os=w.os) (htape:w'.tape=w.tape) (hout:w'.output=w.output) (hsize:w.heap.size≤w'.heap.size)
  (hsame: ∀ b,b<w.heap.size→b ∉ l.F→w'.heap[b]?=w.heap[b]?) (hS: ∀ w2:World,(∀ b∈F',w2.heap[b]?=w'.heap[b]?)→SlO w2 (.slice l.A zs.length l.cap) zs F') (hF: ∀ b∈F',(b∈l.F∨w.heap.size≤b)∧b<w'.heap.size) (hn:F'.Nodup):
  R c (θ++[⟨l.A,l.cap,F'⟩]) (Qdm σ r dα zs []) a w':=by
 obtain⟨S,w1,hh⟩:=h.heap
 let l':Loc:=⟨l.A,l.cap,F'⟩
 have hg':(θ++[l'])[σ.m]?=some l':=by rw[←h.len];exact Qfu
 have hgr:=Qem (θ':=[l']) hlo
 have hon:ownN σ.E r:=⟨⟨α,dα,xs⟩,by unfold Qoo;rw[hr];rfl⟩
 have hFt: ∀ b∈l.F,b∈(Qnv [r] σ.E).flatMap (fun e=>(e.2.ck (θ++[l']) e.1).F):=fun b hb=>Qpj (mem_singleton.2 rfl) hon (by rw[Qaj hgr];exact hb)
 have hfuse:=(hh.ext (θ':=[l'])).fuse [r] (p:=(σ.m,En.own α dα zs)) (w':=w') hos htape hout hsize (fun b hbl hbn=>hsame b hbl fun hb=>hbn (hFt b hb)) ?_ ?_ ?_ trivial
 ·exact⟨by rw[length_append,h.len];rfl,(h.env.ext (θ':=[l'])).rn hgr hg' rfl rfl,S,w1,hfuse.rn hgr hg' rfl rfl⟩
 ·intro w2 hw2
  refine⟨l',hg',hS w2 fun b hb=>hw2 b ?_⟩
  show b∈locF _ σ.m
  rw[Qaj hg']
  exact hb
 ·intro b hb
  have hb':b∈F':=by
   have:b∈locF (θ++[l']) σ.m:=hb
   rwa [Qaj hg'] at this
  exact⟨(hF b hb').1.elim (fun h=> .inl (hFt b h)) .inr,(hF b hb').2⟩
 ·show(locF _ σ.m).Nodup
  rw[Qaj hg']
  exact hn
theorem RH.ownF {θ:List Loc} {E:List (Nat×En)} {S:Nat→Prop} {w1 w:World} (hh:RH c θ E S w1 w) {α:Type} {dα:Dat α} {r:Nat} {l:Loc} {xs:List α} (hr:lkE E r=some (.own α dα xs)) (hlo:θ[r]?=some l):l.F.Nodup∧ ∀ b∈l.F,b<w.heap.size:=by
 have hlF:((En.own α dα xs).ck θ r).F=l.F:=Qaj hlo
 have hge:=hh.sh.ge _ (List.mem_map.2 ⟨_,Qe1 hr,rfl⟩)
 refine⟨?_,fun b hb=>(hge b (by rw[hlF];exact hb)).2⟩
 obtain⟨i,hi⟩:=List.getElem?_of_mem (List.mem_map.2 ⟨_,Qe1 hr,rfl⟩:(En.own α dα xs).ck θ r∈E.map fun e=>e.2.ck θ e.1)
 have:=(Qbs.1 hh.sh.apart).1 i _ hi
 rwa [hlF] at this
theorem Run.clr {res:List Re} {k0:List It} {rest:List Oper} {α:Type} {dα:Dat α} {t e by' r len dd:Nat} {x y:Operand} {i:Int} {xs:List α} {zv:Value} {ty2:TypeId} {pos2:String} {after2:Array Edge} (z:α) (k:Nat) (hk:k≤xs.length) (h:Run c res (Qdm σ r dα (xs.take k++List.replicate (xs.length - k) z) []) (.ops rest all::k0))
    (hx:ev σ.ρ x=some (.sl r len)) (hy:ev σ.ρ y=some (.v (.int .i64 i))) (hr:lkE σ.E r=some (.own α dα xs)) (hl:len=xs.length) (hi:i=k) (ht:c.ti t= .sl e (Dat.sz α) by') (hz:c.zr e=some zv) (hzs:zv.cells.size=Dat.sz α) (hz1: ∀ u∈zv.cells.toList,u.oneCell'=true) (hzo: ∀ w,Dat.own w zv.cells.toList z []) (hnd:lk σ.ρ dd=none) (hdn:Nat.blt dd σ.n=true):
    Run c res σ (.ops (⟨some dd,.slice t x (some y) none none,ty,pos,after,none⟩::⟨none,.call { callee:= .builtin .clear,args:= #[.tmp dd],argTypes:= #[t] },ty2,pos2,after2,none⟩::rest) all::k0):=by
  intro θ a w hR
  subst hl
  subst hi
  rw[Qpy]
  refine wpList_step fun K hK=>?_
  rw[if_pos (by simp[Region.wanted])]
  obtain⟨S,w1,hh⟩:=hR.heap
  obtain⟨l,hlo,hown⟩:=hh.own hr
  obtain⟨hnF,hltF⟩:=hh.ownF hr hlo
  have hc:=hR.env.con hx
  simp only[V.con,hlo,Option.some.injEq] at hc
  have hu:=(Qbd (c.tsl ht)).1
  obtain⟨inf,hin,hsz,_⟩:=(Qbd (c.tsl ht)).2
  have hcap:=(Quw (hown.rd (B:=fun _=>True) fun _ _=>trivial)).1
  obtain⟨v1,hv1⟩: ∃ v1:Value,v1= .slice (if l.cap=k then l.A else l.A.map (·.add (k*Dat.sz α))) (xs.length - k) (l.cap - k):=⟨_,rfl⟩
  have hrun:(execOp a.eval ⟨some dd,.slice t x (some y) none none,ty,pos,after,none⟩).run c.P w= .ok (.value v1) w:=by
    rw[hv1]
    simp[execOp,←hc,hR.env.env.eval (hR.env.isv hy),Instr.sliceAt,Instr.slice,run_underlying hu,Instr.sliceBounds,Instr.sliceBound,asIntOf,hk,sizeOf,typeInfo,hin,hsz]
  unfold Oper.wp
  rw[hrun,Oper.upon_value]
  refine hK _ _ ?_
  have hR2:R c θ σ (a.put (some dd) v1) w:=⟨hR.len,hR.env.putU hnd v1,hR.heap⟩
  have hev:(a.put (some dd) v1).eval (.tmp dd)=v1:=by
    have hd':dd<a.tmps.size:=by rw[hR.env.size];simpa using hdn
    simp[Act.put,Act.eval,hd']
  refine wpList_step fun K2 hK2=>?_
  rw[if_pos (by simp[Region.wanted])]
  have hend: ∀ w',(Builtin.clear_ #[t] ty2 #[v1]).run c.P w= .ok (.tuple #[]) w'→(R c (θ++[⟨l.A,l.cap,l.F⟩]) (Qdm σ r dα (xs.take k++List.replicate (xs.length - k) z) []) (a.put (some dd) v1) w' ∨ ∃ F',R c (θ++[⟨l.A,l.cap,F'⟩]) (Qdm σ r dα (xs.take k++List.replicate (xs.length - k) z) []) (a.put (some dd) v1) w')→
      Oper.wp c.P ⟨none,.call { callee:= .builtin .clear,args:= #[.tmp dd],argTypes:= #[t] },ty2,pos2,after2,none⟩ (a.put (some dd) v1) w K2 (kQ c res k0):=by
    intro w' hw hRR
    have hex:(execOp (a.put (some dd) v1).eval ⟨none,.call { callee:= .builtin .clear,args:= #[.tmp dd],argTypes:= #[t] },ty2,pos2,after2,none⟩).run c.P w= .ok (.value (.tuple #[])) w':=by
      simp only[execOp,resolve,invoke,builtin,Sem.run_bind,Sem.run_pure,Result.andThen_ok,List.map_toArray,map_cons,List.map_nil,hev,hw]
    unfold Oper.wp
    rw[hex,Oper.upon_value]
    rcases hRR with hRR | ⟨F',hRR⟩
    · exact hK2 _ _ (h _ _ _ hRR)
    · exact hK2 _ _ (h _ _ _ hRR)
  have hclr0: ∀ A c',(Builtin.clear_ #[t] ty2 #[.slice A 0 c']).run c.P w= .ok (.tuple #[]) w:=by
    intro A c'
    cases A<;>simp[Builtin.clear_,run_underlying hu]
  by_cases hkn:xs.length=k
  ·
    refine hend w ?_ (.inl ?_)
    · rw [hv1, show xs.length - k = 0 by omega]
      exact hclr0 _ _
    · have e0 : xs.take k ++ List.replicate (xs.length - k) z = xs := by rw [hkn, Nat.sub_self, List.replicate_zero, List.append_nil, List.take_of_length_le (by omega)]
      rw[e0]
      exact hR2.turnO hr hlo rfl rfl rfl (Nat.le_refl _) (fun _ _ _=>rfl) (fun w2 h2=>hown.same h2) (fun b hb=>⟨.inl hb,hltF b hb⟩) hnF
  rcases hown with ⟨e1,e2,_⟩ | ⟨g,cap,arr,T,Fs,e1,e2,e3,e4,e5,e6,e7,e8⟩
  · rw[e2] at hk hkn;simp at hk hkn;omega
  have hlen:xs.length=k+(xs.length - k):=by omega
  obtain⟨m,hm⟩: ∃ m,m=xs.length - k:=⟨_,rfl⟩
  have hA:l.A=some ⟨g,0,none⟩:=by injection e1
  have hcp:l.cap=cap:=by injection e1
  have hle:k*Dat.sz α+m*Dat.sz α≤arr.size:=by
    have:=Nat.mul_le_mul_right (Dat.sz α) (show k+m≤cap by omega)
    rw[Nat.add_mul] at this
    omega
  have hzl:(Builtin.zeroCells zv.cells m).toList.length=m*Dat.sz α:=by rw[Array.length_toList,size_zeroCells,hzs]
  have hadd:(⟨g,0,none⟩:Addr).add (k*Dat.sz α)=⟨g,k*Dat.sz α,none⟩:=Qqm _ _
  have hst := run_storeCells_at c.P g (k * Dat.sz α) T (Builtin.zeroCells zv.cells m).toList 0 arr w e2 (by omega) (fun u hu => by
    obtain⟨j,hj⟩:=List.getElem?_of_mem hu
    have hj':=(List.getElem?_eq_some_iff.1 hj).1
    rw[hzl] at hj'
    have hsp:=Dat.sz_pos α
    have hq:j / Dat.sz α<m:=(Nat.div_lt_iff_lt_mul hsp).2 hj'
    have hct:=Q8w (z:=zv.cells) (n:=m) (i:=j / Dat.sz α) (by omega) hq
    rw[hzs] at hct
    have hmem:u∈zv.cells.toList:=by
      rw[←hct]
      unfold Fw.cut
      refine mem_of_getElem? (i:=j % Dat.sz α) ?_
      rw[getElem?_take,if_pos (Nat.mod_lt _ hsp),getElem?_drop,Nat.mul_comm,Nat.div_add_mod]
      exact hj
    exact hz1 u hmem)
  refine hend (w.setRow g (arr.toList.take (k*Dat.sz α)++(Builtin.zeroCells zv.cells m).toList++arr.toList.drop (k*Dat.sz α+m*Dat.sz α)).toArray) ?_ (.inr ⟨g::(Fs.take k++List.replicate m []).flatten,?_⟩)
  · rw [hv1, hA, if_neg (by omega), Option.map_some, hadd, ← hm]
    have hzz: ∀ w,(zeroValue e).run c.P w= .ok zv w:=fun w=>c.zok e zv hz w
    rw[Nat.add_zero,hzl] at hst
    obtain⟨m',rfl⟩: ∃ m',m=m'+1:=⟨m - 1,by omega⟩
    simp only[Builtin.clear_,size_toArray,length_cons,length_nil,Sem.run_bind,Sem.run_pure,Result.andThen_ok,run_underlying hu,hzz,hst,Nat.zero_add,Nat.zero_lt_one,getElem?_pos,List.getElem_toArray,List.getElem_cons_zero]
  · have hAl : (⟨g, 0, none⟩ : Addr) = ⟨g, 0, none⟩ := rfl
    have hg0:g<w.heap.size:=(Array.getElem?_eq_some_iff.1 e2).1
    obtain⟨arr',harr⟩: ∃ arr':Array Value,arr'=(arr.toList.take (k*Dat.sz α)++(Builtin.zeroCells zv.cells m).toList++arr.toList.drop (k*Dat.sz α+m*Dat.sz α)).toArray:=⟨_,rfl⟩
    rw[←harr]
    have hsz':arr'.size=arr.size:=by
      rw[harr]
      simp only[size_toArray,length_append,length_take,length_drop,hzl,Array.length_toList]
      omega
    have hrow:=setRow_heap w g arr arr' T (0,0) e2
    have hother: ∀ b,b≠g→(w.setRow g arr').heap[b]?=w.heap[b]?:=fun b hb=>setRow_other w g b _ hb
    have hfl:(Fs.take k++List.replicate m []).flatten=(Fs.take k).flatten:=by
      rw[List.flatten_append]
      have: ∀ n,(List.replicate n ([]:List Nat)).flatten=[]:=by
        intro n
        induction n with
        | zero=>rfl
        | succ n ih=>rw[List.replicate_succ,List.flatten_cons,ih];rfl
      rw[this,append_nil]
    have hsub:List.Sublist (g::(Fs.take k++List.replicate m []).flatten) l.F:=by
      rw[hfl,e6]
      exact Qlh.cons_cons _
    have hlz:(xs.take k++List.replicate (xs.length - k) z).length=xs.length:=by rw[List.length_append,List.length_take,List.length_replicate];omega
    have hgn:g ∉ (Fs.take k).flatten:=by
      have:=hnF.sublist hsub
      rw[hfl] at this
      exact(List.nodup_cons.1 this).1
    refine hR2.turnO hr hlo rfl rfl rfl (by simp) (fun b hb hbF=>hother b fun eb=>hbF (by rw[e6,eb];exact List.mem_cons_self)) (fun w2 h2=>?_) (fun b hb=>⟨.inl (hsub.subset hb),by have:=hltF b (hsub.subset hb);simpa using this⟩) (hnF.sublist hsub)
    rw[hA,hcp]
    refine Qhj.2 (.inr ⟨g,cap,arr',T,Fs.take k++List.replicate m [],rfl,(h2 g List.mem_cons_self).trans hrow,by rw[hlz];exact e3,e4,by rw[hsz'];exact e5,rfl,?_,fun i x hi=>?_⟩)
    · rw [hlz, length_append, length_take, List.length_replicate, e7]
      omega
    · have hix : i < xs.length := by rw [← hlz]; exact (List.getElem?_eq_some_iff.1 hi).1
      rw[harr]
      show ∃ G,_∧Dat.own w2 (Fw.cut (Dat.sz α) (arr.toList.take (k*Dat.sz α)++(Builtin.zeroCells zv.cells m).toList++arr.toList.drop (k*Dat.sz α+m*Dat.sz α)) i) x G
      rw[Qum hzl (by rw[Array.length_toList];exact hle)]
      have hl1:(xs.take k).length=k:=by rw[List.length_take];omega
      have hl2:(Fs.take k).length=k:=by rw[List.length_take];omega
      by_cases hik:i<k
      · rw [if_pos hik]
        rw[getElem?_append_left (by omega),getElem?_take,if_pos hik] at hi
        obtain⟨G,hG,ho⟩:=e8 i x hi
        have hG':(Fs.take k)[i]?=some G:=by rw[List.getElem?_take,if_pos hik,hG]
        refine⟨G,by rw[getElem?_append_left (by omega)];exact hG',Dat.own_same ho fun b hb=>?_⟩
        have hbm:=Qi4 hG' hb
        exact(h2 b (mem_cons_of_mem _ (by rw[hfl];exact hbm))).trans (hother b fun eb=>hgn (by rw[←eb];exact hbm))
      · rw [if_neg hik, if_pos (by omega)]
        rw[getElem?_append_right (by omega),hl1,List.getElem?_replicate] at hi
        split at hi
        · cases hi
          refine⟨[],by rw[getElem?_append_right (by omega),hl2,List.getElem?_replicate,if_pos (by omega)],?_⟩
          have hct:=Q8w (z:=zv.cells) (n:=m) (i:=i - k) (by rw[hzs];exact Dat.sz_pos α) (by omega)
          rw[hzs] at hct
          rw[hct]
          exact hzo w2
        · cases hi
end
end
section
def insL {α:Type} (xs:List α) (k:Nat) (c:α):List α:=xs.take k++c::xs.drop k
theorem Qr1 {α:Type} {xs:List α} {k:Nat} {c:α} (hk:k≤xs.length):(insL xs k c).length=xs.length+1:=by
 unfold insL
 rw[length_append,length_take,length_cons,length_drop]
 omega
section
variable {α:Type} [dα:Dat α]
def FlE (l:List Value) (xs:List α):Prop:= ∀ i x,xs[i]?=some x→ ∀ w,Dat.own w (Fw.cut (Dat.sz α) l i) x []
theorem Ydv (s:Str α) (hf:Qqw s.fk=true) {w w':World} {cs:List Value} {x:α} {G:List Nat} (h:Dat.own w cs x G):Dat.own w' cs x []:=Q8q s hf (Dat.own_rd (B:=fun _=>True) h fun _ _=>trivial)
theorem Ql7: ∀ n,(List.replicate n ([]:List Nat)).flatten=[]:=by
 intro n
 induction n with
 | zero=>rfl
 | succ n ih=>rw[List.replicate_succ,List.flatten_cons,ih];rfl
theorem FlE.slo {w:World} {g cap n:Nat} {arr:Array Value} {T:TypeId} {xs:List α} (h:FlE arr.toList xs) (hg:w.heap[g]?=some (.cells arr T (0,0))) (hn:n=xs.length) (h1:n≤cap) (h2:cap≤maxLen) (h3:cap*Dat.sz α≤arr.size):SlO w (.slice (some ⟨g,0,none⟩) n cap) xs [g]:=by
 subst hn
 refine Qhj.2 (.inr ⟨g,cap,arr,T,List.replicate xs.length [],rfl,hg,h1,h2,h3,by rw[Ql7],by rw[List.length_replicate],fun i x hi=>⟨[],?_,h i x hi w⟩⟩)
 rw[List.getElem?_replicate,if_pos (List.getElem?_eq_some_iff.1 hi).1]
theorem SlO.fl (s:Str α) (hf:Qqw s.fk=true) {w:World} {v:Value} {xs:List α} {F:List Nat} (h:SlO w v xs F):(v= .slice none 0 0∧xs=[]) ∨
  ∃ (g cap:Nat) (arr:Array Value) (T:TypeId),v= .slice (some ⟨g,0,none⟩) xs.length cap∧w.heap[g]?=some (.cells arr T (0,0))∧xs.length≤cap∧cap≤maxLen∧cap*Dat.sz α≤arr.size∧g∈F∧FlE arr.toList xs:=by
 rcases h with ⟨e1,e2,_⟩ | ⟨g,cap,arr,T,Fs,e1,e2,e3,e4,e5,e6,e7,e8⟩
 ·exact .inl ⟨e1,e2⟩
 ·refine .inr ⟨g,cap,arr,T,e1,e2,e3,e4,e5,by rw[e6];exact List.mem_cons_self,fun i x hi w'=>?_⟩
  obtain⟨G,_,ho⟩:=e8 i x hi
  exact Ydv s hf ho
theorem FlE.ins {l l2 ec:List Value} {xs:List α} {k:Nat} {c:α} (h:FlE l xs) (hk:k≤xs.length) (hc: ∀ w,Dat.own w ec c []) (h2: ∀ i,i<xs.length+1→Fw.cut (Dat.sz α) l2 i=if i<k then Fw.cut (Dat.sz α) l i else if i=k then ec else Fw.cut (Dat.sz α) l (i - 1)):FlE l2 (insL xs k c):=by
 intro i x hi w
 have hlt:=(List.getElem?_eq_some_iff.1 hi).1
 rw[Qr1 hk] at hlt
 rw[h2 i hlt]
 unfold insL at hi
 have h1:(xs.take k).length=k:=by rw[List.length_take];omega
 by_cases h3:i<k
 ·rw[if_pos h3]
  rw[getElem?_append_left (by omega),getElem?_take,if_pos h3] at hi
  exact h i x hi w
 ·rw[if_neg h3]
  rw[getElem?_append_right (by omega),h1] at hi
  by_cases h4:i=k
  ·rw[if_pos h4]
   rw[h4,Nat.sub_self,List.getElem?_cons_zero] at hi
   cases hi
   exact hc w
  ·rw[if_neg h4]
   rw[show i - k=(i - k - 1)+1 by omega,List.getElem?_cons_succ,getElem?_drop,show k+(i - k - 1)=i - 1 by omega] at hi
   exact h (i - 1) x hi w
theorem FlE.one {l:List Value} {xs:List α} (h:FlE l xs) (w:World): ∀ u∈l.take (xs.length*Dat.sz α),u.oneCell'=true:=by
 intro u hu
 obtain⟨j,hj⟩:=List.getElem?_of_mem hu
 have hsp:=Dat.sz_pos α
 rw[getElem?_take] at hj
 split at hj
 ·rename_i hlt
  have hq:j / Dat.sz α<xs.length:=(Nat.div_lt_iff_lt_mul hsp).2 hlt
  refine Dat.rd_one (Dat.own_rd (B:=fun _=>True) (h _ _ (getElem?_eq_getElem hq) w) fun _ _=>trivial) u ?_
  unfold Fw.cut
  refine mem_of_getElem? (i:=j % Dat.sz α) ?_
  rw[getElem?_take,if_pos (Nat.mod_lt _ hsp),getElem?_drop,Nat.mul_comm,Nat.div_add_mod]
  exact hj
 ·cases hj
def midC (sz k m:Nat) (l:List Value):List Value:=(l.drop (k*sz)).take (m*sz)
theorem Q8f {sz k m:Nat} {l:List Value} (h:k*sz+m*sz≤l.length):(midC sz k m l).length=m*sz:=by unfold midC;rw[List.length_take,List.length_drop];omega
theorem Q8e {sz k n:Nat} {l:List Value} (hk:k≤n) {u:Value} (h:u∈midC sz k (n - k) l):u∈l.take (n*sz):=by
 unfold midC at h
 rw[show(n - k)*sz=n*sz - k*sz by rw[Nat.sub_mul],←List.drop_take] at h
 exact List.mem_of_mem_drop h
theorem Q8g {sz k m i:Nat} {l:List Value} (hi:i<m):Fw.cut sz (midC sz k m l) i=Fw.cut sz l (k+i):=by
 unfold midC
 rw[Qos hi]
 unfold Fw.cut
 rw[List.drop_drop,←Nat.add_mul]
end
section
variable {P:Program} {w:World} {t e ty sz by':Nat}
theorem Q22 (ht:Qeh P t e sz by'=true) {g o dLen dCap sLen sCap m:Nat} {S:Addr} {news:List Value} {arr:Array Value} {T:TypeId} (hm:Nat.min sLen dLen=m) (hl:news.length=m*sz) (hsrc: ∀ j u,news[j]?=some u→w.cell? (S.add j)=some u) (hg:w.heap[g]?=some (.cells arr T (0,0))) (hle:o+m*sz≤arr.size) (h1: ∀ u∈news,u.oneCell'=true):
  (Builtin.copy_ #[t,t] ty #[.slice (some ⟨g,o,none⟩) dLen dCap,.slice (some S) sLen sCap]).run P w= .ok (goInt m) (w.setRow g (arr.toList.take o++news++arr.toList.drop (o+m*sz)).toArray):=by
 obtain⟨hu,i,hi,his,_⟩:=Qbd ht
 have hfirst:=run_firstCells_some (P:=P) w sz m S sLen sCap news hl hsrc
 have hst:=run_storeCells_at P g o T news 0 arr w hg (by omega) h1
 rw[Nat.add_zero,hl] at hst
 subst his
 simp[Builtin.copy_,run_underlying hu,Builtin.lenOf,sizeOf,typeInfo,hi,hm,hfirst,hst]
end
def InsQ {α:Type} [Dat α] (ys:List α) (F:List Nat) (w:World) (e:Ending) (w':World):Prop:= ∃ v' F',e= .returned v'∧SlO w' v' ys F'∧F'.Nodup∧w'.os=w.os∧w'.tape=w.tape∧w'.output=w.output∧w.heap.size≤w'.heap.size∧(∀ b,b<w.heap.size→b ∉ F→w'.heap[b]?=w.heap[b]?)∧ ∀ b∈F',b∈F∨w.heap.size≤b
theorem CTM.row2 {P:Program} {G:World→Prop} {gs:List Nat} {f:FuncId} {α:Type} {dα:Dat α} {xs ys zs:List α} {k:Int}
  (h: ∀ (w:World) (v v2:Value) (F F2:List Nat),SlO w v xs F→F.Nodup→SlO w v2 ys F2→(∀ b∈F2,b ∉ F)→Calls P f #[v,.int .i64 k,v2] w (InsQ zs F w)):
  CTM P G gs f 0 2 [(0,.own α dα xs),(1,.own α dα ys)] [] [.sl 0 xs.length,.v (.int .i64 k),.sl 1 ys.length] [(0,.own α dα zs)] 1 [.sl 0 zs.length] True:=by
 intro S w p us hG hgs hsh _ hargs
 have hus:us=[.slice (p 0).A xs.length (p 0).cap,.int .i64 k,.slice (p 1).A ys.length (p 1).cap]:=by
  have:conL (thz p 2) [.sl 0 xs.length,.v (.int .i64 k),.sl 1 ys.length]=some [.slice (p 0).A xs.length (p 0).cap,.int .i64 k,.slice (p 1).A ys.length (p 1).cap]:=by
   simp only[conL,V.con,Qia (p:=p) (n:=2) (k:=0) (by omega),Qia (p:=p) (n:=2) (k:=1) (by omega)]
  rw[this] at hargs
  exact(Option.some.inj hargs).symm
 subst hus
 have g0:=Qia (p:=p) (n:=2) (k:=0) (by omega)
 have g1:=Qia (p:=p) (n:=2) (k:=1) (by omega)
 have e0:(([(0,.own α dα xs),(1,.own α dα ys)]:List (Nat×En)).map fun e=>e.2.ck (thz p 2) e.1)[0]?=some ((En.own α dα xs).ck (thz p 2) 0):=rfl
 have e1:(([(0,.own α dα xs),(1,.own α dα ys)]:List (Nat×En)).map fun e=>e.2.ck (thz p 2) e.1)[1]?=some ((En.own α dα ys).ck (thz p 2) 1):=rfl
 obtain⟨l0,hl0,s0⟩:=hsh.get e0
 obtain⟨l1,hl1,s1⟩:=hsh.get e1
 rw[g0] at hl0;cases hl0
 rw[g1] at hl1;cases hl1
 have f0:((En.own α dα xs).ck (thz p 2) 0).F=(p 0).F:=Qaj g0
 have f1:((En.own α dα ys).ck (thz p 2) 1).F=(p 1).F:=Qaj g1
 have hnd:=hsh.nd e0
 rw[f0] at hnd
 have hdj:=hsh.dj e1 e0 (by omega)
 rw[f0,f1] at hdj
 have hge:=hsh.ge _ (mem_of_getElem? e0)
 rw[f0] at hge
 refine(h w _ _ _ _ s0 hnd s1 hdj).mono fun e w' hq=>?_
 obtain⟨v',F',rfl,r1,r2,r3,r4,r5,r6,r7,r8⟩:=hq
 obtain⟨l',hv',hF'⟩:=Qx3 r1
 have gl:(thz p 0++[l'])[0]?=some l':=rfl
 refine⟨_,rfl,trivial,[l'],[v'],rfl,?_,rfl,?_⟩
 ·simp only[conL,V.con,gl,hv']
 ·have hk:Keep S w w':=⟨r3,r4,r5,r6,fun b hb=>r7 b (hsh.dom b hb) fun hbF=>(hge b hbF).1 hb⟩
  have hlF:((En.own α dα zs).ck (thz p 0++[l']) 0).F=F':=(Qaj gl).trans hF'
  refine⟨hk,hsh.dom,fun c hc=>?_,fun c hc b hb=>?_,?_⟩
  ·obtain rfl:=mem_singleton.1 hc
   intro w2 hw2
   refine⟨l',gl,?_⟩
   rw[←hv',hF']
   exact r1.same fun b hb=>hw2 b (by rw[hlF];exact hb)
  ·obtain rfl:=mem_singleton.1 hc
   have hb':b∈F':=by rw[←hlF];exact hb
   refine⟨fun hS=>?_,r1.lt b hb'⟩
   rcases r8 b hb' with hbF | hbs
   ·exact(hge b hbF).1 hS
   ·have:=hsh.dom b hS
    omega
  ·show(List.flatMap (·.F) [(En.own α dα zs).ck (thz p 0++[l']) 0]).Nodup
   rw[List.flatMap_cons,List.flatMap_nil,append_nil,hlF]
   exact r2
end
section
section
variable {fn:Func} {Bz:Bs} {S1:Nat→Prop} {w1:World} {hk1:Keep Bz.S0 Bz.w w1} {hs1: ∀ b,Bz.S0 b→S1 b} {hd1: ∀ b,S1 b→b<w1.heap.size} {res:List Re} {σ σ':St} {k k':List It} {all:Array Oper} {ty:TypeId} {pos:String} {after:Array Edge} {d:Nat}
theorem lo {α:Type} {dα:Dat α} [s:@Str α dα] [Inhabited α] {t:Nat} {x:Operand} {r off:Nat} {xs:List α} {v:V} (j:Nat) (hj:j<xs.length) (hx:ev σ.ρ x=some (.pt r off):=by exact Dq0) (hr:lkE σ.E r=some (.own α dα xs):=by exact Dq0) (hoff:off=j*Dat.sz α:=by rfl) (hfl:Qqw s.fk=true:=by rfl) (hv:ldC (ti t) 0 (flV (nth xs j) s.fk)=some v:=by dsimp only[flV,Str.fk,ncV,szA,cvV,rnR,rnE,V.rn,rnL,En.rn,Qhd,memN,Qdm,an,stK,cdK,opK,gdK,nvK,Qq6,Qqy,blK,bsK,stW,stV,ptK,litD,litC,pkV,wrV,binV,unV,ldV,faW,faV,agO,blV,exV,mfV,lenV,caV,Qz5,Qyp,stO',sdV,Qa9,grdO,gBV,gPw,gPk,gGo,gK,gK1,gK2,tkK,tk1,rvsV,rvV,Nat.reduceAdd,Nat.reduceSub,Nat.reduceMul,advN,adv1,stO,litV,Qul,Qoz,pv,ev,evs,lk,lkE,setE,putE,put,cond,ldC,ldE,nthN,tuAt,bin,bi,bs,bb,ikq,TI.cells,V.cells,V.one,oneL,Qrl,grd,nthO,beqB,gB,wnt,gOp,adG,adG1,Qx5,Qf8,evG,V.side,V.strip,Qcp,Qdt,Qey,Qdl,Qkk,Qgg,Qh1,Qka,Qpg,Qld,Qnr,ini,Qm2,opn,nsl,adD,Ql6,Str.fk,ti_1,ti_2,ti_3,ti_4,ti_5,ti_6,ti_7,ti_8,ti_9,Q5k,Q5j,Q5i,Q5h,Q5g,Q5f,Q5e,Q5d,Q5c,Q5b,Q5a,Q49,Q48,Q47,Q46,Q45,Q44,Q43,Q42,Q41,Q40,Q4z,Q4y,Q4x,Q4w,Q4v,Q4u,Q4t,Q4s,Q4r,Q4q,Qv8,Qv7,Qv6,Qv5,Qv4,Qv3,Qsd,Qv2,Qv1,Qv0,Qvz,Qvy,Qvx,Qvw,Qvv,Qvu,Qvt,Qvs,Qvr,Qvq,Qvp,Qvo,Qvn,Qvm,Qvl,Qvk,Qvj,Qvi,Qvh,Qvg,Qvf,Qve,Qvd,Qvc,Qvb,Qva,Qu9,zr_1,zr_2,zr_3,zr_4,zr_5,zr_6,zr_7,zr_8,zr_9,Q91,Q90,Q9z,Q9y,Q9x,Q9w,Q9v,Q9u,Q9t,Q9s,Q9r,Q9q,Q9p,Q9o,Q9n,Q9m,Q9l,Q9k,Q9j,Q9i,Q9h,Q9g,Q9f,Q9e,Q9d,Q9c,Q9b,Q9a,Q89,Q88,Q87,Q18,Q17,Q16,Q15,Q14,Q13,Q12,Q11,Q10,Q1z,Q1y,Q1x,Q1w,Q1v,Q1u,Q1t,Q1s,Q1r,Q1q,Q1p,Q1o,Q1n,Q1m,Q1l,Q1k,Q1j,Q1i,Q1h,Q1g,Q1f,Q1e,Q1d,Q1c,Q1b,Q1a,Q09,Nat.blt,Nat.succ_eq_add_one,Nat.ble,Nat.beq,Nat.pred,Nat.add_zero,Nat.zero_add,Nat.add_eq,List.toList_toArray,List.length,List.length_cons,List.length_nil,List.take,List.drop,List.append_nil,List.nil_append,List.cons_append,List.map,List.take_succ_cons,List.take_zero,List.take_nil,List.drop_succ_cons,List.drop_zero,List.drop_nil,List.size_toArray,List.getD,id,Op.operands,Call.operands,Value.cells,Array.size_empty]) (hd:Nat.blt d σ.n=true:=by rfl):
  OpS (cx fn Bz S1 w1 hk1 hs1 hd1) σ all ⟨some d,.load t x,ty,pos,after,none⟩ (put d v σ):=OpS.ldO j hx hoff hr hj hfl hv hd
theorem nl {α:Type} {dα:Dat α} {t t' e by' r len:Nat} {x:Operand} {xs:List α} (hx:ev σ.ρ x=some (.sl r len):=by exact Dq0) (hp:payE σ.E r=some ⟨α,dα,xs⟩:=by rfl) (hl:len=xs.length:=by rfl) (ht:ti t= .sl e (Dat.sz α) by':=by rfl) (hd:Nat.blt d σ.n=true:=by rfl):
  OpSx (cx fn Bz S1 w1 hk1 hs1 hd1) σ all ⟨some d,.binOp .eql t x (.const (.slice none 0 0)) t',ty,pos,after,none⟩ (fun b:Bool=>put d (.v (.bool b)) σ) (fun b=>b=true→xs=[]):=OpS.isNil hx hp hl ht hd
theorem ox {o:Oper} {r:List Oper} {P:Bool→Prop} (ho:OpSx (cx fn Bz S1 w1 hk1 hs1 hd1) σ all o (fun b:Bool=>put d (.v (.bool b)) σ) P) (h: ∀ b:Bool,P b→Run (cx fn Bz S1 w1 hk1 hs1 hd1) res (put d (.v (.bool b)) σ) (.ops r all::k)):Run (cx fn Bz S1 w1 hk1 hs1 hd1) res σ (.ops (o::r) all::k):=Run.opx ho h
theorem cO {α:Type} {dα:Dat α} {t e by' r len:Nat} {x y:Operand} {i:Int} {xs:List α} (j:Nat) (hj:j≤xs.length) (hx:ev σ.ρ x=some (.sl r len):=by exact Dq0) (hy:ev σ.ρ y=some (.v (.int .i64 i)):=by exact Dq0) (hr:lkE σ.E r=some (.own α dα xs):=by exact Dq0) (hl:len=xs.length:=by first | rfl | simp only[List.length_set]) (hi:i=j:=by rfl) (ht:ti t= .sl e (Dat.sz α) by':=by rfl) (hd:Nat.blt d σ.n=true:=by rfl):
  OpS (cx fn Bz S1 w1 hk1 hs1 hd1) σ all ⟨some d,.slice t x none (some y) none,ty,pos,after,none⟩ ⟨σ.n,σ.m+1,(d,.sl σ.m (xs.take j).length)::σ.ρ,(σ.m,.own α dα (xs.take j))::Qhd [r] σ.E⟩:=OpS.cutO j hj hx hy hr hl hi ht hd
theorem clr {rest:List Oper} {α:Type} {dα:Dat α} {t e by' r len dd:Nat} {x y:Operand} {i:Int} {xs:List α} {zv:Value} {ty2:TypeId} {pos2:String} {after2:Array Edge} (z:α) (j:Nat) (hj:j≤xs.length) (h:Run (cx fn Bz S1 w1 hk1 hs1 hd1) res σ' (.ops rest all::k)) (hx:ev σ.ρ x=some (.sl r len):=by exact Dq0) (hy:ev σ.ρ y=some (.v (.int .i64 i)):=by exact Dq0) (hr:lkE σ.E r=some (.own α dα xs):=by exact Dq0) (hl:len=xs.length:=by first | rfl | simp only[List.length_set]) (hi:i=j:=by rfl) (ht:ti t= .sl e (Dat.sz α) by':=by rfl) (hz:zr e=some zv:=by rfl) (hzs:zv.cells.size=Dat.sz α:=by rfl) (hz1: ∀ u∈zv.cells.toList,u.oneCell'=true:=by decide) (hzo: ∀ w,Dat.own w zv.cells.toList z []) (hnd:lk σ.ρ dd=none:=by rfl) (hdn:Nat.blt dd σ.n=true:=by rfl) (hs:Qdm σ r dα (xs.take j++List.replicate (xs.length - j) z) []=σ':=by exact Dq2):
    Run (cx fn Bz S1 w1 hk1 hs1 hd1) res σ (.ops (⟨some dd,.slice t x (some y) none none,ty,pos,after,none⟩::⟨none,.call { callee:= .builtin .clear,args:= #[.tmp dd],argTypes:= #[t] },ty2,pos2,after2,none⟩::rest) all::k):=Run.clr z j hj (by rw[hs];exact h) hx hy hr hl hi ht hz hzs hz1 hzo hnd hdn
end
theorem Ya1: ∀ w,Dat.own w (Value.cells (.agg #[.string ⟨#[]⟩,.string ⟨#[]⟩])).toList (Cell.mk ⟨#[]⟩ ⟨#[]⟩) []:=fun _=>(inferInstance:Str Cell).omk ⟨_,_,[],[],rfl,rfl,⟨⟨rfl,Nat.zero_le _⟩,rfl⟩,_,_,[],[],rfl,rfl,⟨⟨rfl,Nat.zero_le _⟩,rfl⟩,rfl,rfl⟩
end
end Go.Proofs.YtppialklomgajaaGreatDoor.Fw

namespace Go.Proofs
open Go.Shelf
def Tryz.laysM171_ren:Go.Shelf.Ren:=⟨fun | 171=>229 | 243=>256 | 246=>274 | 283=>292 | 284=>293 | 285=>294 | 286=>295 | 129=>309 | 317=>308 | 318=>310 | 319=>311 | 320=>312 | 337=>316 | 338=>317 | n=>n,fun | 3=>3 | 9=>9 | 2=>2 | 4=>4 | 171=>268 | 0=>0 | 53=>269 | 37=>144 | 5=>5 | 173=>272 | 212=>288 | 51=>284 | 20=>20 | 213=>289 | 46=>256 | 232=>297 | 233=>298 | n=>n,fun | 17=>6 | 18=>7 | 19=>8 | n=>n⟩
theorem Tryz.laysM171:Go.Proofs.LaysM.n171 Tryz.prog Tryz.laysM171_ren:={
 mixed:=by kernel_rfl
 f129:=Tryz.func309.trans (congrArg some (by kernel_rfl))
 f171:=Tryz.func229.trans (congrArg some (by kernel_rfl))
 f243:=Tryz.func256.trans (congrArg some (by kernel_rfl))
 f246:=Tryz.func274.trans (congrArg some (by kernel_rfl))
 f283:=Tryz.func292.trans (congrArg some (by kernel_rfl))
 f284:=Tryz.func293.trans (congrArg some (by kernel_rfl))
 f285:=Tryz.func294.trans (congrArg some (by kernel_rfl))
 f286:=Tryz.func295.trans (congrArg some (by kernel_rfl))
 f317:=Tryz.func308.trans (congrArg some (by kernel_rfl))
 f318:=Tryz.func310.trans (congrArg some (by kernel_rfl))
 f319:=Tryz.func311.trans (congrArg some (by kernel_rfl))
 f320:=Tryz.func312.trans (congrArg some (by kernel_rfl))
 f337:=Tryz.func316.trans (congrArg some (by kernel_rfl))
 f338:=Tryz.func317.trans (congrArg some (by kernel_rfl))
 t0:=Tryz.underlying0
 a0:=Tryz.isAgg0
 z0:=Tryz.sizeOf0
 v0:=Tryz.zeroValue0
 t2:=Tryz.underlying2
 a2:=Tryz.isAgg2
 z2:=Tryz.sizeOf2
 v2:=Tryz.zeroValue2
 t3:=Tryz.underlying3
 a3:=Tryz.isAgg3
 z3:=Tryz.sizeOf3
 v3:=Tryz.zeroValue3
 t4:=Tryz.underlying4
 a4:=Tryz.isAgg4
 z4:=Tryz.sizeOf4
 v4:=Tryz.zeroValue4
 t5:=Tryz.underlying5
 a5:=Tryz.isAgg5
 z5:=Tryz.sizeOf5
 v5:=Tryz.zeroValue5
 t9:=Tryz.underlying9
 a9:=Tryz.isAgg9
 z9:=Tryz.sizeOf9
 v9:=Tryz.zeroValue9
 t20:=Tryz.underlying20
 a20:=Tryz.isAgg20
 z20:=Tryz.sizeOf20
 v20:=Tryz.zeroValue20
 t37:=Tryz.underlying144
 a37:=Tryz.isAgg144
 z37:=Tryz.sizeOf144
 v37:=Tryz.zeroValue144
 t46:=Tryz.underlying256
 a46:=Tryz.isAgg256
 z46:=Tryz.sizeOf256
 v46:=Tryz.zeroValue256
 t51:=Tryz.underlying284
 a51:=Tryz.isAgg284
 z51:=Tryz.sizeOf284
 v51:=Tryz.zeroValue284
 t53:=Tryz.underlying269
 a53:=Tryz.isAgg269
 z53:=Tryz.sizeOf269
 v53:=Tryz.zeroValue269
 t171:=Tryz.underlying268
 a171:=Tryz.isAgg268
 z171:=Tryz.sizeOf268
 v171:=Tryz.zeroValue268
 t173:=Tryz.underlying272
 a173:=Tryz.isAgg272
 z173:=Tryz.sizeOf272
 v173:=Tryz.zeroValue272
 t212:=Tryz.underlying288
 a212:=Tryz.isAgg288
 z212:=Tryz.sizeOf288
 v212:=Tryz.zeroValue288
 t213:=Tryz.underlying289
 a213:=Tryz.isAgg289
 z213:=Tryz.sizeOf289
 t232:=Tryz.underlying297
 a232:=Tryz.isAgg297
 z232:=Tryz.sizeOf297
 v232:=Tryz.zeroValue297
 t233:=Tryz.underlying298
 a233:=Tryz.isAgg298
 z233:=Tryz.sizeOf298
 v233:=Tryz.zeroValue298
 g17:=by kernel_rfl
 g18:=by kernel_rfl
 g19:=by kernel_rfl
 i0:=by kernel_rfl
 i2:=by kernel_rfl
 i3:=by kernel_rfl
 i4:=by kernel_rfl
 i5:=by kernel_rfl
 i9:=by kernel_rfl
 i20:=by kernel_rfl
 i37:=by kernel_rfl
 i46:=by kernel_rfl
 i51:=by kernel_rfl
 i53:=by kernel_rfl
 i171:=by kernel_rfl
 i173:=by kernel_rfl
 i212:=by kernel_rfl
 i232:=by kernel_rfl
 i233:=by kernel_rfl
 m17:=by kernel_rfl
 m18:=by kernel_rfl
 m19:=by kernel_rfl }
open Go.RowKit Go.Sort Go.Lib in
theorem Tryz.strconv_Itoa (n:Int) (h0: -9223372036854775808≤n) (h1:n≤9223372036854775807) (w:World) (htab:Lib.TabIs Tryz.prog w "internal/strconv.uint64pow10" .u64 Lib.pow10Tab):
  Calls Tryz.prog 229 #[.int .i64 n] w fun e w'=>e= .returned (.string ⟨(Lib.itoa n).toArray⟩)∧ ∃ k os,w'=grow (w.drewN k) os:=Any.strconv_Itoa Tryz.laysM171 n h0 h1 w htab
def Tryz.laysC172_ren:Go.Shelf.Ren:=⟨fun | 172=>243 | 244=>268 | 245=>269 | 247=>282 | 279=>283 | 280=>284 | 281=>285 | 282=>286 | 287=>303 | 316=>304 | 171=>229 | 205=>305 | 321=>314 | 322=>315 | 243=>256 | 246=>274 | 283=>292 | 284=>293 | 285=>294 | 286=>295 | 129=>309 | 317=>308 | 318=>310 | 319=>311 | 320=>312 | 337=>316 | 338=>317 | n=>n,fun | 9=>9 | 3=>3 | 75=>227 | 76=>236 | 4=>4 | 5=>5 | 167=>260 | 37=>144 | 0=>0 | 85=>261 | 2=>2 | 168=>263 | 53=>269 | 175=>279 | 46=>256 | 210=>282 | 127=>253 | 145=>295 | 143=>293 | 21=>21 | 171=>268 | 173=>272 | 212=>288 | 51=>284 | 20=>20 | 213=>289 | 232=>297 | 233=>298 | 80=>242 | n=>n,fun | 15=>4 | 16=>5 | 17=>6 | 18=>7 | 19=>8 | n=>n⟩
theorem Tryz.laysC172:Go.Proofs.LaysC.n172 Tryz.prog Tryz.laysC172_ren:={
 mixed:=by kernel_rfl
 f129:=Tryz.func309.trans (congrArg some (by kernel_rfl))
 f171:=Tryz.func229.trans (congrArg some (by kernel_rfl))
 f172:=Tryz.func243.trans (congrArg some (by kernel_rfl))
 f205:=Tryz.func305.trans (congrArg some (by kernel_rfl))
 f243:=Tryz.func256.trans (congrArg some (by kernel_rfl))
 f244:=Tryz.func268.trans (congrArg some (by kernel_rfl))
 f245:=Tryz.func269.trans (congrArg some (by kernel_rfl))
 f246:=Tryz.func274.trans (congrArg some (by kernel_rfl))
 f247:=Tryz.func282.trans (congrArg some (by kernel_rfl))
 f279:=Tryz.func283.trans (congrArg some (by kernel_rfl))
 f280:=Tryz.func284.trans (congrArg some (by kernel_rfl))
 f281:=Tryz.func285.trans (congrArg some (by kernel_rfl))
 f282:=Tryz.func286.trans (congrArg some (by kernel_rfl))
 f283:=Tryz.func292.trans (congrArg some (by kernel_rfl))
 f284:=Tryz.func293.trans (congrArg some (by kernel_rfl))
 f285:=Tryz.func294.trans (congrArg some (by kernel_rfl))
 f286:=Tryz.func295.trans (congrArg some (by kernel_rfl))
 f287:=Tryz.func303.trans (congrArg some (by kernel_rfl))
 f316:=Tryz.func304.trans (congrArg some (by kernel_rfl))
 f317:=Tryz.func308.trans (congrArg some (by kernel_rfl))
 f318:=Tryz.func310.trans (congrArg some (by kernel_rfl))
 f319:=Tryz.func311.trans (congrArg some (by kernel_rfl))
 f320:=Tryz.func312.trans (congrArg some (by kernel_rfl))
 f321:=Tryz.func314.trans (congrArg some (by kernel_rfl))
 f322:=Tryz.func315.trans (congrArg some (by kernel_rfl))
 f337:=Tryz.func316.trans (congrArg some (by kernel_rfl))
 f338:=Tryz.func317.trans (congrArg some (by kernel_rfl))
 t0:=Tryz.underlying0
 a0:=Tryz.isAgg0
 z0:=Tryz.sizeOf0
 v0:=Tryz.zeroValue0
 t2:=Tryz.underlying2
 a2:=Tryz.isAgg2
 z2:=Tryz.sizeOf2
 v2:=Tryz.zeroValue2
 t3:=Tryz.underlying3
 a3:=Tryz.isAgg3
 z3:=Tryz.sizeOf3
 v3:=Tryz.zeroValue3
 t4:=Tryz.underlying4
 a4:=Tryz.isAgg4
 z4:=Tryz.sizeOf4
 v4:=Tryz.zeroValue4
 t5:=Tryz.underlying5
 a5:=Tryz.isAgg5
 z5:=Tryz.sizeOf5
 v5:=Tryz.zeroValue5
 t9:=Tryz.underlying9
 a9:=Tryz.isAgg9
 z9:=Tryz.sizeOf9
 v9:=Tryz.zeroValue9
 t20:=Tryz.underlying20
 a20:=Tryz.isAgg20
 z20:=Tryz.sizeOf20
 v20:=Tryz.zeroValue20
 t21:=Tryz.underlying21
 a21:=Tryz.isAgg21
 z21:=Tryz.sizeOf21
 v21:=Tryz.zeroValue21
 t37:=Tryz.underlying144
 a37:=Tryz.isAgg144
 z37:=Tryz.sizeOf144
 v37:=Tryz.zeroValue144
 t46:=Tryz.underlying256
 a46:=Tryz.isAgg256
 z46:=Tryz.sizeOf256
 v46:=Tryz.zeroValue256
 t51:=Tryz.underlying284
 a51:=Tryz.isAgg284
 z51:=Tryz.sizeOf284
 v51:=Tryz.zeroValue284
 t53:=Tryz.underlying269
 a53:=Tryz.isAgg269
 z53:=Tryz.sizeOf269
 v53:=Tryz.zeroValue269
 t75:=Tryz.underlying227
 a75:=Tryz.isAgg227
 z75:=Tryz.sizeOf227
 v75:=Tryz.zeroValue227
 t76:=Tryz.underlying236
 a76:=Tryz.isAgg236
 z76:=Tryz.sizeOf236
 v76:=Tryz.zeroValue236
 t85:=Tryz.underlying261
 a85:=Tryz.isAgg261
 z85:=Tryz.sizeOf261
 v85:=Tryz.zeroValue261
 t127:=Tryz.underlying253
 a127:=Tryz.isAgg253
 z127:=Tryz.sizeOf253
 v127:=Tryz.zeroValue253
 t143:=Tryz.underlying293
 a143:=Tryz.isAgg293
 z143:=Tryz.sizeOf293
 v143:=Tryz.zeroValue293
 t145:=Tryz.underlying295
 a145:=Tryz.isAgg295
 z145:=Tryz.sizeOf295
 v145:=Tryz.zeroValue295
 t167:=Tryz.underlying260
 a167:=Tryz.isAgg260
 z167:=Tryz.sizeOf260
 v167:=Tryz.zeroValue260
 t168:=Tryz.underlying263
 a168:=Tryz.isAgg263
 z168:=Tryz.sizeOf263
 v168:=Tryz.zeroValue263
 t171:=Tryz.underlying268
 a171:=Tryz.isAgg268
 z171:=Tryz.sizeOf268
 v171:=Tryz.zeroValue268
 t173:=Tryz.underlying272
 a173:=Tryz.isAgg272
 z173:=Tryz.sizeOf272
 v173:=Tryz.zeroValue272
 t175:=Tryz.underlying279
 a175:=Tryz.isAgg279
 z175:=Tryz.sizeOf279
 v175:=Tryz.zeroValue279
 t210:=Tryz.underlying282
 a210:=Tryz.isAgg282
 z210:=Tryz.sizeOf282
 v210:=Tryz.zeroValue282
 t212:=Tryz.underlying288
 a212:=Tryz.isAgg288
 z212:=Tryz.sizeOf288
 v212:=Tryz.zeroValue288
 t213:=Tryz.underlying289
 a213:=Tryz.isAgg289
 z213:=Tryz.sizeOf289
 t232:=Tryz.underlying297
 a232:=Tryz.isAgg297
 z232:=Tryz.sizeOf297
 v232:=Tryz.zeroValue297
 t233:=Tryz.underlying298
 a233:=Tryz.isAgg298
 z233:=Tryz.sizeOf298
 v233:=Tryz.zeroValue298
 g15:=by kernel_rfl
 g16:=by kernel_rfl
 g17:=by kernel_rfl
 g18:=by kernel_rfl
 g19:=by kernel_rfl
 t80:=Tryz.underlying242
 a80:=Tryz.isAgg242
 z80:=Tryz.sizeOf242
 v80:=Tryz.zeroValue242
 i0:=by kernel_rfl
 i2:=by kernel_rfl
 i3:=by kernel_rfl
 i4:=by kernel_rfl
 i5:=by kernel_rfl
 i9:=by kernel_rfl
 i20:=by kernel_rfl
 i21:=by kernel_rfl
 i37:=by kernel_rfl
 i46:=by kernel_rfl
 i51:=by kernel_rfl
 i53:=by kernel_rfl
 i75:=by kernel_rfl
 i76:=by kernel_rfl
 i80:=by kernel_rfl
 i85:=by kernel_rfl
 i127:=by kernel_rfl
 i143:=by kernel_rfl
 i145:=by kernel_rfl
 i167:=by kernel_rfl
 i168:=by kernel_rfl
 i171:=by kernel_rfl
 i173:=by kernel_rfl
 i175:=by kernel_rfl
 i210:=by kernel_rfl
 i212:=by kernel_rfl
 i232:=by kernel_rfl
 i233:=by kernel_rfl
 m15:=by kernel_rfl
 m16:=by kernel_rfl
 m17:=by kernel_rfl
 m18:=by kernel_rfl
 m19:=by kernel_rfl
 c0:=by kernel_rfl
 c2:=by kernel_rfl
 c3:=by kernel_rfl
 c4:=by kernel_rfl
 c5:=by kernel_rfl
 c9:=by kernel_rfl
 c20:=by kernel_rfl
 c21:=by kernel_rfl
 c37:=by kernel_rfl
 c46:=by kernel_rfl
 c51:=by kernel_rfl
 c53:=by kernel_rfl
 c75:=by kernel_rfl
 c76:=by kernel_rfl
 c80:=by kernel_rfl
 c85:=by kernel_rfl
 c127:=by kernel_rfl
 c143:=by kernel_rfl
 c145:=by kernel_rfl
 c167:=by kernel_rfl
 c168:=by kernel_rfl
 c171:=by kernel_rfl
 c173:=by kernel_rfl
 c175:=by kernel_rfl
 c210:=by kernel_rfl
 c212:=by kernel_rfl
 c213:=by kernel_rfl
 c232:=by kernel_rfl
 c233:=by kernel_rfl }
open Go.RowKit in
theorem Tryz.strconv_Atoi_ok (s:ByteArray) (hmax:s.size≤9223372036854775806) (v:Int) (h:Lib.atoiAll s.data.toList= .ok v) (w:World):
  Calls Tryz.prog 243 #[.string s] w fun e w'=>e= .returned (.tuple #[.int .i64 v,.nilIface])∧(w'=w ∨ ∃ t,w'=Lib.bytesWorld w 5 t):=Any.strconv_Atoi_ok Tryz.laysC172 s hmax v h w
def Tryz.lays219_ren:Go.Shelf.Ren:=⟨fun | 219=>270 | 217=>287 | 225=>288 | 224=>289 | 267=>290 | 266=>306 | 314=>307 | n=>n,fun | 9=>9 | 3=>3 | 4=>4 | 5=>5 | 46=>256 | 146=>285 | 51=>284 | n=>n,fun | 1=>1 | n=>n⟩
theorem Tryz.lays219:Go.Proofs.Lays.n219 Tryz.prog Tryz.lays219_ren:={
 mixed:=by kernel_rfl
 f217:=Tryz.func287.trans (congrArg some (by kernel_rfl))
 f219:=Tryz.func270.trans (congrArg some (by kernel_rfl))
 f224:=Tryz.func289.trans (congrArg some (by kernel_rfl))
 f225:=Tryz.func288.trans (congrArg some (by kernel_rfl))
 f266:=Tryz.func306.trans (congrArg some (by kernel_rfl))
 f267:=Tryz.func290.trans (congrArg some (by kernel_rfl))
 f314:=Tryz.func307.trans (congrArg some (by kernel_rfl))
 t3:=Tryz.underlying3
 a3:=Tryz.isAgg3
 z3:=Tryz.sizeOf3
 v3:=Tryz.zeroValue3
 t4:=Tryz.underlying4
 a4:=Tryz.isAgg4
 z4:=Tryz.sizeOf4
 v4:=Tryz.zeroValue4
 t5:=Tryz.underlying5
 a5:=Tryz.isAgg5
 z5:=Tryz.sizeOf5
 v5:=Tryz.zeroValue5
 t9:=Tryz.underlying9
 a9:=Tryz.isAgg9
 z9:=Tryz.sizeOf9
 v9:=Tryz.zeroValue9
 t46:=Tryz.underlying256
 a46:=Tryz.isAgg256
 z46:=Tryz.sizeOf256
 v46:=Tryz.zeroValue256
 t51:=Tryz.underlying284
 a51:=Tryz.isAgg284
 z51:=Tryz.sizeOf284
 v51:=Tryz.zeroValue284
 t146:=Tryz.underlying285
 a146:=Tryz.isAgg285
 z146:=Tryz.sizeOf285
 v146:=Tryz.zeroValue285
 g1:=by kernel_rfl }
open Go.RowKit Go.Lib in
theorem Tryz.stringslite_Index_one (s:ByteArray) (c:UInt8) (w:World):
  Calls Tryz.prog 270 #[.string s,.string ⟨#[c]⟩] w fun e w'=>e= .returned (.int .i64 (Lib.indexByte s.data.toList c))∧w'=w:=Any.stringslite_Index_one Tryz.lays219 s c w
def Tryz.lays143_ren:Go.Shelf.Ren:=⟨fun | 143=>265 | 219=>270 | 217=>287 | 225=>288 | 224=>289 | 267=>290 | 266=>306 | 314=>307 | n=>n,fun | 9=>9 | 3=>3 | 4=>4 | 5=>5 | 46=>256 | 146=>285 | 51=>284 | n=>n,fun | 1=>1 | n=>n⟩
theorem Tryz.lays143:Go.Proofs.Lays.n143 Tryz.prog Tryz.lays143_ren:={
 mixed:=by kernel_rfl
 f143:=Tryz.func265.trans (congrArg some (by kernel_rfl))
 f217:=Tryz.func287.trans (congrArg some (by kernel_rfl))
 f219:=Tryz.func270.trans (congrArg some (by kernel_rfl))
 f224:=Tryz.func289.trans (congrArg some (by kernel_rfl))
 f225:=Tryz.func288.trans (congrArg some (by kernel_rfl))
 f266:=Tryz.func306.trans (congrArg some (by kernel_rfl))
 f267:=Tryz.func290.trans (congrArg some (by kernel_rfl))
 f314:=Tryz.func307.trans (congrArg some (by kernel_rfl))
 t3:=Tryz.underlying3
 a3:=Tryz.isAgg3
 z3:=Tryz.sizeOf3
 v3:=Tryz.zeroValue3
 t4:=Tryz.underlying4
 a4:=Tryz.isAgg4
 z4:=Tryz.sizeOf4
 v4:=Tryz.zeroValue4
 t5:=Tryz.underlying5
 a5:=Tryz.isAgg5
 z5:=Tryz.sizeOf5
 v5:=Tryz.zeroValue5
 t9:=Tryz.underlying9
 a9:=Tryz.isAgg9
 z9:=Tryz.sizeOf9
 v9:=Tryz.zeroValue9
 t46:=Tryz.underlying256
 a46:=Tryz.isAgg256
 z46:=Tryz.sizeOf256
 v46:=Tryz.zeroValue256
 t51:=Tryz.underlying284
 a51:=Tryz.isAgg284
 z51:=Tryz.sizeOf284
 v51:=Tryz.zeroValue284
 t146:=Tryz.underlying285
 a146:=Tryz.isAgg285
 z146:=Tryz.sizeOf285
 v146:=Tryz.zeroValue285
 g1:=by kernel_rfl }
open Go.RowKit Go.Lib in
theorem Tryz.strings_Index_one (s:ByteArray) (c:UInt8) (w:World):
  Calls Tryz.prog 265 #[.string s,.string ⟨#[c]⟩] w fun e w'=>e= .returned (.int .i64 (Lib.indexByte s.data.toList c))∧w'=w:=Any.strings_Index_one Tryz.lays143 s c w
def Tryz.lays100_ren:Go.Shelf.Ren:=⟨fun | 100=>216 | 207=>241 | n=>n,fun | 9=>9 | 4=>4 | 3=>3 | n=>n,fun | n=>n⟩
theorem Tryz.lays100:Go.Proofs.Lays.n100 Tryz.prog Tryz.lays100_ren:={
 mixed:=by kernel_rfl
 f100:=Tryz.func216.trans (congrArg some (by kernel_rfl))
 f207:=Tryz.func241.trans (congrArg some (by kernel_rfl))
 t3:=Tryz.underlying3
 a3:=Tryz.isAgg3
 z3:=Tryz.sizeOf3
 v3:=Tryz.zeroValue3
 t4:=Tryz.underlying4
 a4:=Tryz.isAgg4
 z4:=Tryz.sizeOf4
 v4:=Tryz.zeroValue4
 t9:=Tryz.underlying9
 a9:=Tryz.isAgg9
 z9:=Tryz.sizeOf9
 v9:=Tryz.zeroValue9 }
open Go.RowKit Go.Lib in
theorem Tryz.strings_HasSuffix (s p:ByteArray) (w:World) (hs:s.size≤9223372036854775807):
  Calls Tryz.prog 216 #[.string s,.string p] w fun e w'=>e= .returned (.bool (Lib.hasSuffix s.data.toList p.data.toList))∧w'=w:=Any.strings_HasSuffix Tryz.lays100 s p w hs
def Tryz.lays221_ren:Go.Shelf.Ren:=⟨fun | 221=>242 | 268=>266 | 138=>267 | 143=>265 | 195=>280 | 197=>264 | 218=>281 | 219=>270 | 260=>279 | 217=>287 | 225=>288 | 224=>289 | 267=>290 | 266=>306 | 314=>307 | n=>n,fun | 9=>9 | 3=>3 | 31=>30 | 4=>4 | 0=>0 | 105=>248 | 21=>21 | 5=>5 | 46=>256 | 119=>275 | 139=>278 | 138=>277 | 146=>285 | 51=>284 | n=>n,fun | 1=>1 | 3=>2 | 4=>3 | n=>n⟩
theorem Tryz.lays221:Go.Proofs.Lays.n221 Tryz.prog Tryz.lays221_ren:={
 mixed:=by kernel_rfl
 f138:=Tryz.func267.trans (congrArg some (by kernel_rfl))
 f143:=Tryz.func265.trans (congrArg some (by kernel_rfl))
 f195:=Tryz.func280.trans (congrArg some (by kernel_rfl))
 f197:=Tryz.func264.trans (congrArg some (by kernel_rfl))
 f217:=Tryz.func287.trans (congrArg some (by kernel_rfl))
 f218:=Tryz.func281.trans (congrArg some (by kernel_rfl))
 f219:=Tryz.func270.trans (congrArg some (by kernel_rfl))
 f221:=Tryz.func242.trans (congrArg some (by kernel_rfl))
 f224:=Tryz.func289.trans (congrArg some (by kernel_rfl))
 f225:=Tryz.func288.trans (congrArg some (by kernel_rfl))
 f260:=Tryz.func279.trans (congrArg some (by kernel_rfl))
 f266:=Tryz.func306.trans (congrArg some (by kernel_rfl))
 f267:=Tryz.func290.trans (congrArg some (by kernel_rfl))
 f268:=Tryz.func266.trans (congrArg some (by kernel_rfl))
 f314:=Tryz.func307.trans (congrArg some (by kernel_rfl))
 t0:=Tryz.underlying0
 a0:=Tryz.isAgg0
 z0:=Tryz.sizeOf0
 v0:=Tryz.zeroValue0
 t3:=Tryz.underlying3
 a3:=Tryz.isAgg3
 z3:=Tryz.sizeOf3
 v3:=Tryz.zeroValue3
 t4:=Tryz.underlying4
 a4:=Tryz.isAgg4
 z4:=Tryz.sizeOf4
 v4:=Tryz.zeroValue4
 t5:=Tryz.underlying5
 a5:=Tryz.isAgg5
 z5:=Tryz.sizeOf5
 v5:=Tryz.zeroValue5
 t9:=Tryz.underlying9
 a9:=Tryz.isAgg9
 z9:=Tryz.sizeOf9
 v9:=Tryz.zeroValue9
 t21:=Tryz.underlying21
 a21:=Tryz.isAgg21
 z21:=Tryz.sizeOf21
 v21:=Tryz.zeroValue21
 t31:=Tryz.underlying30
 a31:=Tryz.isAgg30
 z31:=Tryz.sizeOf30
 v31:=Tryz.zeroValue30
 t46:=Tryz.underlying256
 a46:=Tryz.isAgg256
 z46:=Tryz.sizeOf256
 v46:=Tryz.zeroValue256
 t51:=Tryz.underlying284
 a51:=Tryz.isAgg284
 z51:=Tryz.sizeOf284
 v51:=Tryz.zeroValue284
 t105:=Tryz.underlying248
 a105:=Tryz.isAgg248
 z105:=Tryz.sizeOf248
 v105:=Tryz.zeroValue248
 t119:=Tryz.underlying275
 a119:=Tryz.isAgg275
 z119:=Tryz.sizeOf275
 t138:=Tryz.underlying277
 a138:=Tryz.isAgg277
 z138:=Tryz.sizeOf277
 v138:=Tryz.zeroValue277
 t139:=Tryz.underlying278
 a139:=Tryz.isAgg278
 z139:=Tryz.sizeOf278
 v139:=Tryz.zeroValue278
 t146:=Tryz.underlying285
 a146:=Tryz.isAgg285
 z146:=Tryz.sizeOf285
 v146:=Tryz.zeroValue285
 g1:=by kernel_rfl
 g3:=by kernel_rfl
 g4:=by kernel_rfl }
def Tryz.laysPa41_ren:Go.Shelf.Ren:=⟨fun | 41=>254 | n=>n,fun | 3=>3 | n=>n,fun | n=>n⟩
theorem Tryz.laysPa41:Go.Proofs.Lays.p41 Tryz.prog Tryz.laysPa41_ren:={
 mixed:=by kernel_rfl
 f41:=Tryz.func254.trans (congrArg some (by kernel_rfl))
 t3:=Tryz.underlying3
 a3:=Tryz.isAgg3
 z3:=Tryz.sizeOf3
 v3:=Tryz.zeroValue3 }
open Go.RowKit Go.Lib in
theorem Tryz.hex_EncodedLen (n:Int) (h0:0≤n) (h1:n<4611686018427387904) (w:World):
  Calls Tryz.prog 254 #[.int .i64 n] w fun e w'=>e= .returned (.int .i64 (n*2))∧w'=w:=Any.hex_EncodedLen Tryz.laysPa41 n h0 h1 w
def Tryz.laysPah39_ren:Go.Shelf.Ren:=⟨fun | 39=>227 | 41=>254 | 40=>255 | n=>n,fun | 30=>144 | 9=>9 | 3=>3 | 0=>0 | 5=>5 | 46=>256 | n=>n,fun | n=>n⟩
theorem Tryz.laysPah39:Go.Proofs.Lays.ph39 Tryz.prog Tryz.laysPah39_ren:={
 mixed:=by kernel_rfl
 f39:=Tryz.func227.trans (congrArg some (by kernel_rfl))
 f40:=Tryz.func255.trans (congrArg some (by kernel_rfl))
 f41:=Tryz.func254.trans (congrArg some (by kernel_rfl))
 t0:=Tryz.underlying0
 a0:=Tryz.isAgg0
 z0:=Tryz.sizeOf0
 v0:=Tryz.zeroValue0
 t3:=Tryz.underlying3
 a3:=Tryz.isAgg3
 z3:=Tryz.sizeOf3
 v3:=Tryz.zeroValue3
 t5:=Tryz.underlying5
 a5:=Tryz.isAgg5
 z5:=Tryz.sizeOf5
 v5:=Tryz.zeroValue5
 t9:=Tryz.underlying9
 a9:=Tryz.isAgg9
 z9:=Tryz.sizeOf9
 v9:=Tryz.zeroValue9
 t30:=Tryz.underlying144
 a30:=Tryz.isAgg144
 z30:=Tryz.sizeOf144
 v30:=Tryz.zeroValue144
 t46:=Tryz.underlying256
 a46:=Tryz.isAgg256
 z46:=Tryz.sizeOf256
 v46:=Tryz.zeroValue256
 info5:=by kernel_rfl }
def Tryz.laysPah43_ren:Go.Shelf.Ren:=⟨fun | 43=>226 | 42=>252 | 44=>253 | n=>n,fun | 9=>9 | 30=>144 | 35=>227 | 3=>3 | 38=>236 | 4=>4 | 0=>0 | 5=>5 | 47=>255 | 46=>256 | 45=>242 | n=>n,fun | 0=>0 | n=>n⟩
theorem Tryz.laysPah43:Go.Proofs.Lays.ph43 Tryz.prog Tryz.laysPah43_ren:={
 mixed:=by kernel_rfl
 f42:=Tryz.func252.trans (congrArg some (by kernel_rfl))
 f43:=Tryz.func226.trans (congrArg some (by kernel_rfl))
 f44:=Tryz.func253.trans (congrArg some (by kernel_rfl))
 t0:=Tryz.underlying0
 a0:=Tryz.isAgg0
 z0:=Tryz.sizeOf0
 v0:=Tryz.zeroValue0
 t3:=Tryz.underlying3
 a3:=Tryz.isAgg3
 z3:=Tryz.sizeOf3
 v3:=Tryz.zeroValue3
 t4:=Tryz.underlying4
 a4:=Tryz.isAgg4
 z4:=Tryz.sizeOf4
 v4:=Tryz.zeroValue4
 t5:=Tryz.underlying5
 a5:=Tryz.isAgg5
 z5:=Tryz.sizeOf5
 v5:=Tryz.zeroValue5
 t9:=Tryz.underlying9
 a9:=Tryz.isAgg9
 z9:=Tryz.sizeOf9
 v9:=Tryz.zeroValue9
 t30:=Tryz.underlying144
 a30:=Tryz.isAgg144
 z30:=Tryz.sizeOf144
 v30:=Tryz.zeroValue144
 t35:=Tryz.underlying227
 a35:=Tryz.isAgg227
 z35:=Tryz.sizeOf227
 v35:=Tryz.zeroValue227
 t38:=Tryz.underlying236
 a38:=Tryz.isAgg236
 z38:=Tryz.sizeOf236
 v38:=Tryz.zeroValue236
 t45:=Tryz.underlying242
 a45:=Tryz.isAgg242
 z45:=Tryz.sizeOf242
 v45:=Tryz.zeroValue242
 t46:=Tryz.underlying256
 a46:=Tryz.isAgg256
 z46:=Tryz.sizeOf256
 v46:=Tryz.zeroValue256
 t47:=Tryz.underlying255
 a47:=Tryz.isAgg255
 z47:=Tryz.sizeOf255
 v47:=Tryz.zeroValue255
 g0:=by kernel_rfl
 info5:=by kernel_rfl }
open Go.RowKit Go.Lib in
theorem Tryz.hex_DecodeString_owns (s:ByteArray) (w:World) (ev:Value) (hE:w.cell? ⟨0,0,none⟩=some ev) (hbig:s.size≤281474976710656):
  Calls Tryz.prog 226 #[.string s] w fun e w' => ∃ v, e = .returned (.tuple #[v, Hx.errVal 255 ev (Hx.decode s.data.toList).2]) ∧
   w'.ownsRow w.heap.size 5 1 v (Hx.decode s.data.toList).1.length ((Hx.decode s.data.toList).1.map fun b=>Value.int .u8 (b.toNat:Int))∧Below w.heap.size w w':=Any.hex_DecodeString_owns Tryz.laysPah43 s w ev hE hbig
open Go.RowKit Go.Lib in
theorem Tryz.hex_EncodeToString_bytes (bs os cs:Nat) (l:List UInt8) (w:World) (hsrc: ∀ i (h:i<l.length),w.cell? ⟨bs,os+i,none⟩=some (.int .u8 ((l[i]'h).toNat:Int))) (hb:bs<w.heap.size) (hbig:2*l.length≤281474976710656):
  Calls Tryz.prog 227 #[.slice (some ⟨bs,os,none⟩) l.length cs] w fun e w'=>e= .returned (.string ⟨(Hx.encode l).toArray⟩)∧Below w.heap.size w w':=Any.hex_EncodeToString_bytes Tryz.laysPah39 bs os cs l w hsrc hb hbig
end Go.Proofs

namespace Go.Proofs.YtppialklomgajaaGreatDoor.Fw
open Go.RowKit
section
def strconv_Itoa (p0:Int):ByteArray:=⟨(Lib.itoa p0).toArray⟩
theorem Yia:gl6=Lib.pow10Tab:=by decide
open Go.Sort in
theorem Yat (w:World) (k:Nat) (os:Array Obj):Below w.heap.size w (grow (w.drewN k) os):=by
 refine⟨rfl,rfl,rfl,by simp[grow,World.drewN],fun b hb=>?_⟩
 show(w.heap++os)[b]?=w.heap[b]?
 rw[Array.getElem?_append_left hb]
theorem Qz8 (p0:Int) {w:World} (hi0:I64 p0) (hG7:GV 6 (gl6.map (Value.int .u64)) w):
  Calls Tryz.prog 229 [.int .i64 p0].toArray w (fun e w'=>e= .returned (.string (strconv_Itoa p0))∧Below w.heap.size w w'):=by
 have ht:Lib.TabIs Tryz.prog w "internal/strconv.uint64pow10" .u64 Lib.pow10Tab:=by
  rw[←Yia]
  exact hG7.var (by kernel_rfl)
 refine(Tryz.strconv_Itoa p0 hi0.1 hi0.2 w ht).mono fun e w2 h=>?_
 obtain⟨h1,k,os,rfl⟩:=h
 exact⟨h1,Yat w k os⟩
end
section
def Qcd (p0:Int) (p1:Int) (p2:Int):Bool:=(decide (p0≥p1))&&(decide (p0≤p2))
theorem Q32 (p0:Int) (p1:Int) (p2:Int) {w:World}  :
  Calls Tryz.prog 158 [.int .i64 p0,.int .i64 p1,.int .i64 p2].toArray w (fun e w'=>e= .returned (.bool (Qcd p0 p1 p2))∧Below w.heap.size w w'):=by
 refine enter Tryz.func158 rfl Tryz.ntmps158 (Nat.le_of_ble_eq_true rfl) ?_
 intro a0 hE0
 have hS0:=SH.start w
 have hM:=Qcd.eq_1 p0 p1 p2
 refine wp_seq (wp_region_lit ?_)
 refine Qa1 hE0 (Qdd hE0 rfl) rfl fun a1 hE1=>wpList_nil ?_
 refine Qap ?_
 refine wp_seq (wp_region_lit ?_)
 refine Qa1 hE1 (Qez hE1 rfl) rfl fun a2 hE2=>Qa1 hE2 (Qez hE2 rfl) rfl fun a3 hE3=>Qa1 hE3 (Ygk hE3 rfl rfl) rfl fun a4 hE4=>Qa1 hE4 (Qez hE4 rfl) rfl fun a5 hE5=>?_
 refine Ye0 4 (fun a w2=> ∃ r:Bool,r=((decide (p0≥p1))&&(decide (p0≤p2)))∧SH (Old w) w w2 []∧Env 15 ((14,.bool r)::[(0,.int .i64 p0),(1,.int .i64 p1),(2,.int .i64 p2),(6,.bool false),(7,.int .i64 p0),(8,.int .i64 p1),(9,.bool (decide (p0≥p1))),(10,.bool (decide (p0≥p1)))]) a) ?_ ?_
 ·
  rcases Bool.eq_false_or_eq_true (decide (p0≥p1)) with hb7 | hb7
  ·
   have hb7f:p0≥p1:=of_decide_eq_true hb7
   refine Q2e hE5 rfl rfl rfl hb7 <| Qa1 hE5 (Qez hE5 rfl) rfl fun a8 hE8=>Q2e hE8 rfl rfl rfl hb7 <| Qa1 hE8 (Qez hE8 rfl) rfl fun a9 hE9=>Q2e hE9 rfl rfl rfl hb7 <| Qa1 hE9 (Ygj hE9 rfl rfl) rfl fun a10 hE10=>Qa1 hE10 (Qxo hE10 rfl hb7 rfl) rfl fun a11 hE11=>wpList_nil ?_
   exact⟨decide (p0≤p2),by simp only[hb7,Bool.true_and,Bool.false_and,Bool.true_or,Bool.false_or,Bool.and_true,Bool.or_true,Bool.and_false,Bool.or_false],hS0,hE11.weaken ⟨rfl,rfl,rfl,rfl,rfl,rfl,rfl,rfl,rfl,trivial⟩⟩
  ·
   have hb7f: ¬ (p0≥p1):=of_decide_eq_false hb7
   refine Qty hE5 rfl rfl rfl hb7 rfl fun a12 hE12=>Qty hE12 rfl rfl rfl hb7 rfl fun a13 hE13=>Qty hE13 rfl rfl rfl hb7 rfl fun a14 hE14=>Qa1 hE14 (Qxp hE14 rfl hb7 rfl) rfl fun a15 hE15=>wpList_nil ?_
   exact⟨false,by simp only[hb7,Bool.true_and,Bool.false_and,Bool.true_or,Bool.false_or,Bool.and_true,Bool.or_true,Bool.and_false,Bool.or_false],hS0,hE15.weaken ⟨rfl,rfl,rfl,rfl,rfl,rfl,rfl,rfl,rfl,trivial⟩⟩
 rintro a16 w16 ⟨r16,hr16,hS16,hE16⟩
 subst hr16
 refine Qa1 hE16 (Qdd hE16 rfl) rfl fun a17 hE17=>wpList_nil ?_
 refine Qap ?_
 refine wp_ret ?_
 exact fin1 hE17 rfl rfl ⟨by rw[hM],hS16.below⟩
def Qcm (p0:Int) (p1:Int) (p2:Int):Bool:=(decide (p0≥p1))&&(decide (p0≤p2))
theorem Q6b (p0:Int) (p1:Int) (p2:Int) {w:World}  :
  Calls Tryz.prog 146 [.int .i64 p0,.int .i64 p1,.int .i64 p2].toArray w (fun e w'=>e= .returned (.bool (Qcm p0 p1 p2))∧Below w.heap.size w w'):=by
 refine enter Tryz.func146 rfl Tryz.ntmps146 (Nat.le_of_ble_eq_true rfl) ?_
 intro a0 hE0
 have hS0:=SH.start w
 have hM:=Qcm.eq_1 p0 p1 p2
 refine wp_seq (wp_region_lit ?_)
 refine Qa1 hE0 (Qdd hE0 rfl) rfl fun a1 hE1=>wpList_nil ?_
 refine Qap ?_
 refine wp_seq (wp_region_lit ?_)
 refine Qa1 hE1 (Qez hE1 rfl) rfl fun a2 hE2=>Qa1 hE2 (Qez hE2 rfl) rfl fun a3 hE3=>Qa1 hE3 (Ygk hE3 rfl rfl) rfl fun a4 hE4=>Qa1 hE4 (Qez hE4 rfl) rfl fun a5 hE5=>?_
 refine Ye0 4 (fun a w2=> ∃ r:Bool,r=((decide (p0≥p1))&&(decide (p0≤p2)))∧SH (Old w) w w2 []∧Env 15 ((14,.bool r)::[(0,.int .i64 p0),(1,.int .i64 p1),(2,.int .i64 p2),(6,.bool false),(7,.int .i64 p0),(8,.int .i64 p1),(9,.bool (decide (p0≥p1))),(10,.bool (decide (p0≥p1)))]) a) ?_ ?_
 ·
  rcases Bool.eq_false_or_eq_true (decide (p0≥p1)) with hb7 | hb7
  ·
   have hb7f:p0≥p1:=of_decide_eq_true hb7
   refine Q2e hE5 rfl rfl rfl hb7 <| Qa1 hE5 (Qez hE5 rfl) rfl fun a8 hE8=>Q2e hE8 rfl rfl rfl hb7 <| Qa1 hE8 (Qez hE8 rfl) rfl fun a9 hE9=>Q2e hE9 rfl rfl rfl hb7 <| Qa1 hE9 (Ygj hE9 rfl rfl) rfl fun a10 hE10=>Qa1 hE10 (Qxo hE10 rfl hb7 rfl) rfl fun a11 hE11=>wpList_nil ?_
   exact⟨decide (p0≤p2),by simp only[hb7,Bool.true_and,Bool.false_and,Bool.true_or,Bool.false_or,Bool.and_true,Bool.or_true,Bool.and_false,Bool.or_false],hS0,hE11.weaken ⟨rfl,rfl,rfl,rfl,rfl,rfl,rfl,rfl,rfl,trivial⟩⟩
  ·
   have hb7f: ¬ (p0≥p1):=of_decide_eq_false hb7
   refine Qty hE5 rfl rfl rfl hb7 rfl fun a12 hE12=>Qty hE12 rfl rfl rfl hb7 rfl fun a13 hE13=>Qty hE13 rfl rfl rfl hb7 rfl fun a14 hE14=>Qa1 hE14 (Qxp hE14 rfl hb7 rfl) rfl fun a15 hE15=>wpList_nil ?_
   exact⟨false,by simp only[hb7,Bool.true_and,Bool.false_and,Bool.true_or,Bool.false_or,Bool.and_true,Bool.or_true,Bool.and_false,Bool.or_false],hS0,hE15.weaken ⟨rfl,rfl,rfl,rfl,rfl,rfl,rfl,rfl,rfl,trivial⟩⟩
 rintro a16 w16 ⟨r16,hr16,hS16,hE16⟩
 subst hr16
 refine Qa1 hE16 (Qdd hE16 rfl) rfl fun a17 hE17=>wpList_nil ?_
 refine Qap ?_
 refine wp_ret ?_
 exact fin1 hE17 rfl rfl ⟨by rw[hM],hS16.below⟩
theorem Qhy {a b c:Int} (h:Qcd a b c=true):b≤a∧a≤c:=by simpa [Qcd] using h
theorem Qg5 {a b c:Int} (h:Qcm a b c=true):b≤a∧a≤c:=by simpa [Qcm] using h
end
end Go.Proofs.YtppialklomgajaaGreatDoor.Fw
