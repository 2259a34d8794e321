/-
  The texts Am10, Am11, Am12, Am13, Am14, Am15, Am16, Am9, G, Sy, Sy5, Am17, Am18, Sy3, Am19, Am21, Sy4, Am22, Am23, Sy6, Am24, Am25 of this proof, one behind the other: what each proves stands at its head. No condition.
-/
import Derived.Laws.RangeString
import Derived.Laws.IdiomStrings
import Derived.WideLaws
import Derived.Test.YtppialklomgajaaGreatDoorProg
import Derived.KernelRfl
import Derived.Lib.SliceRun
import Derived.Laws.Externs
import Derived.Test.YtppialklomgajaaGreatDoorLGA
set_option linter.unusedVariables false
set_option linter.unusedSimpArgs false
set_option maxRecDepth 100000
namespace Go.Proofs.YtppialklomgajaaGreatDoor.Fw
open Go.RowKit
open IntKind (i64)
section
theorem Yf1: ∀ (l:List Value),V.names.namesL (l.map V.v)=[]
 | []=>rfl
 | x::r=>by rw[List.map_cons,Qkz,Yf1 r];rfl
theorem Ym0 {zs:Array Value} {sz m i:Nat} (hz:zs.size=sz) (hp:0<sz) (hi:i<m):cut sz ((Array.range (m*sz)).map (fun j=>zs[j % zs.size]!)).toList i=zs.toList:=by
 have hle:i*sz+sz≤m*sz:=by
  have:(i+1)*sz≤m*sz:=Nat.mul_le_mul_right _ hi
  rwa [Nat.add_mul,Nat.one_mul] at this
 unfold cut
 refine List.ext_getElem? fun j=>?_
 by_cases hj:j<sz
 ·rw[List.getElem?_take_of_lt hj,List.getElem?_drop]
  have h1:i*sz+j<m*sz:=by omega
  rw[Array.getElem?_toList,Array.getElem?_map]
  rw[Array.getElem?_eq_getElem (by simpa using h1)]
  simp only[Array.getElem_range,Option.map_some,hz]
  rw[Nat.mul_comm,Nat.mul_add_mod,Nat.mod_eq_of_lt hj,Array.getElem?_toList,getElem!_pos zs j (by omega),Array.getElem?_eq_getElem (by omega)]
 ·rw[List.getElem?_eq_none (by simp;omega),List.getElem?_eq_none (by simp;omega)]
section
variable {c:Cx} {σ:St} {all:Array Oper} {ty:TypeId} {pos:String} {after:Array Edge} {d:Nat}
theorem OpS.make {α:Type} {dα:Dat α} [s:@Str α dα] {t e by':Nat} {x y:Operand} {z:Value} (m:Nat) (z0:α) {i j:Int} (hx:ev σ.ρ x=some (.v (.int .i64 i))) (hy:ev σ.ρ y=some (.v (.int .i64 j))) (hi:i=m) (hj:j=m)
  (ht:c.ti t= .sl e (Dat.sz α) by') (hz:c.zr e=some z) (hzs:z.cells.size=Dat.sz α) (ho:ElOk σ.E (Dat.sz α) dα s.fk [z0] (z.cells.toList.map V.v)) (hb:by'*m≤281474976710656) (hm:m≤9223372036854775807) (hd:Nat.blt d σ.n=true):
  OpS c σ all ⟨some d,.makeSlice t x y,ty,pos,after,none⟩ (Qc9 σ d dα (List.replicate m z0)):=
 OpS.of fun θ a w h K Q hK => by
  subst hi
  subst hj
  obtain⟨S,w1,hh⟩:=h.heap
  have hti:=c.tiok t
  rw[ht] at hti
  simp only[TI.chk,Bool.and_eq_true] at hti
  obtain⟨hu,inf,hi,his,hib⟩:=Qbd hti.2
  have hex:=Option.some.inj (h.env.con hx)
  have hey:=Option.some.inj (h.env.con hy)
  obtain⟨_,hown⟩:=hh.elems s (Yd0 z.cells.toList) (Yf1 _) ho
  have hown0 : ∀ w', Dat.own w' z.cells.toList z0 [] := fun w' => by
   have:=hown w' 0 z0 rfl
   unfold cut at this
   rwa [Nat.zero_mul,List.drop_zero,List.take_of_length_le (by rw[Array.length_toList,hzs];exact Nat.le_refl _)] at this
  have hw:i64.wrap (m:Int)=m:=IntWalk.i64_in _ (by omega)
  have hlim: ¬ (281474976710656<(by':Int)*(m:Int)):=by
   have:((by'*m:Nat):Int)≤281474976710656:=by omega
   rw[Int.natCast_mul] at this
   omega
  have: ∃ arr:Array Value,arr.size=m*Dat.sz α∧(∀ i,i<m→cut (Dat.sz α) arr.toList i=z.cells.toList)∧(execOp a.eval ⟨some d,.makeSlice t x y,ty,pos,after,none⟩).run c.P w= .ok (.value (.slice (some ⟨w.heap.size,0,none⟩) m m)) (w.alloc (.cells arr e)):=by
   by_cases h0:m=0
   ·subst h0
    refine⟨#[],by simp,fun i hi=>by omega,?_⟩
    have hr:Array.range 0= #[]:=rfl
    simp[execOp,←hex,←hey,Instr.makeSlice,run_underlying hu,asInt,asIntOf,typeInfo,hi,sizeOf,newRow,hr,show i64.wrap 0=0 from rfl]
   ·refine⟨(Array.range (m*Dat.sz α)).map (z.cells[· % z.cells.size]!),by simp,fun i hi=>Ym0 hzs (Dat.sz_pos α) hi,?_⟩
    have hne: ¬ (m*Dat.sz α=0):=by have:=Dat.sz_pos α;rw[Nat.mul_eq_zero];omega
    have hz':=c.zok e z hz w
    have hm0: ¬ ((m:Int)<0):=by omega
    have hszn: ¬ (Dat.sz α=0):=by have:=Dat.sz_pos α;omega
    have hlim': ¬ (((by':Int)*(m:Int))>2 ^ 48):=by omega
    simp[execOp,←hex,←hey,Instr.makeSlice,run_underlying hu,asInt,asIntOf,typeInfo,hi,sizeOf,newRow,hib,his,hw,hlim,hz',hm0]
    exact fun h=>absurd h hne
  obtain⟨arr,hsz,hcut,hrun⟩:=this
  unfold Oper.wp
  rw[hrun]
  have h3: ∀ w2,w2.heap[w.heap.size]?=some (.cells arr e (0,0))→SlO w2 (.slice (some ⟨w.heap.size,0,none⟩) (List.replicate m z0).length m) (List.replicate m z0) [w.heap.size]:=fun w2 h2=>
   Qgs.2 (.inr ⟨w.heap.size, m, arr, e, List.replicate m [], rfl, h2, by simp, by unfold maxLen; omega, by rw [hsz]; exact Nat.le_refl _, by simp, by simp, fun i y hi => by
    have him:i<m:=by simpa using (List.getElem?_eq_some_iff.1 hi).1
    rw[List.getElem?_replicate,if_pos him] at hi
    cases hi
    refine⟨[],by rw[List.getElem?_replicate,if_pos him],?_⟩
    rw[hcut i him]
    exact hown0 w2⟩)
  have hbel:Below w.heap.size w (w.alloc (.cells arr e)):=(Below.refl _ _).alloc (Nat.le_refl _) _
  let l:Loc:=⟨some ⟨w.heap.size,0,none⟩,m,[w.heap.size]⟩
  have hg:(θ++[l])[σ.m]?=some l:=by rw[←h.len];exact Qfa
  refine hK [l] _ _ ⟨by rw[List.length_append,h.len];rfl,(h.env.ext (θ':=[l])).put hd ?_,S,w1,?_⟩
  ·have:=h.sl0 (l:=l) (List.replicate m z0).length
   rw[List.length_replicate] at this ⊢
   exact this
  ·refine hh.ext.new hbel ?_ ?_ ?_ trivial
   ·intro w2 hw2
    refine⟨l,hg,h3 w2 ?_⟩
    have hmem:w.heap.size∈((En.own α dα (List.replicate m z0)).ck (θ++[l]) σ.m).F:=by
     show _∈locF _ _
     rw[Qai hg]
     simp[l]
    exact(hw2 _ hmem).trans (heap_alloc_new w _)
   ·intro b hb
    have hb':b∈locF (θ++[l]) σ.m:=hb
    rw[Qai hg] at hb'
    have:b=w.heap.size:=by simpa [l] using hb'
    subst this
    exact⟨Nat.le_refl _,(Array.getElem?_eq_some_iff.1 (heap_alloc_new w _)).1⟩
   ·show(locF _ σ.m).Nodup
    rw[Qai hg]
    simp[l]
theorem OpS.oidx {α:Type} {dα:Dat α} {t e by' r len:Nat} {x y:Operand} {i:Int} {xs:List α} (k:Nat) (hk:k<xs.length) (hx:ev σ.ρ x=some (.sl r len)) (hy:ev σ.ρ y=some (.v (.int .i64 i))) (hp:lkE σ.E r=some (.own α dα xs)) (hl:len=xs.length) (hi:i=k) (ht:c.ti t= .sl e (Dat.sz α) by') (hd:Nat.blt d σ.n=true):
  OpS c σ all ⟨some d,.indexAddr t x y,ty,pos,after,none⟩ (put d (.pt r (k*Dat.sz α)) σ):=
 OpS.of fun θ a w h K Q hK => by
  subst hi
  subst hl
  obtain⟨S,w1,hh⟩:=h.heap
  obtain⟨l,hl,hown⟩:=hh.own hp
  have hc:=h.env.con hx
  simp only[V.con,hl,Option.some.injEq] at hc
  obtain⟨b,hA⟩: ∃ b,l.A=some ⟨b,0,none⟩:=by
   rcases hown with ⟨h1,h2,_⟩ | ⟨g,cap,arr,T,Fs,h1,_⟩
   ·rw[h2] at hk;exact absurd hk (by simp)
   ·injection h1 with h1 _ _
    exact⟨g,h1⟩
  have hti:=c.tiok t
  rw[ht] at hti
  simp only[TI.chk,Bool.and_eq_true] at hti
  have hx':=h.env.is hx (by rw[h.env.con hx,←hc,hA])
  have hy':=h.env.isv hy
  have hyy:=Qi7 (P:=c.P) (w:=w) (ty:=ty) h.env.env hx' hy' (by omega) (by omega) hti.2
  unfold Oper.wp
  rw[hyy]
  refine hK [] _ _ (h.put hd (v:= .pt r (k*Dat.sz α)) ?_).app0
  obtain⟨A,cap,F⟩:=l
  simp only at hA
  subst hA
  simp only[V.con,hl,Addr.add_zero',Int.toNat_natCast]
end
theorem SH.fuse {S:Nat→Prop} {w0 w w':World} {L D Q:List Ck} (h:SH S w0 w L) {c':Ck} (hp:L.Perm (D++Q)) (hos:w'.os=w.os) (htape:w'.tape=w.tape) (hout:w'.output=w.output) (hsize:w.heap.size≤w'.heap.size)
  (hsame: ∀ b,b<w.heap.size→b ∉ D.flatMap (·.F)→w'.heap[b]?=w.heap[b]?) (hok:c'.ok w') (hF: ∀ b∈c'.F,(b∈D.flatMap (·.F)∨w.heap.size≤b)∧b<w'.heap.size) (hn:c'.F.Nodup):SH S w0 w' (c'::Q):=by
 have hap:(D.flatMap (·.F)++Q.flatMap (·.F)).Nodup:=by
  rw[←List.flatMap_append]
  exact(hp.flatMap_right _).nodup_iff.1 h.apart
 obtain⟨_,hQn,hdj⟩:=List.nodup_append.1 hap
 have hD : ∀ b ∈ D.flatMap (·.F), ¬ S b ∧ b < w.heap.size := fun b hb => by
  obtain⟨c,hc,hbc⟩:=List.mem_flatMap.1 hb
  exact h.ge c (hp.mem_iff.2 (List.mem_append_left _ hc)) b hbc
 have hQ: ∀ c∈Q,c∈L:=fun c hc=>hp.mem_iff.2 (List.mem_append_right _ hc)
 refine⟨?_,h.dom,?_,?_,?_⟩
 ·exact h.keep.trans ⟨hos,htape,hout,hsize,fun b hb=>hsame b (by have:=h.dom b hb;have:=h.size;omega) fun hbF=>(hD b hbF).1 hb⟩
 ·intro d hd
  rcases List.mem_cons.1 hd with rfl | hd
  ·exact hok
  ·refine(h.ok d (hQ d hd)).same fun b hb=>hsame b (h.ge d (hQ d hd) b hb).2 fun hbD=>hdj b hbD b (List.mem_flatMap.2 ⟨d,hd,hb⟩) rfl
 ·intro d hd b hb
  rcases List.mem_cons.1 hd with rfl | hd
  ·obtain⟨h1,h2⟩:=hF b hb
   refine⟨?_,h2⟩
   rcases h1 with h1 | h1
   ·exact(hD b h1).1
   ·intro hSb;have:=h.dom b hSb;have:=h.size;omega
  ·have:=h.ge d (hQ d hd) b hb
   exact⟨this.1,by omega⟩
 ·rw[List.flatMap_cons,List.nodup_append]
  refine⟨hn,hQn,fun b hb b' hb'=>?_⟩
  rintro rfl
  rcases(hF b hb).1 with h1 | h1
  ·exact hdj b h1 b hb' rfl
  ·obtain⟨d,hd,hbd⟩:=List.mem_flatMap.1 hb'
   have:=(h.ge d (hQ d hd) b hbd).2
   omega
def memN (n:Nat):List Nat→Bool
 | []=>false
 | x::r=>bif Nat.beq n x then true else memN n r
def Qgn (ns:List Nat):List (Nat×En)→List (Nat×En)
 | []=>[]
 | (r,x)::E=>bif memN r ns then Qgn ns E else(r,x)::Qgn ns E
def Qme (ns:List Nat):List (Nat×En)→List (Nat×En)
 | []=>[]
 | (r,x)::E=>bif memN r ns then(r,x)::Qme ns E else Qme ns E
theorem Qoy (ns:List Nat): ∀ (E:List (Nat×En)),E.Perm (Qme ns E++Qgn ns E)
 | []=> .nil
 | (r, x) :: E => by
  simp only[Qme,Qgn]
  cases memN r ns with
  | true=>exact(Qoy ns E).cons _
  | false=>exact((Qoy ns E).cons _).trans List.perm_middle.symm
theorem RH.fuse {c:Cx} {θ:List Loc} {E:List (Nat×En)} {S:Nat→Prop} {w1 w w':World} (h:RH c θ E S w1 w) (ns:List Nat) {p:Nat×En} (hos:w'.os=w.os) (htape:w'.tape=w.tape) (hout:w'.output=w.output) (hsize:w.heap.size≤w'.heap.size)
  (hsame: ∀ b,b<w.heap.size→b ∉ (Qme ns E).flatMap (fun e=>(e.2.ck θ e.1).F)→w'.heap[b]?=w.heap[b]?) (hok:(p.2.ck θ p.1).ok w') (hF: ∀ b∈(p.2.ck θ p.1).F,(b∈(Qme ns E).flatMap (fun e=>(e.2.ck θ e.1).F)∨w.heap.size≤b)∧b<w'.heap.size) (hn:(p.2.ck θ p.1).F.Nodup) (hf:p.2.ok S w1 θ p.1):RH c θ (p::Qgn ns E) S w1 w':=by
 refine⟨h.k0,h.sub,?_,fun e he=>?_⟩
 ·rw[List.map_cons]
  refine h.sh.fuse (D:=(Qme ns E).map fun e=>e.2.ck θ e.1) (by rw[←List.map_append];exact(Qoy ns E).map _) hos htape hout hsize ?_ hok ?_ hn
  ·rw[List.flatMap_map];exact hsame
  ·rw[List.flatMap_map];exact hF
 ·rcases List.mem_cons.1 he with rfl | he
  ·exact hf
  ·exact h.ok e ((Qoy ns E).mem_iff.2 (List.mem_append_right _ he))
mutual
def V.rn (r q:Nat):V→V
 | .v x=> .v x
 | .sl a n=>bif Nat.beq a r then .sl q n else .sl a n
 | .pt a o=>bif Nat.beq a r then .pt q o else .pt a o
 | .ag cs=> .ag (rnL r q cs)
 | .fn f cs=> .fn f (rnL r q cs)
 | .tu cs=> .tu (rnL r q cs)
 | .gd b x=> .gd b (x.rn r q)
def rnL (r q:Nat):List V→List V
 | []=>[]
 | x::xs=>x.rn r q::rnL r q xs
end
def rnR (r q:Nat):List (Nat×V)→List (Nat×V)
 | []=>[]
 | (t,v)::ρ=>(t,v.rn r q)::rnR r q ρ
def En.rn (r q:Nat):En→En
 | .var cs T=> .var (rnL r q cs) T
 | .lit cs T n=> .lit (rnL r q cs) T n
 | .roc cs=> .roc (rnL r q cs)
 | .own α d xs=> .own α d xs
 | .ros α d xs=> .ros α d xs
 | .itr s p=> .itr s p
 | .any P=> .any P
 | .pin l=> .pin l
def rnE (r q:Nat):List (Nat×En)→List (Nat×En)
 | []=>[]
 | (t,e)::E=>(t,e.rn r q)::rnE r q E
section
variable {θ:List Loc} {r q:Nat} {l l':Loc}
mutual
theorem V.rn_con (hr:θ[r]?=some l) (hq:θ[q]?=some l') (hA:l'.A=l.A) (hc:l'.cap=l.cap): ∀ (v:V),(v.rn r q).con θ=v.con θ
 | .v x=>rfl
 | .sl a n => by
  simp only[V.rn]
  cases hb:Nat.beq a r with
  | false=>rfl
  | true =>
   obtain rfl:=Nat.eq_of_beq_eq_true hb
   simp only[cond_true,V.con,hr,hq,hA,hc]
 | .pt a o => by
  simp only[V.rn]
  cases hb:Nat.beq a r with
  | false=>rfl
  | true =>
   obtain rfl:=Nat.eq_of_beq_eq_true hb
   obtain⟨A,cap,F⟩:=l
   obtain⟨A',cap',F'⟩:=l'
   simp only at hA
   subst hA
   simp only[cond_true,V.con,hr,hq]
   cases A'<;>rfl
 | .ag cs=>by simp only[V.rn,V.con,Qr8 hr hq hA hc cs]
 | .fn f cs=>by simp only[V.rn,V.con,Qr8 hr hq hA hc cs]
 | .tu cs=>by simp only[V.rn,V.con,Qr8 hr hq hA hc cs]
 | .gd true x=>by simp only[V.rn,V.con];exact V.rn_con hr hq hA hc x
 | .gd false x=>rfl
theorem Qr8 (hr:θ[r]?=some l) (hq:θ[q]?=some l') (hA:l'.A=l.A) (hc:l'.cap=l.cap): ∀ (cs:List V),conL θ (rnL r q cs)=conL θ cs
 | []=>rfl
 | x::xs=>by simp only[rnL,conL,V.rn_con hr hq hA hc x,Qr8 hr hq hA hc xs]
end
theorem Yn4: ∀ (ρ:List (Nat×V)) (t:Nat),lk (rnR r q ρ) t=(lk ρ t).map (V.rn r q)
 | [],_=>rfl
 | (k, v) :: ρ, t => by
  simp only[rnR,lk]
  cases Nat.beq k t with
  | true=>rfl
  | false=>exact Yn4 ρ t
theorem En.rn_ck (hr:θ[r]?=some l) (hq:θ[q]?=some l') (hA:l'.A=l.A) (hc:l'.cap=l.cap) (e:En) (t:Nat):(e.rn r q).ck θ t=e.ck θ t:=by
 cases e<;>simp only[En.rn,En.ck,Qr8 hr hq hA hc]
theorem En.rn_ok (hr:θ[r]?=some l) (hq:θ[q]?=some l') (hA:l'.A=l.A) (hc:l'.cap=l.cap) {S:Nat→Prop} {w1:World} (e:En) (t:Nat):(e.rn r q).ok S w1 θ t↔e.ok S w1 θ t:=by
 cases e<;>simp only[En.rn,En.ok,Qr8 hr hq hA hc]
theorem Ykm : ∀ (E : List (Nat × En)), rnE r q E = E.map fun e => (e.1, e.2.rn r q)
 | []=>rfl
 | (t,e)::E=>by simp only[rnE,List.map_cons,Ykm E]
theorem RH.rn {c:Cx} {E:List (Nat×En)} {S:Nat→Prop} {w1 w:World} (h:RH c θ E S w1 w) (hr:θ[r]?=some l) (hq:θ[q]?=some l') (hA:l'.A=l.A) (hc:l'.cap=l.cap):RH c θ (rnE r q E) S w1 w:=by
 rw[Ykm]
 refine⟨h.k0,h.sub,?_,fun e he=>?_⟩
 ·rw[List.map_map]
  have : ((fun e => e.2.ck θ e.1) ∘ fun e : Nat × En => (e.1, e.2.rn r q)) = fun e => e.2.ck θ e.1 := by
   funext e
   exact En.rn_ck hr hq hA hc e.2 e.1
  rw[this]
  exact h.sh
 ·obtain⟨e0,he0,rfl⟩:=List.mem_map.1 he
  exact(En.rn_ok hr hq hA hc e0.2 e0.1).2 (h.ok e0 he0)
theorem EnvV.rn {n:Nat} {ρ:List (Nat×V)} {a:Act} (h:EnvV n θ ρ a) (hr:θ[r]?=some l) (hq:θ[q]?=some l') (hA:l'.A=l.A) (hc:l'.cap=l.cap):EnvV n θ (rnR r q ρ) a:=by
 refine⟨h.size,h.defers,fun t v hv=>?_⟩
 rw[Yn4,Option.map_eq_some_iff] at hv
 obtain⟨v0,h0,rfl⟩:=hv
 rw[V.rn_con hr hq hA hc]
 exact h.get t v0 h0
end
end
section
theorem Qmj: ∀ {Fs:List (List Nat)} {k:Nat} {G:List Nat},Fs.flatten.Nodup→G.Nodup→(∀ b∈G,b ∉ Fs.flatten)→(Fs.set k G).flatten.Nodup∧ ∀ b∈(Fs.set k G).flatten,b∈Fs.flatten∨b∈G
 | [],_,_,h,_,_=>⟨by simp,fun b hb=> .inl (by simp at hb)⟩
 | F :: Fs, 0, G, h, hG, hd => by
  rw[List.set_cons_zero,List.flatten_cons]
  rw[List.flatten_cons,List.nodup_append] at h
  refine⟨List.nodup_append.2 ⟨hG,h.2.1,fun b hb b' hb' e=>hd b hb (by rw[List.flatten_cons];exact List.mem_append_right _ (e▸hb'))⟩,fun b hb=>?_⟩
  rcases List.mem_append.1 hb with hb | hb
  ·exact .inr hb
  ·exact .inl (by rw[List.flatten_cons];exact List.mem_append_right _ hb)
 | F :: Fs, k + 1, G, h, hG, hd => by
  rw[List.set_cons_succ,List.flatten_cons]
  rw[List.flatten_cons,List.nodup_append] at h
  obtain⟨i1,i2⟩:=Qmj (k:=k) h.2.1 hG fun b hb hbf=>hd b hb (by rw[List.flatten_cons];exact List.mem_append_right _ hbf)
  refine⟨List.nodup_append.2 ⟨h.1,i1,fun b hb b' hb' e=>?_⟩,fun b hb=>?_⟩
  ·subst e
   rcases i2 b hb' with h2 | h2
   ·exact h.2.2 b hb b h2 rfl
   ·exact hd b h2 (by rw[List.flatten_cons];exact List.mem_append_left _ hb)
  ·rw[List.flatten_cons]
   rcases List.mem_append.1 hb with hb | hb
   ·exact .inl (List.mem_append_left _ hb)
   ·rcases i2 b hb with h2 | h2
    ·exact .inl (List.mem_append_right _ h2)
    ·exact .inr h2
def Qg3 (arr:Array Value) (off sz:Nat) (ds:List Value):Array Value:=(arr.toList.take off++ds++arr.toList.drop (off+sz)).toArray
theorem Ydi {arr : Array Value} {k sz : Nat} {ds : List Value} (hd : ds.length = sz) (hle : k * sz + sz ≤ arr.size) (i : Nat) : cut sz (Qg3 arr (k * sz) sz ds).toList i = if i = k then ds else cut sz arr.toList i := by
 have hal:arr.toList.length=arr.size:=Array.length_toList
 unfold cut Qg3
 rw[show(List.toArray (List.take (k*sz) arr.toList++ds++List.drop (k*sz+sz) arr.toList)).toList=List.take (k*sz) arr.toList++ds++List.drop (k*sz+sz) arr.toList from rfl]
 have h1:(List.take (k*sz) arr.toList).length=k*sz:=by rw[List.length_take];omega
 by_cases e:i=k
 ·subst e
  rw[if_pos rfl,List.append_assoc,List.drop_append_of_le_length (by omega),List.drop_of_length_le (by omega),List.nil_append,List.take_append_of_le_length (by omega),List.take_of_length_le (by omega)]
 ·rw[if_neg e]
  by_cases hlt:i<k
  ·have:i*sz+sz≤k*sz:=by
    have:=Nat.mul_le_mul_right sz hlt
    rwa [Nat.succ_mul] at this
   rw[List.append_assoc,List.drop_append_of_le_length (by omega),List.take_append_of_le_length (by rw[List.length_drop];omega),List.drop_take,List.take_take,Nat.min_eq_left (by omega)]
  ·have:k*sz+sz≤i*sz:=by
    have:=Nat.mul_le_mul_right sz (show k+1≤i by omega)
    rwa [Nat.succ_mul] at this
   rw[List.drop_append,List.drop_of_length_le (by rw[List.length_append];omega),List.nil_append,List.length_append,h1,hd,List.drop_drop]
   congr 2
   omega
theorem Q9c {arr:Array Value} {off sz:Nat} {ds:List Value} (hd:ds.length=sz) (hle:off+sz≤arr.size):(Qg3 arr off sz ds).size=arr.size:=by
 have hal:arr.toList.length=arr.size:=Array.length_toList
 unfold Qg3
 simp only[List.size_toArray,List.length_append,List.length_take,List.length_drop,hal,hd]
 omega
theorem SlO.put {α:Type} [Dat α] {w:World} {g cap k:Nat} {arr:Array Value} {T:TypeId} {Fs:List (List Nat)} {xs:List α} {y:α} {ds:List Value} {G:List Nat} (hcap:xs.length≤cap) (hm:cap≤maxLen) (hsz:cap*Dat.sz α≤arr.size) (hF:Fs.length=xs.length)
  (he: ∀ i x,xs[i]?=some x→ ∃ G,Fs[i]?=some G∧Dat.own w (cut (Dat.sz α) arr.toList i) x G) (hk:k<xs.length) (hy:Dat.own w ds y G) (hgF:g ∉ Fs.flatten) (hgG:g ∉ G):
  k*Dat.sz α+Dat.sz α≤arr.size∧ ∀ w2:World,w2.heap[g]?=some (.cells (Qg3 arr (k*Dat.sz α) (Dat.sz α) ds) T (0,0))→(∀ b∈(Fs.set k G).flatten,w2.heap[b]?=w.heap[b]?)→SlO w2 (.slice (some ⟨g,0,none⟩) (xs.set k y).length cap) (xs.set k y) (g::(Fs.set k G).flatten):=by
 have hle:k*Dat.sz α+Dat.sz α≤arr.size:=by
  have h1:(k+1)*Dat.sz α≤cap*Dat.sz α:=Nat.mul_le_mul_right _ (by omega)
  rw[Nat.succ_mul] at h1
  omega
 have hd:ds.length=Dat.sz α:=Dat.rd_len (Dat.own_rd (B:=fun _=>True) hy fun _ _=>trivial)
 refine⟨hle,fun w2 h2 hs=>Qgs.2 (.inr ⟨g,cap,_,T,Fs.set k G,rfl,h2,by rw[List.length_set];exact hcap,hm,by rw[Q9c hd hle];exact hsz,rfl,by rw[List.length_set,List.length_set,hF],fun i x hi=>?_⟩)⟩
 rw[Ydi hd hle]
 rw[List.getElem?_set] at hi
 by_cases e:k=i
 ·subst e
  rw[if_pos rfl,if_pos hk] at hi
  cases hi
  refine⟨G,by rw[List.getElem?_set_self (by omega)],?_⟩
  rw[if_pos rfl]
  exact Dat.own_same hy fun b hb=>hs b (List.mem_flatten.2 ⟨G,List.mem_of_getElem? (List.getElem?_set_self (by omega)),hb⟩)
 ·rw[if_neg e] at hi
  obtain⟨H,hH,ho⟩:=he i x hi
  refine⟨H,by rw[List.getElem?_set_ne e];exact hH,?_⟩
  rw[if_neg (fun h=>e h.symm)]
  exact Dat.own_same ho fun b hb=>hs b (List.mem_flatten.2 ⟨H,List.mem_of_getElem? (by rw[List.getElem?_set_ne e];exact hH),hb⟩)
theorem Q0f {n:Nat}: ∀ {ns:List Nat},n∈ns→memN n ns=true
 | x :: r, h => by
  simp only[memN]
  cases hb:Nat.beq n x with
  | true=>rfl
  | false =>
   rcases List.mem_cons.1 h with rfl | h
   ·simp at hb
   ·exact Q0f h
theorem Qmd {ns:List Nat} {n:Nat} {e:En}: ∀ {E:List (Nat×En)},(n,e)∈E→memN n ns=true→(n,e)∈Qme ns E
 | (r, x) :: E, h, hm => by
  simp only[Qme]
  rcases List.mem_cons.1 h with h | h
  ·cases h
   rw[hm]
   exact List.mem_cons_self
  ·cases memN r ns with
   | true=>exact List.mem_cons_of_mem _ (Qmd h hm)
   | false=>exact Qmd h hm
theorem Qny {θ:List Loc} {E:List (Nat×En)} {ns:List Nat} {n b:Nat} (hn:n∈ns) (ho:ownN E n) (hb:b∈locF θ n):b∈(Qme ns E).flatMap (fun e=>(e.2.ck θ e.1).F):=by
 obtain⟨⟨α,d,xs⟩,hp⟩:=ho
 exact List.mem_flatMap.2 ⟨_,Qmd (Qej (Qkq hp)) (Q0f hn),hb⟩
section
variable {c:Cx} {σ:St} {all:Array Oper} {ty:TypeId} {pos:String} {after:Array Edge} {d:Nat}
def Qda {α:Type} (σ:St) (r:Nat) (dα:Dat α) (zs:List α) (ns:List Nat):St:=⟨σ.n,σ.m+1,rnR r σ.m σ.ρ,rnE r σ.m ((σ.m,.own α dα zs)::Qgn (r::ns) σ.E)⟩
theorem OpS.stE {α:Type} {dα:Dat α} [s:@Str α dα] {t:Nat} {x v:Operand} {r off:Nat} {xs:List α} (k:Nat) (y:α) {vv:V} {cs:List V} (hx:ev σ.ρ x=some (.pt r off)) (hoff:off=k*Dat.sz α) (hr:lkE σ.E r=some (.own α dα xs)) (hk:k<xs.length)
  (hv:ev σ.ρ v=some vv) (hvc:vv.cells=some cs) (ht:(c.ti t).cells=some (Dat.sz α)) (hg:Dat.good y) (hf:FkO σ.E y s.fk cs) (h1:oneL cs=true) (hn:(r::V.names.namesL cs).Nodup):
  OpS c σ all ⟨none,.store t x v,ty,pos,after,none⟩ (Qda σ r dα (xs.set k y) (V.names.namesL cs)):=
 OpS.of fun θ a w h K Q hK => by
  subst hoff
  obtain⟨S,w1,hh⟩:=h.heap
  obtain⟨l,hl,hown⟩:=hh.own hr
  obtain⟨us,hus,hcells⟩:=V.cells_ok hvc (h.env.con hv)
  have hy:Dat.own w us y ((V.names.namesL cs).flatMap (locF θ)):=s.omk (hh.fkO hus hf (s.gd hg))
  have hnames: ∀ n∈r::V.names.namesL cs,ownN σ.E n:=by
   intro n hn
   rcases List.mem_cons.1 hn with rfl | hn
   ·exact⟨⟨α,dα,xs⟩,by unfold Qm4;rw[hr];rfl⟩
   ·exact Qjz hf n hn
  obtain⟨hnd,_⟩:=hh.nodup hn hnames
  rw[List.flatMap_cons,Qai hl] at hnd
  obtain⟨nd1,nd2,nd3⟩:=List.nodup_append.1 hnd
  rcases hown with ⟨e1,e2,_⟩ | ⟨g,cap,arr,T,Fs,e1,e2,e3,e4,e5,e6,e7,e8⟩
  ·rw[e2] at hk;exact absurd hk (by simp)
  obtain⟨A,cap',F⟩:=l
  injection e1 with e1a e1b e1c
  simp only at e1a e1c e6 nd1 nd3
  subst e1a
  subst e1c
  subst e6
  have hgF:g ∉ Fs.flatten:=(List.nodup_cons.1 nd1).1
  have hgG:g ∉ (V.names.namesL cs).flatMap (locF θ):=fun hb=>nd3 g (by simp) g hb rfl
  obtain⟨hle,hput⟩:=SlO.put (T:=T) e3 e4 e5 e7 e8 hk hy hgF hgG
  obtain⟨ndF,memF⟩:=Qmj (k:=k) (List.nodup_cons.1 nd1).2 nd2 fun b hb hbf=>nd3 b (List.mem_cons_of_mem _ hbf) b hb rfl
  have hd:us.length=Dat.sz α:=Dat.rd_len (Dat.own_rd (B:=fun _=>True) hy fun _ _=>trivial)
  have hxe:=h.env.con hx
  simp only[V.con,hl,Option.some.injEq] at hxe
  have e:(⟨g,0,none⟩:Addr).add (k*Dat.sz α)=⟨g,k*Dat.sz α,none⟩:=by unfold Addr.add;split<;>simp_all
  have hst:=run_storeCells_at c.P g (k*Dat.sz α) T us 0 arr w e2 (by omega) (List.all_eq_true.1 (Q0c h1 hus))
  have hsz: ∀ w,(sizeOf t).run c.P w= .ok (Dat.sz α) w:=fun w=>TI.cells_size (c.tiok t) ht w
  have hrun:(execOp a.eval ⟨none,.store t x v,ty,pos,after,none⟩).run c.P w= .ok .skip (w.setRow g (Qg3 arr (k*Dat.sz α) (Dat.sz α) us)):=by
   have hs:(a.eval v).cells.size=Dat.sz α:=by rw[hcells];simp;omega
   simp only[execOp,←hxe,Instr.storeAt,Instr.sureAddr,storeVar,Sem.run_bind,Sem.run_pure,Result.andThen_ok,hsz,hs,ne_eq,not_true_eq_false,if_false,e]
   rw[hcells,show us.toArray.toList=us from rfl,hst]
   simp only[Nat.add_zero,hd,Result.andThen_ok,Qg3]
  unfold Oper.wp
  rw[hrun]
  let l':Loc:=⟨some ⟨g,0,none⟩,cap',g::(Fs.set k ((V.names.namesL cs).flatMap (locF θ))).flatten⟩
  have hg':(θ++[l'])[σ.m]?=some l':=by rw[←h.len];exact Qfa
  have hgr:=Qd7 (θ':=[l']) hl
  have hFt : ∀ n ∈ r :: V.names.namesL cs, ∀ b ∈ locF θ n, b ∈ (Qme (r :: V.names.namesL cs) σ.E).flatMap (fun e => (e.2.ck (θ ++ [l']) e.1).F) := fun n hn b hb => Qny hn (hnames n hn) (by
   obtain⟨⟨α',d',xs'⟩,hp⟩:=hnames n hn
   obtain⟨l2,hl2,_⟩:=hh.own (Qkq hp)
   rw[Qai (Qd7 hl2)]
   rwa [Qai hl2] at hb)
  have hFr: ∀ b∈g::Fs.flatten,b∈(Qme (r::V.names.namesL cs) σ.E).flatMap (fun e=>(e.2.ck (θ++[l']) e.1).F):=fun b hb=>hFt r (by simp) b (by rw[Qai hl];exact hb)
  have hFG : ∀ b ∈ (V.names.namesL cs).flatMap (locF θ), b ∈ (Qme (r :: V.names.namesL cs) σ.E).flatMap (fun e => (e.2.ck (θ ++ [l']) e.1).F) := fun b hb => by
   obtain⟨n,hn,hb⟩:=List.mem_flatMap.1 hb
   exact hFt n (List.mem_cons_of_mem _ hn) b hb
  have hother: ∀ b,b≠g→(w.setRow g (Qg3 arr (k*Dat.sz α) (Dat.sz α) us)).heap[b]?=w.heap[b]?:=fun b hb=>setRow_other w g b _ hb
  have hlt: ∀ b∈l'.F,b<w.heap.size:=by
   intro b hb
   rcases List.mem_cons.1 hb with rfl | hb
   ·exact(Array.getElem?_eq_some_iff.1 e2).1
   ·rcases memF b hb with hb | hb
    ·obtain⟨G,hG,hbG⟩:=List.mem_flatten.1 hb
     obtain⟨i,hi⟩:=List.getElem?_of_mem hG
     have hil:i<xs.length:=by rw[←e7];exact(List.getElem?_eq_some_iff.1 hi).1
     obtain⟨G',hG',ho⟩:=e8 i _ (List.getElem?_eq_getElem hil)
     rw[hi] at hG'
     cases hG'
     exact Dat.own_lt ho b hbG
    ·exact Dat.own_lt hy b hb
  have hfuse:=(hh.ext (θ':=[l'])).fuse (r::V.names.namesL cs) (p:=(σ.m,En.own α dα (xs.set k y))) (w':=w.setRow g (Qg3 arr (k*Dat.sz α) (Dat.sz α) us)) rfl rfl rfl (by simp)
   (fun b _ hb=>hother b fun e=>hb (hFr b (by simp[e]))) ?_ ?_ ?_ trivial
  ·refine hK [l'] _ _ ⟨by rw[List.length_append,h.len];rfl,?_,S,w1,hfuse.rn hgr hg' rfl rfl⟩
   exact((h.env.ext (θ':=[l'])).rn hgr hg' rfl rfl)
  ·intro w2 hw2
   have hF':((En.own α dα (xs.set k y)).ck (θ++[l']) σ.m).F=l'.F:=Qai hg'
   refine⟨l',hg',hput w2 ?_ fun b hb=>?_⟩
   ·exact(hw2 g (by rw[hF'];simp[l'])).trans (setRow_heap w g arr _ T _ e2)
   ·refine(hw2 b (by rw[hF'];exact List.mem_cons_of_mem _ hb)).trans (hother b ?_)
    rintro rfl
    rcases memF b hb with h | h
    ·exact hgF h
    ·exact hgG h
  ·intro b hb
   have hb':b∈locF (θ++[l']) σ.m:=hb
   rw[Qai hg'] at hb'
   refine⟨.inl ?_,by rw[size_setRow];exact hlt b hb'⟩
   rcases List.mem_cons.1 hb' with rfl | hb'
   ·exact hFr b (by simp)
   ·rcases memF b hb' with h | h
    ·exact hFr b (List.mem_cons_of_mem _ h)
    ·exact hFG b h
  ·show(locF _ σ.m).Nodup
   rw[Qai hg']
   refine List.nodup_cons.2 ⟨fun hb=>?_,ndF⟩
   rcases memF g hb with h | h
   ·exact hgF h
   ·exact hgG h
end
end
section
theorem Cx.tstr (c:Cx) {t:Nat} (ht:c.ti t= .str):c.P.underlying t=some .string:=by
 have hti:=c.tiok t
 rw[ht] at hti
 simp only[TI.chk,Bool.and_eq_true] at hti
 have:=hti.2
 split at this
 ·assumption
 ·cases this
theorem Cx.tint (c:Cx) {t:Nat} {k:IntKind} (ht:c.ti t= .int k):c.P.underlying t=some (.int k):=by
 have hti:=c.tiok t
 rw[ht] at hti
 simp only[TI.chk,Bool.and_eq_true] at hti
 have:=hti.2
 split at this
 ·rename_i k' hk;rw[of_decide_eq_true this] at hk;exact hk
 ·cases this
theorem Cx.tsl (c:Cx) {t e sz b:Nat} (ht:c.ti t= .sl e sz b):Qd2 c.P t e sz b=true:=by
 have hti:=c.tiok t
 rw[ht] at hti
 simp only[TI.chk,Bool.and_eq_true] at hti
 exact hti.2
section
variable {c:Cx} {σ:St} {all:Array Oper} {ty:TypeId} {pos:String} {after:Array Edge} {d:Nat}
end
def bstr (xs:List UInt8):ByteArray:=⟨xs.toArray⟩
def Qa6 (s:ByteArray):List UInt8:=s.data.toList
section
variable {c:Cx} {σ:St} {all:Array Oper} {ty:TypeId} {pos:String} {after:Array Edge} {d:Nat}
theorem OpS.toStr {t u e by':Nat} {x:Operand} {v:V} (xs:List UInt8) (hx:ev σ.ρ x=some v) (hs:SlOk σ.E UInt8 instDatUInt8 xs v) (ht:c.ti t= .sl e 1 by') (he:c.ti e= .int .u8) (hu:c.ti u= .str) (hd:Nat.blt d σ.n=true):
    OpS c σ all ⟨some d,.convert t u x,ty,pos,after,none⟩ (put d (.v (.string (bstr xs))) σ):=
  OpS.of fun θ a w h K Q hK => by
    obtain⟨S,w1,hh⟩:=h.heap
    have hc:=h.env.con hx
    have hr:=hh.slOk hc hs
    obtain⟨A,cap,hA,h1,h2,h3⟩:=hr
    have hts:=(Qbd (c.tsl ht)).1
    have hte:=c.tint he
    have htu:=c.tstr hu
    have hrun:(execOp a.eval ⟨some d,.convert t u x,ty,pos,after,none⟩).run c.P w= .ok (.value (.string (bstr xs))) w:=by
      by_cases hn:xs=[]
      · subst hn
        have:=run_convert_bytes_string (P:=c.P) w t u e A 0 cap hts hte htu
        have h0:(Conv.bytesToString (.slice A 0 cap)).run c.P w= .ok (.string (bstr [])) w:=by
          cases A with
          | none=>simp[Conv.bytesToString];rfl
          | some A=>exact run_bytesToString w A 0 cap [] (run_loadCells_list (P:=c.P) w A [] (fun j v hj=>by simp at hj))
        simp only[execOp,hA,this,List.length_nil,h0,Sem.run_bind,Result.andThen_ok,Sem.run_pure]
      · obtain ⟨ad, rfl, hb, hcs⟩ := h3 hn
        have := run_convert_bytes_back (P := c.P) w t u e ad cap xs hts hte htu (fun j hj => by
          obtain⟨cs,hrd,hcell⟩:=hcs j xs[j] (List.getElem?_eq_getElem hj)
          obtain⟨v,r,rfl,hv,rfl⟩:=(inferInstance:Str UInt8).op hrd
          have:=hcell 0 v rfl
          have e1:j*Dat.sz UInt8=j:=Nat.mul_one j
          rw[e1,Addr.add_zero'] at this
          rw[this,hv]
          rfl)
        simp only[execOp,hA,this,Sem.run_bind,Result.andThen_ok,Sem.run_pure]
        rfl
    unfold Oper.wp
    rw[hrun,Oper.upon_value]
    exact hK [] _ _ (h.put hd rfl).app0
theorem RH.adopt {θ:List Loc} {E:List (Nat×En)} {S:Nat→Prop} {w1 w w':World} (h:RH c θ E S w1 w) (hb:Below w.heap.size w w') (hE: ∀ e∈E,(e.2.ck θ e.1).ok w):RH c θ E (fun b=>S b∨(w.heap.size≤b∧b<w'.heap.size)) w' w':=by
 have hs:=h.same hb
 have hk:Keep S w1 w':=hs.sh.keep
 have hge : ∀ c ∈ E.map (fun e => e.2.ck θ e.1), ∀ b ∈ c.F, b < w.heap.size := fun d hd b hbd => by
  obtain⟨e,he,rfl⟩:=List.mem_map.1 hd
  have hp:=(hE e he).here
  obtain⟨r,e⟩:=e
  cases e with
  | var cs T =>
   obtain⟨l,b',ccs,h1,h2,h3,h4,h5⟩:=hp
   have hbd':b∈locF θ r:=hbd
   rw[Qai h1,h3,List.mem_singleton] at hbd'
   subst hbd'
   exact(Array.getElem?_eq_some_iff.1 h5).1
  | lit cs T n =>
   obtain⟨l,b',ccs,⟨h1,_⟩,h2,h3,h4,h5⟩:=hp
   have hbd':b∈locF θ r:=hbd
   rw[Qai h1,h3,List.mem_singleton] at hbd'
   subst hbd'
   exact(Array.getElem?_eq_some_iff.1 h5).1
  | own α d xs =>
   obtain⟨l,h1,h2⟩:=hp
   have hbd':b∈locF θ r:=hbd
   rw[Qai h1] at hbd'
   exact h2.lt b hbd'
  | any P =>
   obtain⟨l,h1,h2,_⟩:=hp
   have hbd':b∈locF θ r:=hbd
   rw[Qai h1] at hbd'
   exact h2 b hbd'
  | itr s p =>
   obtain⟨l,b',h1,h2,h3,h5⟩:=hp
   have hbd':b∈locF θ r:=hbd
   rw[Qai h1,h3,List.mem_singleton] at hbd'
   subst hbd'
   exact(Array.getElem?_eq_some_iff.1 h5).1
  | ros=>cases hbd
  | roc=>cases hbd
  | pin=>cases hbd
 refine⟨h.k0.trans (hk.mono h.sub),fun b hb=> .inl (h.sub b hb),⟨Keep.refl _ _,?_,hs.sh.ok,?_,hs.sh.apart⟩,fun x hx=>?_⟩
 ·rintro b (hb | hb)
  ·exact hs.lt b hb
  ·exact hb.2
 ·intro d hd b hbd
  have h1:=hs.sh.ge d hd b hbd
  have h2:=hge d hd b hbd
  refine⟨?_,h1.2⟩
  rintro (hb | hb)
  ·exact h1.1 hb
  ·omega
 ·have:=h.ok x hx
  obtain⟨r',e'⟩:=x
  cases e' with
  | ros β d' ys =>
   obtain⟨l',h1,h2⟩:=this
   exact⟨l',h1,(h2.below hk).mono fun b hb=> .inl hb⟩
  | roc cs =>
   obtain⟨l',A,ccs,h1,h2,h3,h4,h5⟩:=this
   exact⟨l',A,ccs,h1,h2,h3,.inl h4,h5.keep hk h4⟩
  | var=>trivial
  | own=>trivial
  | lit=>trivial
  | itr=>trivial
  | any=>trivial
  | pin=>exact this
def Qfg {α:Type} (σ:St) (d:Nat) (dα:Dat α) (ys:List α):St:=⟨σ.n,σ.m+1,(d,.sl σ.m ys.length)::σ.ρ,(σ.m,.ros α dα ys)::σ.E⟩
theorem R.ros {θ:List Loc} {a:Act} {w:World} (h:R c θ σ a w) {S:Nat→Prop} {w1 w':World} (hh:RH c θ σ.E S w1 w') {α:Type} {dα:Dat α} {ys:List α} {A:Option Addr} {cap:Nat} (hr:SlR S w1 (.slice A ys.length cap) ys) (hd:Nat.blt d σ.n=true):
  R c (θ++[⟨A,cap,[]⟩]) (Qfg σ d dα ys) (a.put (some d) (.slice A ys.length cap)) w':=by
 have hg:(θ++[⟨A,cap,[]⟩])[σ.m]?=some (⟨A,cap,[]⟩:Loc):=by rw[←h.len];exact Qfa
 refine⟨by rw[List.length_append,h.len];rfl,(h.env.ext).put hd (by simp only[V.con,hg]),S,w1,?_⟩
 exact(hh.ext (θ':=[⟨A,cap,[]⟩])).fact rfl ⟨_,hg,hr⟩
theorem OpS.toBytes {t u e by':Nat} {x:Operand} {s:ByteArray} (hx:ev σ.ρ x=some (.v (.string s))) (hs:s.size≤maxLen) (ht:c.ti u= .sl e 1 by') (he:c.ti e= .int .u8) (hu:c.ti t= .str) (hd:Nat.blt d σ.n=true):
  OpS c σ all ⟨some d,.convert t u x,ty,pos,after,none⟩ (Qfg σ d instDatUInt8 (Qa6 s)):=
 OpS.of fun θ a w h K Q hK => by
  obtain⟨S,w1,hh⟩:=h.heap
  have hts:=(Qbd (c.tsl ht)).1
  have hte:=c.tint he
  have htu:=c.tstr hu
  have h0:=run_bytes_of_string (P:=c.P) w t u e s htu hts hte
  have hrun:(execOp a.eval ⟨some d,.convert t u x,ty,pos,after,none⟩).run c.P w= .ok (.value (.slice (some ⟨w.heap.size,0,none⟩) s.size (grownCap w s.size 0 e))) (w.drew.alloc (.cells (bytesRow s (grownCap w s.size 0 e)) e ((bytesRow s (grownCap w s.size 0 e)).size,(bytesRow s (grownCap w s.size 0 e)).size+1))):=by
   simp only[execOp,h.env.env.eval (h.env.isv hx),h0,Sem.run_bind,Result.andThen_ok,Sem.run_pure]
  unfold Oper.wp
  rw[hrun,Oper.upon_value]
  have hlen:(Qa6 s).length=s.size:=by unfold Qa6;rw[Array.length_toList];rfl
  have hb:Below w.heap.size w (w.drew.alloc (.cells (bytesRow s (grownCap w s.size 0 e)) e ((bytesRow s (grownCap w s.size 0 e)).size,(bytesRow s (grownCap w s.size 0 e)).size+1))):=by
   refine⟨rfl,rfl,rfl,by show w.heap.size≤(w.heap.push _).size;rw[Array.size_push];omega,fun b hb=>?_⟩
   show(w.heap.push _)[b]?=_
   rw[Array.getElem?_push,if_neg (by omega)]
  have ha:=hh.adopt hb fun e he=>hh.sh.ok _ (List.mem_map.2 ⟨e,he,rfl⟩)
  have hcap:s.size≤grownCap w s.size 0 e:=grownCap_ge w s.size 0 e
  have:=h.ros ha (α:=UInt8) (dα:=instDatUInt8) (ys:=Qa6 s) (A:=some ⟨w.heap.size,0,none⟩) (cap:=grownCap w s.size 0 e) (d:=d) ⟨_,_,rfl,by omega,grownCap_le_maxLen w _ _ _ hs,fun hn=>⟨_,rfl,.inr ⟨Nat.le_refl _,by show w.heap.size<(w.heap.push _).size;rw[Array.size_push];omega⟩,fun i x hi=>?_⟩⟩ hd
  ·rw[hlen] at this
   exact hK _ _ _ this
  ·refine⟨[.int .u8 x.toNat],(inferInstance:Str UInt8).cl ⟨_,_,rfl,rfl,rfl⟩,?_⟩
   have hi2:=List.getElem?_eq_some_iff.1 hi
   obtain⟨hil,hix⟩:=hi2
   intro j v hj
   cases j with
   | succ j=>simp at hj
   | zero =>
    simp only[List.getElem?_cons_zero,Option.some.injEq] at hj
    subst hj
    have e1:i*Dat.sz UInt8=i:=Nat.mul_one i
    rw[e1,Addr.add_zero',Qo0]
    have hil':i<s.data.size:=by rw[hlen] at hil;exact hil
    refine(World.cell?_alloc_mark w.drew _ e _ i).trans ?_
    rw[bytesRow_at s _ i hil',←hix]
    simp[Qa6]
end
section
variable {c:Cx} {σ:St} {all:Array Oper} {ty:TypeId} {pos:String} {after:Array Edge} {d:Nat}
def cutS (s:ByteArray) (l h:Nat):ByteArray:=s.extract l h
theorem Q0z {s:ByteArray} {l h:Nat} {m:Nat} (hs:s.size≤m):(cutS s l h).size≤m:=by
 unfold cutS
 rw[ByteArray.size_extract]
 omega
def bnd (ρ:List (Nat×V)) (dflt:Nat) (v:Nat):Option Operand→Prop
 | none=>v=dflt
 | some x=> ∃ i:Int,ev ρ x=some (.v (.int .i64 i))∧i=v
theorem OpS.cut {t:Nat} {x:Operand} {lo hi:Option Operand} {s:ByteArray} (l h:Nat) (hx:ev σ.ρ x=some (.v (.string s))) (hl:bnd σ.ρ 0 l lo) (hh:bnd σ.ρ s.size h hi) (h1:l≤h) (h2:h≤s.size) (ht:c.ti t= .str) (hd:Nat.blt d σ.n=true):
  OpS c σ all ⟨some d,.slice t x lo hi none,ty,pos,after,none⟩ (put d (.v (.string (cutS s l h))) σ):=
 OpS.of fun θ a w hR K Q hK => by
  have hu:=c.tstr ht
  have hrun:(execOp a.eval ⟨some d,.slice t x lo hi none,ty,pos,after,none⟩).run c.P w= .ok (.value (.string (cutS s l h))) w:=by
   have ex:=hR.env.env.eval (hR.env.isv hx)
   cases lo with
   | none =>
    cases hi with
    | none =>
     cases hl;cases hh
     simp[execOp,ex,Instr.sliceAt,Instr.slice,run_underlying hu,Instr.sliceBounds,cutS]
    | some y =>
     cases hl
     obtain⟨i,hy,rfl⟩:=hh
     simp[execOp,ex,hR.env.env.eval (hR.env.isv hy),Instr.sliceAt,Instr.slice,run_underlying hu,Instr.sliceBounds,Instr.sliceBound,asIntOf,h2,cutS]
   | some z =>
    obtain⟨j,hz,rfl⟩:=hl
    cases hi with
    | none =>
     cases hh
     simp[execOp,ex,hR.env.env.eval (hR.env.isv hz),Instr.sliceAt,Instr.slice,run_underlying hu,Instr.sliceBounds,Instr.sliceBound,asIntOf,h1,cutS]
    | some y =>
     obtain⟨i,hy,rfl⟩:=hh
     simp[execOp,ex,hR.env.env.eval (hR.env.isv hz),hR.env.env.eval (hR.env.isv hy),Instr.sliceAt,Instr.slice,run_underlying hu,Instr.sliceBounds,Instr.sliceBound,asIntOf,h1,h2,cutS]
  unfold Oper.wp
  rw[hrun,Oper.upon_value]
  exact hK [] _ _ (hR.put hd rfl).app0
def cutL {α:Type} (xs:List α) (l h:Nat):List α:=(xs.take h).drop l
theorem OpS.part {α:Type} {dα:Dat α} {t e by' r len:Nat} {x:Operand} {lo hi:Option Operand} {xs:List α} (l h:Nat) (hx:ev σ.ρ x=some (.sl r len)) (hp:lkE σ.E r=some (.ros α dα xs)) (hlen:len=xs.length) (hl:bnd σ.ρ 0 l lo) (hh:bnd σ.ρ xs.length h hi) (h1:l≤h) (h2:h≤xs.length) (ht:c.ti t= .sl e (Dat.sz α) by') (hd:Nat.blt d σ.n=true):
  OpS c σ all ⟨some d,.slice t x lo hi none,ty,pos,after,none⟩ (Qfg σ d dα (cutL xs l h)):=
 OpS.of fun θ a w hR K Q hK => by
  subst hlen
  obtain⟨S,w1,hhp⟩:=hR.heap
  obtain⟨lc,hlc,hr⟩:=hhp.ok _ (Qej hp)
  simp only at hlc
  have hc:=hR.env.con hx
  simp only[V.con,hlc,Option.some.injEq] at hc
  have hu:=(Qbd (c.tsl ht)).1
  obtain⟨inf,hin,hsz,_⟩:=(Qbd (c.tsl ht)).2
  have hcap:=(Qs0 hr).1
  have hr1:=hr.take h
  have e1:(xs.take h).length=h:=by rw[List.length_take];omega
  have hr2:=hr1.drop (k:=l) (by omega)
  have e2:((xs.take h).drop l).length=h - l:=by rw[List.length_drop,e1]
  have hA0:lc.A.map (fun b=>b.add 0)=lc.A:=by cases lc.A<;>simp[Addr.add]
  have hrun:(execOp a.eval ⟨some d,.slice t x lo hi none,ty,pos,after,none⟩).run c.P w= .ok (.value (.slice (if lc.cap=l then lc.A else lc.A.map (·.add (l*Dat.sz α))) (h - l) (lc.cap - l))) w:=by
   cases lo with
   | none =>
    cases hi with
    | none =>
     cases hl;cases hh
     simp[execOp,←hc,Instr.sliceAt,Instr.slice,run_underlying hu,Instr.sliceBounds,sizeOf,typeInfo,hin,hA0]
    | some y =>
     cases hl
     obtain⟨i,hy,rfl⟩:=hh
     have hle:h≤lc.cap:=by omega
     simp[execOp,←hc,hR.env.env.eval (hR.env.isv hy),Instr.sliceAt,Instr.slice,run_underlying hu,Instr.sliceBounds,Instr.sliceBound,asIntOf,hle,sizeOf,typeInfo,hin,hA0]
   | some z =>
    obtain⟨j,hz,rfl⟩:=hl
    cases hi with
    | none =>
     cases hh
     simp[execOp,←hc,hR.env.env.eval (hR.env.isv hz),Instr.sliceAt,Instr.slice,run_underlying hu,Instr.sliceBounds,Instr.sliceBound,asIntOf,h1,sizeOf,typeInfo,hin,hsz]
    | some y =>
     obtain⟨i,hy,rfl⟩:=hh
     have hle:h≤lc.cap:=by omega
     simp[execOp,←hc,hR.env.env.eval (hR.env.isv hz),hR.env.env.eval (hR.env.isv hy),Instr.sliceAt,Instr.slice,run_underlying hu,Instr.sliceBounds,Instr.sliceBound,asIntOf,h1,hle,sizeOf,typeInfo,hin,hsz]
  unfold Oper.wp
  rw[hrun,Oper.upon_value]
  have:=hR.ros hhp (dα:=dα) (ys:=cutL xs l h) hr2 hd
  unfold cutL at this
  rw[e2] at this
  exact hK _ _ _ this
end
theorem CT.flat {P:Program} {G:World→Prop} {f:FuncId} {args:List Arg} {v:Value} (h: ∀ w vs,G w→Yar w vs args→Calls P f vs.toArray w (fun e w'=>e= .returned v∧Below w.heap.size w w')):CT P G f args [.c v]:=
 fun w vs hG hA=>(h w vs hG hA).mono fun e w' hr=>⟨v,hr.1,Keep.of_below hr.2 fun _ h=>h,[v],[],rfl,⟨[],[],rfl,⟨rfl,rfl⟩,rfl⟩,List.nodup_nil,fun b hb=>by cases hb⟩
theorem CT.close {P:Program} {G:World→Prop} {f:FuncId} {args:List Arg} {v:Value} (h:CT P G f args [.c v]) {w:World} {vs:List Value} (hG:G w) (hA:Yar w vs args):Calls P f vs.toArray w (fun e w'=>e= .returned v∧Below w.heap.size w w'):=
 (h w vs hG hA).mono fun e w' hr => by
  obtain⟨u,rfl,hk,us,F,rfl,hl,hn,hF⟩:=hr
  cases us with
  | nil=>exact hl.elim
  | cons u r =>
   obtain⟨A,B,rfl,⟨rfl,rfl⟩,hl⟩:=hl
   cases r with
   | nil=>exact⟨rfl,hk.below⟩
   | cons=>exact hl.elim
end
section
section
variable {c:Cx} {σ:St} {all:Array Oper} {ty:TypeId} {pos:String} {after:Array Edge} {d:Nat}
theorem OpS.valG {op:Op} {u:Value} {j:Nat} {want B:Bool} (hB:gB σ.ρ all j want=some B) (hy:B=true→ ∀ θ a w,R c θ σ a w→Qcg c.P a w op ty u) (hd:Nat.blt d σ.n=true):OpS c σ all ⟨some d,op,ty,pos,after,some (j,want)⟩ (put d (.gd B (.v u)) σ):=by
 intro θ a w h K Q hK
 have hw:=Ydu h (o:=⟨some d,op,ty,pos,after,some (j,want)⟩) rfl hB
 rw[hw]
 cases B with
 | true =>
  rw[if_pos rfl]
  unfold Oper.wp
  rw[hy rfl θ a w h]
  exact hK [] _ _ (h.put hd (v:= .gd true (.v u)) rfl).app0
 | false =>
  rw[if_neg (by simp)]
  exact hK [] _ _ (h.put hd (v:= .gd false (.v u)) rfl).app0
theorem OpS.sidxG {t:Nat} {x y:Operand} {i:Int} {k:Nat} {s:ByteArray} {j:Nat} {want B:Bool} (hB:gB σ.ρ all j want=some B) (hx:evG σ.ρ x=some (.v (.string s))) (hy:evG σ.ρ y=some (.v (.int .i64 i))) (hside:B=true→Qfp B True σ.ρ [x,y]) (ht:c.ti t= .str) (hi:B=true→i=k) (hk:B=true→k<s.size) (hd:Nat.blt d σ.n=true):
    OpS c σ all ⟨some d,.index t x y,ty,pos,after,some (j,want)⟩ (put d (.gd B (.v (.int .u8 (Qav s k).toNat))) σ):=
  OpS.valG hB (fun hb θ a w h => by
    have h1:=Qgw h.env hb (hside hb) x (by simp) _ hx
    have h2:=Qgw h.env hb (hside hb) y (by simp) _ hy
    have e1:ev? (selfρ a) x=some (.string s):=by rw[h1.2,←h1.1];rfl
    have e2:ev? (selfρ a) y=some (.int .i64 i):=by rw[h2.2,←h2.1];rfl
    exact Qpw h.env.env e1 e2 (hi hb) (hk hb) (c.tstr ht)) hd
end
theorem Ypl {P:Program} {ops:Array Oper} {K G:Act→World→Prop} {i:Nat} {o:Oper} {a:Act} {w:World} (hi:ops[i]?=some o) (h:wpList P ops (Qor G) [o] a w):wpOp P ops (Qor K) i G a w:=by
 have mono: ∀ (o:Oper) (K1:Act→World→Prop) (a:Act) (w:World),o.wp P a w (fun a' w'=>Qor K1 .normal a' w') (Qor K1)→o.wp P a w K1 (Qor K):=by
  intro o K1 a w h
  unfold Oper.wp at h ⊢
  generalize (execOp a.eval o).run P w=r at h ⊢
  cases r with
  | ok n w' =>
   cases n<;>simp only[Oper.upon] at h ⊢
   case value u=>exact h.2
   case skip=>exact h.2
   case defer d=>exact h.2
   case enter f args=>
    refine Calls.mono h fun e w'' he=>?_
    cases e with
    | returned u=>exact he.2
    | panicked c=>cases he.1
    | outgrown=>obtain⟨_,_,h,_⟩:=he;cases h
   case row row args=>exact Rows.mono h fun u w'' he=>he.2
  | halt x w' =>
   cases x<;>simp only[Oper.upon] at h ⊢
   case panic u=>cases h.1
 unfold wpOp
 simp only[hi]
 unfold wpList at h
 split
 ·rename_i hw
  simp only[hw,if_true] at h
  rcases h with h | ⟨_,h⟩
  ·exact .inl (mono _ _ _ _ h)
  ·obtain⟨_,_,h,_⟩:=h;cases h
 ·rename_i hw
  simp only[hw] at h
  exact h.2
def Qzo (c:Cx) (K:Act→World→Prop) (E0:List (Nat×En)) (m0:Nat) (ops:Array Oper) (n:Nat) (M:List (Nat×En)) (listed:Array Bool) (σ:St) (i:Nat):Prop:=
 ∀ θ0 η a w,θ0.length=m0→R c (θ0++η) σ a w→SD c θ0 E0 w→Ypa c θ0 E0→Qip c.S0 c.w0 (θ0++η) M→wpOp c.P ops (Qor K) i (fun a' w'=>SD c θ0 E0 w'∧wpAnyH c.P .any ops (Qor K) (SD c θ0 E0) n (listed.setIfInBounds i true) a' w') a w
theorem Qzo.ofg {c:Cx} {K:Act→World→Prop} {E0:List (Nat×En)} {m0:Nat} {ops:Array Oper} {n:Nat} {M:List (Nat×En)} (i:Nat) (is:List Nat) {listed:Array Bool} {σ σ':St} {o:Oper} {G:Prop} (hi:nthO ops.toList i=some o) (ho:OpSg c σ ops o σ' G) (hp:is.map (nthE σ'.E)=E0.map some) (hn:is.Nodup)
  (h:G→RunD c K E0 m0 ops n M (listed.setIfInBounds i true) σ'):Qzo c K E0 m0 ops n M listed σ i:=by
 intro θ0 η a w hl hR hS hB0 hM
 have hi':ops[i]?=some o:=by rw[←Array.getElem?_toList];exact Qiv hi
 refine Ypl hi' ?_
 refine wpList_step fun K' hK'=>?_
 refine ho _ a w hR K' _ fun ζ a' w' hR' hg=>hK' _ _ ?_
 rw[List.append_assoc] at hR'
 have hS':SD c θ0 E0 w':=by
  obtain⟨S,w1,hh⟩:=hR'.heap
  obtain⟨S0,w0,hh0⟩:=hS
  exact⟨S,w1,hh0.back (hh.pickE hp hn)⟩
 exact⟨rfl,hS',h hg θ0 (η++ζ) a' w' hl hR' hS' hB0 (by rw[←List.append_assoc];exact hM.ext)⟩
theorem OpS.g {c:Cx} {σ σ':St} {all:Array Oper} {o:Oper} (h:OpS c σ all o σ'):OpSg c σ all o σ' True:=fun θ a w hR K Q hK=>h θ a w hR K Q fun η a' w' hR'=>hK η a' w' hR' trivial
theorem RunD.alts {c:Cx} {K:Act→World→Prop} {E0:List (Nat×En)} {m0:Nat} {ops:Array Oper} {n:Nat} {M:List (Nat×En)} {listed:Array Bool} {σ:St} {L:List Nat} (hr:Region.ready .any ops listed=L) (hL:L≠[]) (h: ∀ i∈L,Qzo c K E0 m0 ops n M listed σ i):RunD c K E0 m0 ops (n+1) M listed σ:=
 fun θ0 η a w hl hR hS hB0 hM=>wpAnyH_all hr hL fun i hi=>h i hi θ0 η a w hl hR hS hB0 hM
def pkc:Option (Nat×En)→List (Nat×En)→List (Nat×En)
 | some e,r=>e::r
 | none,r=>r
def pk:List Nat→List (Nat×En)→List (Nat×En)
 | [],_=>[]
 | i::is,E=>pkc (nthE E i) (pk is E)
theorem Run.drawS {c:Cx} {res:List Re} {σ:St} {id:Nat} {ops:Array Oper} {k:List It} (n:Nat) (is0:List Nat) (E0:List (Nat×En)) (hp:is0.map (nthE σ.E)=E0.map some) (hd0:is0.Nodup) (hm:c.P.follows .mixedOrders=true) (hn:ops.size=n)
  (h: ∀ S w1 hk hs hd,RunD (c.rebase S w1 hk hs hd) (kQ c res k .normal) E0 σ.m ops n [] (Array.replicate n false) σ):Run c res σ (.code (.region id ops true)::k):=by
 intro θ a w hR
 obtain⟨S,w1,hh⟩:=hR.heap
 have hh':=hh.drew.rebase
 have hR':R (c.rebase S w1 hh.k0 hh.sub hh.sh.dom) (θ++[]) σ a w.drew:=by rw[List.append_nil];exact⟨hR.len,hR.env,S,w1,hh'⟩
 have hE:=hh'.pickE hp hd0
 have:=h S w1 hh.k0 hh.sub hh.sh.dom θ [] a w.drew hR.len hR' ⟨S,w1,hE⟩ (hh.pickE hp hd0).ok Qip.nil
 refine Code.wp_mono (Q:=Qor (kQ c res k .normal)) (fun e a w h=>by obtain⟨rfl,h⟩:=h;exact h) (wp_region_held (P:=c.P) hm (by rw[hn];exact this))
theorem TkS.val {c:Cx} {E0 M:List (Nat×En)} {ops:Array Oper} {listed:Array Bool} {σ:St} {d:Nat} {op:Op} {u:Value} {ty:TypeId} {pos:String} {after:Array Edge} (j:Nat) (hi':nthO ops.toList j=some ⟨some d,op,ty,pos,after,none⟩) (hB:Qpy ops listed j=true)
  (hy: ∀ θ a w,R c θ σ a w→ ∀ w2,Qcg c.P a w2 op ty u) (hd:Nat.blt d σ.n=true):TkS c E0 M σ ops listed j (put d (.v u) σ) M:=by
 intro K m0 n h θ0 η a w hl0 hR hS hB0 hM
 simp only[Qpy,Bool.and_eq_true] at hB
 have hj:ops[j]?=some ⟨some d,op,ty,pos,after,none⟩:=by rw[←Array.getElem?_toList];exact Qiv hi'
 refine wpAnyH_take (v:=u) hj hB.1.1 hB.1.2 hB.2 (fun c a w h=>by cases h.1) (.inl ⟨rfl,fun w2 _=>?_⟩) hS (h θ0 η _ w hl0 (hR.put hd rfl) hS hB0 hM)
 have:=hy _ a w hR w2 (some d) pos after none
 simpa using this
section
variable {c:Cx} {E0 M:List (Nat×En)} {ops:Array Oper} {listed:Array Bool} {σ:St} {d:Nat} {ty:TypeId} {pos:String} {after:Array Edge}
theorem TkS.sidx {t:Nat} {x y:Operand} {i:Int} {s:ByteArray} (j k:Nat) (hk:k<s.size) (hi':nthO ops.toList j=some ⟨some d,.index t x y,ty,pos,after,none⟩) (hB:Qpy ops listed j=true) (hx:ev σ.ρ x=some (.v (.string s))) (hy:ev σ.ρ y=some (.v (.int .i64 i))) (ht:c.ti t= .str) (hi:i=k) (hd:Nat.blt d σ.n=true):
  TkS c E0 M σ ops listed j (put d (.v (.int .u8 (Qav s k).toNat)) σ) M:=
 TkS.val j hi' hB (fun θ a w h w2=>Qpw h.env.env (h.env.isv hx) (h.env.isv hy) hi hk (c.tstr ht)) hd
theorem TkS.quo {t t':Nat} {x y:Operand} {k:IntKind} {i i2:Int} (j:Nat) (hj:i2≠0) (hi':nthO ops.toList j=some ⟨some d,.binOp .quo t x y t',ty,pos,after,none⟩) (hB:Qpy ops listed j=true) (hx:ev σ.ρ x=some (.v (.int k i))) (hy:ev σ.ρ y=some (.v (.int k i2))) (hd:Nat.blt d σ.n=true):
  TkS c E0 M σ ops listed j (put d (.v (.int k (k.wrap (i.tdiv i2)))) σ) M:=TkS.val j hi' hB (fun θ a w h w2=>Ype h.env.env (h.env.isv hx) (h.env.isv hy) hj) hd
theorem TkS.rem {t t':Nat} {x y:Operand} {k:IntKind} {i i2:Int} (j:Nat) (hj:i2≠0) (hi':nthO ops.toList j=some ⟨some d,.binOp .rem t x y t',ty,pos,after,none⟩) (hB:Qpy ops listed j=true) (hx:ev σ.ρ x=some (.v (.int k i))) (hy:ev σ.ρ y=some (.v (.int k i2))) (hd:Nat.blt d σ.n=true):
  TkS c E0 M σ ops listed j (put d (.v (.int k (i.tmod i2))) σ) M:=TkS.val j hi' hB (fun θ a w h w2=>Ymh h.env.env (h.env.isv hx) (h.env.isv hy) hj) hd
theorem TkS.cat {t t':Nat} {x y:Operand} {p q:ByteArray} (j:Nat) (hs:p.size+q.size≤9223372036854775807) (hi':nthO ops.toList j=some ⟨some d,.binOp .add t x y t',ty,pos,after,none⟩) (hB:Qpy ops listed j=true) (hx:ev σ.ρ x=some (.v (.string p))) (hy:ev σ.ρ y=some (.v (.string q))) (hd:Nat.blt d σ.n=true):
  TkS c E0 M σ ops listed j (put d (.v (.string (p++q))) σ) M:=TkS.val j hi' hB (fun θ a w h w2=>Ykc h.env.env (h.env.isv hx) (h.env.isv hy) hs) hd
end
section
variable {c:Cx} {σ:St} {all:Array Oper} {ty:TypeId} {pos:String} {after:Array Edge} {d:Nat}
theorem OpS.lit0 {t e sz by':Nat} (ht:c.ti t= .sl e sz by') (hd:Nat.blt d σ.n=true):
  OpS c σ all ⟨some d,.buildSlice t 0 #[],ty,pos,after,none⟩ ⟨σ.n,σ.m+1,(d,.sl σ.m 0)::σ.ρ,(σ.m,.lit [] e 0)::σ.E⟩:=
 OpS.of fun θ a w h K Q hK => by
  obtain⟨hu,inf,hinf,his,_⟩:=Qbd (c.tsl ht)
  have hsz:(sizeOf e).run c.P w= .ok sz w:=by simp[sizeOf,typeInfo,hinf,his]
  have:(execOp a.eval ⟨some d,.buildSlice t 0 #[],ty,pos,after,none⟩).run c.P w= .ok (.value (.slice (some ⟨w.heap.size,0,none⟩) 0 0)) (w.alloc (.cells #[] e)):=by
   simp[execOp,Instr.buildSlice,run_underlying hu,hsz,Instr.fill,newRow]
   rw[show Array.map (fun _=>(default:Value)) (Array.range 0)= #[] from by simp]
  unfold Oper.wp
  rw[this]
  exact hK _ _ _ (h.newlit (cs:=[]) (l:=[]) rfl e 0 hd (h.sl0 0))
end
end
section
def nthG (m:Nat):List Nat→Nat→Nat
 | [],k=>m+k
 | x::r,k=>bif Nat.beq k 0 then x else nthG m r (Nat.pred k)
mutual
def V.fw (f:List Nat) (m:Nat):V→V
 | .v x=> .v x
 | .sl r n=> .sl (nthG m f r) n
 | .pt r o=> .pt (nthG m f r) o
 | .ag cs=> .ag (fwL f m cs)
 | .fn g cs=> .fn g (fwL f m cs)
 | .tu cs=> .tu (fwL f m cs)
 | .gd b x=> .gd b (x.fw f m)
def fwL (f:List Nat) (m:Nat):List V→List V
 | []=>[]
 | x::r=>x.fw f m::fwL f m r
end
def En.fw (f:List Nat) (m:Nat):En→En
 | .var cs T=> .var (fwL f m cs) T
 | .lit cs T n=> .lit (fwL f m cs) T n
 | .roc cs=> .roc (fwL f m cs)
 | .own α d xs=> .own α d xs
 | .ros α d xs=> .ros α d xs
 | .itr s p=> .itr s p
 | .any P=> .any P
 | .pin l=> .pin l
def fwE (f:List Nat) (m:Nat):List (Nat×En)→List (Nat×En)
 | []=>[]
 | (r,e)::E=>(nthG m f r,e.fw f m)::fwE f m E
theorem Yey {f : List Nat} {m : Nat} : ∀ E : List (Nat × En), fwE f m E = E.map fun e => (nthG m f e.1, e.2.fw f m)
 | []=>rfl
 | (r,e)::E=>by simp only[fwE,List.map_cons,Yey E]
section
variable {f:List Nat} {m:Nat} {θ1 θ2:List Loc}
mutual
theorem V.fw_con (hf: ∀ r,θ1[r]?=θ2[nthG m f r]?): ∀ v:V,(v.fw f m).con θ2=v.con θ1
 | .v x=>rfl
 | .sl r n=>by simp only[V.fw,V.con,hf]
 | .pt r o=>by simp only[V.fw,V.con,hf]
 | .ag cs=>by simp only[V.fw,V.con,Qsp hf cs]
 | .fn g cs=>by simp only[V.fw,V.con,Qsp hf cs]
 | .tu cs=>by simp only[V.fw,V.con,Qsp hf cs]
 | .gd b x=>by simp only[V.fw,V.con,V.fw_con hf x]
theorem Qsp (hf: ∀ r,θ1[r]?=θ2[nthG m f r]?): ∀ cs:List V,conL θ2 (fwL f m cs)=conL θ1 cs
 | []=>rfl
 | x::r=>by simp only[fwL,conL,V.fw_con hf x,Qsp hf r]
end
theorem En.fw_ck (hf: ∀ r,θ1[r]?=θ2[nthG m f r]?) (e:En) (r:Nat):(e.fw f m).ck θ2 (nthG m f r)=e.ck θ1 r:=by
 have hl:locF θ2 (nthG m f r)=locF θ1 r:=by unfold locF;rw[hf]
 cases e<;>simp only[En.fw,En.ck,hl,hf,Qsp hf]
end
section
variable {c:Cx} {σ:St} {all:Array Oper} {ty:TypeId} {pos:String} {after:Array Edge} {d:Nat}
end
def thz (p:Nat→Loc) (n:Nat):List Loc:=(List.range n).map p
theorem Qr2 {p:Nat→Loc} {n:Nat}:(thz p n).length=n:=by simp[thz]
theorem Qhh {p:Nat→Loc} {n k:Nat} (h:k<n):(thz p n)[k]?=some (p k):=by simp[thz,h]
theorem Yml {p:Nat→Loc} {θ:List Loc} {n:Nat} (hn:n≤θ.length) (h: ∀ k,k<n→θ[k]?=some (p k)):thz p n=θ.take n:=by
 apply List.ext_getElem?
 intro k
 by_cases hk:k<n
 ·rw[Qhh hk,List.getElem?_take,if_pos hk,h k hk]
 ·rw[List.getElem?_eq_none (by rw[Qr2];omega),List.getElem?_eq_none (by simp;omega)]
def Qqx (p:Nat→Loc):Nat→Nat→List (Nat×En)
 | _,0=>[]
 | k,n+1=>(k,.pin (p k))::Qqx p (k+1) n
theorem Ydj {p:Nat→Loc}: ∀ {n k i:Nat},i<n→(k+i,En.pin (p (k+i)))∈Qqx p k n
 | 0,_,_,h=>by omega
 | n+1,k,0,_=>List.mem_cons_self
 | n + 1, k, i + 1, h => by
  have:=Ydj (p:=p) (n:=n) (k:=k+1) (i:=i) (by omega)
  rw[show k+1+i=k+(i+1) by omega] at this
  exact List.mem_cons_of_mem _ this
theorem Qzw {p:Nat→Loc}: ∀ {n k:Nat} {e:Nat×En},e∈Qqx p k n→ ∃ i,k≤i∧i<k+n∧e=(i,.pin (p i))
 | 0,_,_,h=>by cases h
 | n + 1, k, e, h => by
  rcases List.mem_cons.1 h with rfl | h
  ·exact⟨k,Nat.le_refl _,by omega,rfl⟩
  ·obtain⟨i,h1,h2,h3⟩:=Qzw h
   exact⟨i,by omega,by omega,h3⟩
def MQ (S:Nat→Prop) (w:World) (p:Nat→Loc) (mk:Nat) (E1:List (Nat×En)) (nn:Nat) (res:List V) (G0:Prop) (w':World) (v:Value):Prop:=
 G0∧ ∃ η us,η.length=nn∧conL (thz p mk++η) res=some us∧v=pack us∧SH S w w' (E1.map fun e=>e.2.ck (thz p mk++η) e.1)
def CTM (P:Program) (G:World→Prop) (gs:List Nat) (f:FuncId) (mk m0:Nat) (E0 F0:List (Nat×En)) (args:List V) (E1:List (Nat×En)) (nn:Nat) (res:List V) (G0:Prop):Prop:=
 ∀ (S:Nat→Prop) (w:World) (p:Nat→Loc) (us:List Value),(∀ w',Keep S w w'→G w')→(∀ g∈gs,S g)→SH S w w (E0.map fun e=>e.2.ck (thz p m0) e.1)→Qip S w (thz p m0) F0→conL (thz p m0) args=some us→
  Calls P f us.toArray w (fun e w'=> ∃ v,e= .returned v∧MQ S w p mk E1 nn res G0 w' v)
def Yuq {P:Program} {ti:Nat→TI} {zr:Nat→Option Value} {G:World→Prop} (s:SysOk P ti zr G) (fn:Func) (S:Nat→Prop) (w:World) (hG: ∀ w',Keep S w w'→G w') (hb: ∀ b,S b→b<w.heap.size) (Q:World→Value→Prop):Cx:=⟨P,fn,ti,zr,G,S,w,s.tiok,s.zok,hG,hb,fun _=>Q⟩
theorem Yni {θ:List Loc}: ∀ {M:List (Nat×En)},(∀ e∈M,∀ θ r,e.2.ck θ r=⟨[],fun _=>True⟩)→(M.map fun e=>e.2.ck θ e.1).flatMap (·.F)=[]:=by
 intro M h
 rw[List.flatMap_map,List.flatMap_eq_nil_iff]
 intro e he
 rw[h e he]
theorem SH.more {S:Nat→Prop} {w0 w:World} {L:List Ck} {θ:List Loc} {M:List (Nat×En)} (h:SH S w0 w L) (hM: ∀ e∈M,∀ θ r,e.2.ck θ r=⟨[],fun _=>True⟩):SH S w0 w (L++M.map fun e=>e.2.ck θ e.1):=by
 refine⟨h.keep,h.dom,fun c hc=>?_,fun c hc b hb=>?_,?_⟩
 ·rcases List.mem_append.1 hc with hc | hc
  ·exact h.ok c hc
  ·obtain⟨e,he,rfl⟩:=List.mem_map.1 hc
   rw[hM e he]
   exact fun _ _=>trivial
 ·rcases List.mem_append.1 hc with hc | hc
  ·exact h.ge c hc b hb
  ·obtain⟨e,he,rfl⟩:=List.mem_map.1 hc
   rw[hM e he] at hb
   cases hb
 ·rw[List.flatMap_append,Yni hM,List.append_nil]
  exact h.apart
def En.isCk:En→Bool
 | .var _ _=>true
 | .lit _ _ _=>true
 | .own _ _ _=>true
 | .itr _ _=>true
 | .any _=>true
 | _=>false
def Yev:List (Nat×En)→Bool
 | []=>true
 | (_,e)::E=>bif e.isCk then Yev E else false
theorem En.ok_ck {e:En} (h:e.isCk=true) {S:Nat→Prop} {w:World} {θ:List Loc} {r:Nat}:e.ok S w θ r:=by
 cases e<;>first | trivial | cases h
theorem Q0n: ∀ {E:List (Nat×En)},Yev E=true→ ∀ e∈E,e.2.isCk=true
 | [],_,_,he=>by cases he
 | (r, x) :: E, h, e, he => by
  simp only[Yev] at h
  cases hx:x.isCk with
  | false=>rw[hx] at h;cases h
  | true =>
   rw[hx] at h
   rcases List.mem_cons.1 he with rfl | he
   ·exact hx
   ·exact Q0n h e he
theorem Ykq {p : Nat → Loc} {k n : Nat} : ∀ e ∈ Qqx p k n, ∀ θ r, e.2.ck θ r = ⟨[], fun _ => True⟩ := fun e he θ r => by
 obtain⟨i,_,_,rfl⟩:=Qzw he
 rfl
theorem CTM.of {G0:Prop} {P:Program} {ti:Nat→TI} {zr:Nat→Option Value} {G:World→Prop} (s:SysOk P ti zr G) {gs:List Nat} {f:FuncId} {fn:Func} {code:Code} {n mk m0 nn:Nat} {E0 F0 E1:List (Nat×En)} {args res:List V} (hf:P.funcs[f]?=some fn) (hb:fn.body=some code) (hn:fn.ntmps=n) (hl:Nat.ble args.length n=true) (hmk:Nat.ble mk m0=true) (hE:Yev E0=true)
  (h: ∀ S w p (hG: ∀ w',Keep S w w'→G w') (hb: ∀ b,S b→b<w.heap.size),(∀ g∈gs,S g)→Run (Yuq s fn S w hG hb (MQ S w p mk E1 nn res G0)) [] ⟨n,m0,Qln 0 args,E0++F0++Qqx p 0 mk⟩ [.code code]):CTM P G gs f mk m0 E0 F0 args E1 nn res G0:=by
 intro S w p us hG hgs hS hF hc
 refine calls_of_wp hf hb ?_
 have hvl:us.length=args.length:=Qgr hc
 have hle:=Nat.le_of_ble_eq_true hl
 have hmk':=Nat.le_of_ble_eq_true hmk
 refine h S w p hG hS.dom hgs (thz p m0) _ w ⟨Qr2,⟨?_,rfl,fun t v hv=>?_⟩,S,w,?_⟩
 ·show(us.toArray++Array.replicate (fn.ntmps - us.toArray.size) undef).size=n
  simp[hn];omega
 ·obtain⟨_,u,hu,hcu⟩:=Qqu hc hv
  rw[Nat.sub_zero] at hu
  have hlt:=(List.getElem?_eq_some_iff.1 hu).1
  refine⟨?_,by show t<n;omega⟩
  rw[hcu]
  simp[Array.getD_eq_getD_getElem?,Array.getElem?_append_left (show t<us.toArray.size by simpa using hlt),hu]
 ·refine⟨Keep.refl _ _,fun _ h=>h,?_,fun e he=>?_⟩
  ·rw[List.map_append,List.map_append]
   exact(hS.more fun e he=>(hF e he).2).more Ykq
  ·rcases List.mem_append.1 he with he | he
   ·rcases List.mem_append.1 he with he | he
    ·exact En.ok_ck (Q0n hE e he)
    ·exact(hF e he).1
   ·obtain⟨i,_,h2,rfl⟩:=Qzw he
    exact Qhh (by omega)
theorem Run.keyM {c:Cx} {res':List Re} {σ:St} {rs:List ResultVar} (hr:c.fn.results.toList=rs) (hl:Nat.ble rs.length 4=true) {vs:List V} (hv:rvsV c.ti σ.ρ σ.E rs=some vs)
  {S:Nat→Prop} {w:World} {p:Nat→Loc} {mk nn:Nat} {E1:List (Nat×En)} {res:List V} {G0:Prop} (hg0:G0) (hQ: ∀ R w' v,MQ S w p mk E1 nn res G0 w' v→c.Q R w' v) (hS0: ∀ b,S b→c.S0 b) (hK:Keep S w c.w0) (hd: ∀ b,S b→b<w.heap.size)
  (f is:List Nat) (hlen:Nat.beq f.length (mk+nn)=true) (hs:SubE f σ.E is (E1++Qqx p 0 mk)) (hn:is.Nodup) (hres:renL f res=some vs) {θ:List Loc} {a:Act} {w':World} (h:R c θ σ a w'):post c res' .ret a w':=by
 have hlen':f.length=mk+nn:=Nat.eq_of_beq_eq_true hlen
 have hR:=h.sub (σ2:=⟨σ.n,mk+nn,[],E1++Qqx p 0 mk⟩) (f:=f) (is:=is) ⟨rfl,hlen',trivial,hs⟩ hn
 obtain⟨us,hus,hrl⟩:=Yen h hv
 obtain⟨S1,w1,hh⟩:=hR.heap
 have hpin : ∀ k, k < mk → (renθ f θ)[k]? = some (p k) := fun k hk => by
  have:=hh.ok (0+k,.pin (p (0+k))) (List.mem_append_right _ (Ydj hk))
  rw[Nat.zero_add] at this
  exact this
 have hlr:(renθ f θ).length=mk+nn:=hR.len
 have hsp:thz p mk++(renθ f θ).drop mk=renθ f θ:=by
  rw[Yml (by omega) hpin,List.take_append_drop]
 refine⟨h.env.defers,_,Q8r hr hl hrl,_,rfl,hQ _ _ _ ⟨hg0,(renθ f θ).drop mk,us,by simp[hlr],by rw[hsp];exact Qlo hres hus,rfl,?_⟩⟩
 rw[hsp]
 have hsh:=hh.sh
 rw[List.map_append] at hsh
 refine⟨hK.trans ((hh.k0.trans (hsh.keep.mono hh.sub)).mono hS0),hd,fun c hc=>hsh.ok c (List.mem_append_left _ hc),fun c hc b hb=>?_,?_⟩
 ·have:=hsh.ge c (List.mem_append_left _ hc) b hb
  exact⟨fun hS=>this.1 (hh.sub b (hS0 b hS)),this.2⟩
 ·have:=hsh.apart
  rw[List.flatMap_append,List.nodup_append] at this
  exact this.1
theorem Run.retM {c:Cx} {res':List Re} {σ:St} {k:List It} {rs:List ResultVar} (hr:c.fn.results.toList=rs) (hl:Nat.ble rs.length 4=true) {vs:List V} (hv:rvsV c.ti σ.ρ σ.E rs=some vs)
  {S:Nat→Prop} {w:World} {p:Nat→Loc} {mk nn:Nat} {E1:List (Nat×En)} {res:List V} {G0:Prop} (hg0:G0) (hQ: ∀ R w' v,MQ S w p mk E1 nn res G0 w' v→c.Q R w' v) (hS0: ∀ b,S b→c.S0 b) (hK:Keep S w c.w0) (hd: ∀ b,S b→b<w.heap.size)
  (f is:List Nat) (hlen:Nat.beq f.length (mk+nn)=true) (hs:SubE f σ.E is (E1++Qqx p 0 mk)) (hn:is.Nodup) (hres:renL f res=some vs):Run c res' σ (.code .ret::k):=by
 intro θ a w' h
 have key:post c res' .ret a w':=Run.keyM hr hl hv hg0 hQ hS0 hK hd f is hlen hs hn hres h
 refine wp_ret ?_
 clear hv hr hs hres
 induction k with
 | nil=>exact key
 | cons x k ih=>cases x<;>exact ih
def Qpa (x:Option (Nat×En)) (l:List (Nat×En)):List (Nat×En):=match x with
 | some y=>y::l
 | none=>l
def pickE (E:List (Nat×En)):List Nat→List (Nat×En)
 | []=>[]
 | i::is=>Qpa (nthE E i) (pickE E is)
def Qj2 (σ:St) (d:Nat) (fk:List Nat) (E1:List (Nat×En)) (nn:Nat) (res:List V) (rest:List Nat):St:=
 ⟨σ.n,σ.m+nn,(d,Qjb (fwL fk σ.m res))::σ.ρ,fwE fk σ.m E1++pickE σ.E rest⟩
theorem En.ok_off {M R:List Ck} {S:Nat→Prop} {w1 w:World} (h:SH S w1 w (M++R)) {θ:List Loc} {r:Nat} {e:En} (he:e.ok S w1 θ r):e.ok (Off M w) w θ r:=by
 cases e with
 | var=>trivial
 | lit=>trivial
 | own=>trivial
 | itr=>trivial
 | any=>trivial
 | pin l=>exact he
 | ros α d xs=>obtain⟨l,h1,h2⟩:=he;exact⟨l,h1,h.upM h2⟩
 | roc cs=>obtain⟨l,A,ccs,h1,h2,h3,h4,h5⟩:=he;exact⟨l,A,ccs,h1,h2,h3,h.inOff h4,h5.keep h.keep h4⟩
theorem Ykv {m:Nat}: ∀ {f:List Nat} {r q:Nat},f[r]?=some q→nthG m f r=q
 | x::f,0,q,h=>by simpa [nthG] using h
 | x :: f, r + 1, q, h => by
  simp only[nthG,Nat.beq,Nat.pred,cond]
  exact Ykv (by simpa using h)
theorem Ykw {m:Nat}: ∀ {f:List Nat} {r:Nat},f.length≤r→nthG m f r=m+(r - f.length)
 | [],r,_=>rfl
 | x::f,0,h=>by simp at h
 | x :: f, r + 1, h => by
  simp only[nthG,Nat.beq,Nat.pred,cond]
  rw[Ykw (by simpa using h),List.length_cons]
  omega
section
variable {f:List Nat} {θ1 θ2:List Loc}
mutual
theorem V.ren_eq (hf: ∀ r q:Nat,f[r]?=some q→θ1[r]?=θ2[q]?): ∀ {v u:V},v.ren f=some u→v.con θ1=u.con θ2
 | .v x,u,h=>by simp only[V.ren] at h;cases h;rfl
 | .sl r n, u, h => by
  simp only[V.ren] at h
  split at h
  ·rename_i q hq;cases h;simp only[V.con,hf r q hq]
  ·cases h
 | .pt r n, u, h => by
  simp only[V.ren] at h
  split at h
  ·rename_i q hq;cases h;simp only[V.con,hf r q hq]
  ·cases h
 | .ag cs, u, h => by
  simp only[V.ren] at h
  split at h
  ·rename_i l hl;cases h;simp only[V.con,Qn9 hf hl]
  ·cases h
 | .fn g cs, u, h => by
  simp only[V.ren] at h
  split at h
  ·rename_i l hl;cases h;simp only[V.con,Qn9 hf hl]
  ·cases h
 | .tu cs, u, h => by
  simp only[V.ren] at h
  split at h
  ·rename_i l hl;cases h;simp only[V.con,Qn9 hf hl]
  ·cases h
 | .gd b x, u, h => by
  simp only[V.ren] at h
  split at h
  ·rename_i l hl;cases h;simp only[V.con,V.ren_eq hf hl]
  ·cases h
theorem Qn9 (hf: ∀ r q:Nat,f[r]?=some q→θ1[r]?=θ2[q]?): ∀ {cs ds:List V},renL f cs=some ds→conL θ1 cs=conL θ2 ds
 | [],ds,h=>by simp only[renL] at h;cases h;rfl
 | x :: r, ds, h => by
  simp only[renL] at h
  split at h
  ·rename_i a b h1 h2;cases h;simp only[conL,V.ren_eq hf h1,Qn9 hf h2]
  ·cases h
end
theorem En.ren_ck_eq (hf: ∀ r q:Nat,f[r]?=some q→θ1[r]?=θ2[q]?) {r q:Nat} (hr:f[r]?=some q) {e e':En} (h:e.ren f=some e'):e.ck θ1 r=e'.ck θ2 q:=by
 have hl:locF θ1 r=locF θ2 q:=by unfold locF;rw[hf r q hr]
 cases e with
 | var cs T =>
  simp only[En.ren] at h
  split at h
  ·rename_i l hl';cases h;simp only[En.ck,hl,hf r q hr,Qn9 hf hl']
  ·cases h
 | lit cs T n =>
  simp only[En.ren] at h
  split at h
  ·rename_i l hl';cases h;simp only[En.ck,hl,hf r q hr,Qn9 hf hl']
  ·cases h
 | own α d xs=>simp only[En.ren] at h;cases h;simp only[En.ck,hl,hf r q hr]
 | itr s p=>simp only[En.ren] at h;cases h;simp only[En.ck,hl,hf r q hr]
 | any P=>simp only[En.ren] at h;cases h;simp only[En.ck,hl,hf r q hr]
 | ros=>simp only[En.ren] at h;cases h;rfl
 | pin=>simp only[En.ren] at h;cases h;rfl
 | roc cs =>
  simp only[En.ren] at h
  split at h
  ·cases h;rfl
  ·cases h
theorem En.ren_ok_eq (hf: ∀ r q:Nat,f[r]?=some q→θ1[r]?=θ2[q]?) {r q:Nat} (hr:f[r]?=some q) {e e':En} (h:e.ren f=some e') {S:Nat→Prop} {w:World} (hp:e'.ok S w θ2 q):e.ok S w θ1 r:=by
 cases e with
 | var=>trivial
 | lit=>trivial
 | own=>trivial
 | itr=>trivial
 | any=>trivial
 | ros=>simp only[En.ren] at h;cases h;simp only[En.ok,hf r q hr] at hp ⊢;exact hp
 | pin=>simp only[En.ren] at h;cases h;simp only[En.ok,hf r q hr] at hp ⊢;exact hp
 | roc cs =>
  simp only[En.ren] at h
  split at h
  ·rename_i l hl';cases h;simp only[En.ok,hf r q hr,Qn9 hf hl'] at hp ⊢;exact hp
  ·cases h
end
def En.isF:En→Bool
 | .ros _ _ _=>true
 | .roc _=>true
 | .pin _=>true
 | _=>false
def isFs:List (Nat×En)→Bool
 | []=>true
 | (_,e)::E=>bif e.isF then isFs E else false
theorem Yf7: ∀ {E:List (Nat×En)},isFs E=true→ ∀ e∈E,∀ θ r,e.2.ck θ r=⟨[],fun _=>True⟩
 | [],_,_,he=>by cases he
 | (r, x) :: E, h, e, he => by
  simp only[isFs] at h
  cases hx:x.isF with
  | false=>rw[hx] at h;cases h
  | true =>
   rw[hx] at h
   rcases List.mem_cons.1 he with rfl | he
   ·intro θ r;cases x<;>first | rfl | cases hx
   ·exact Yf7 h e he
def Yl6 (m:Nat):List Nat→Bool
 | []=>true
 | x::r=>bif Nat.blt x m then Yl6 m r else false
theorem Q80 {m:Nat}: ∀ {f:List Nat} {r q:Nat},Yl6 m f=true→f[r]?=some q→q<m
 | x :: f, r, q, h, hq => by
  simp only[Yl6] at h
  cases hx:Nat.blt x m with
  | false=>rw[hx] at h;cases h
  | true =>
   rw[hx] at h
   cases r with
   | zero=>simp at hq;subst hq;simpa using hx
   | succ r=>exact Q80 h (by simpa using hq)
theorem OpSg.of {c:Cx} {σ σ':St} {all:Array Oper} {dst:Option Tmp} {op:Op} {ty:TypeId} {pos:String} {after:Array Edge} {G:Prop}
  (h: ∀ θ a w,R c θ σ a w→ ∀ (K:Act→World→Prop) (Q:Exit→Act→World→Prop),(∀ η a' w',R c (θ++η) σ' a' w'→G→K a' w')→Oper.wp c.P ⟨dst,op,ty,pos,after,none⟩ a w K Q):OpSg c σ all ⟨dst,op,ty,pos,after,none⟩ σ' G:=by
 intro θ a w hR K Q hK
 rw[if_pos (by simp[Region.wanted])]
 exact h θ a w hR K Q hK
def borN:En→En
 | .own α d xs=> .ros α d xs
 | .ros α d xs=> .ros α d xs
 | .var cs T=> .roc cs
 | .roc cs=> .roc cs
 | .lit cs T n=> .lit cs T n
 | .itr s p=> .itr s p
 | .any P=> .any P
 | .pin l=> .pin l
def borL:List (Nat×En)→List (Nat×En)
 | []=>[]
 | (r,e)::E=>(r,borN e)::borL E
theorem Ygl : ∀ E : List (Nat × En), borL E = E.map fun e => (e.1, borN e.2)
 | []=>rfl
 | (r,e)::E=>by simp only[borL,List.map_cons,Ygl E]
def djB (is:List Nat):List Nat→Bool
 | []=>true
 | j::js=>!(is.elem j)&&djB is js
theorem Q9m {is:List Nat}: ∀ {js:List Nat},djB is js=true→ ∀ j∈js,j ∉ is
 | [],_,_,h=>by cases h
 | k :: js, h, j, hj => by
  simp only[djB,Bool.and_eq_true,Bool.not_eq_true'] at h
  rcases List.mem_cons.1 hj with rfl | hj
  ·intro hm
   have:=List.elem_eq_true_of_mem hm
   rw[h.1] at this
   cases this
  ·exact Q9m h.2 j hj
section
variable {c:Cx} {σ:St} {all:Array Oper} {ty:TypeId} {pos:String} {after:Array Edge} {d:Nat}
theorem OpS.callM {G0:Prop} {gs:List Nat} {fid:FuncId} {mk m0 nn:Nat} {E0 F0 E1:List (Nat×En)} {args res:List V} (hct:CTM c.P c.G gs fid mk m0 E0 F0 args E1 nn res G0) (hfn:FnOk c.P fid) (hgs: ∀ g∈gs,c.S0 g) (f fk is js rest:List Nat)
    {x:Operand} {cs:List V} {xs:Array Operand} {ts:Array TypeId} {vs:List V} (hx:ev σ.ρ x=some (.fn fid cs)) (hev:evs σ.ρ xs.toList=some vs) (hva:renL f args=some (vs++cs)) (hfm:Nat.beq f.length m0=true) (hfk:f.take mk=fk) (hE0:SubE f σ.E is E0) (hF0:SubE f (borL σ.E) js F0) (hFs:isFs F0=true) (hdj:djB is js=true)
    (hnd:(is++rest).Nodup) (hrest:rest.map (nthE σ.E)=(pickE σ.E rest).map some) (hd:Nat.blt d σ.n=true) (hlt:Yl6 σ.m f=true) (hmk:Nat.ble mk m0=true) (hE1:Yev E1=true):
    OpSg c σ all ⟨some d,.call { callee:= .value x,args:=xs,argTypes:=ts },ty,pos,after,none⟩ (Qj2 σ d fk E1 nn res rest) G0:=
  OpSg.of fun θ a w h K Q hK => by
    obtain⟨us,hus,hm⟩:=h.env.evsL hev
    obtain⟨S,w1,hh⟩:=h.heap
    obtain⟨fn,hf,hb,hn⟩:=hfn
    have hn': ¬ fn.name= "runtime.NumGoroutine" := by simpa using hn
    have hb': ¬ fn.body=none:=by intro e;rw[e] at hb;cases hb
    have hxc:=h.env.con hx
    simp only[V.con,Option.map_eq_some_iff] at hxc
    obtain⟨capt,hcapt,hfv⟩:=hxc
    have hmm:xs.map a.eval=us.toArray:=by
      apply Array.toList_inj.1
      rw[Array.toList_map,Fw.evals h.env.env hm]
    have hfm':f.length=m0:=Nat.eq_of_beq_eq_true hfm
    have hmk':mk≤m0:=Nat.le_of_ble_eq_true hmk
    let p:Nat→Loc:=fun k=>θ.getD (f.getD k 0) ⟨none,0,[]⟩
    have hget : ∀ r q : Nat, f[r]? = some q → θ[q]? = some (p r) := fun r q hq => by
      have hl:=Q80 hlt hq
      rw[←h.len] at hl
      simp[p,hq,hl]
    have hren : ∀ r q : Nat, f[r]? = some q → (thz p m0)[r]? = θ[q]? := fun r q hq => by
      have hr:=(List.getElem?_eq_some_iff.1 hq).1
      rw[Qhh (by omega),hget r q hq]
    obtain⟨Z,hZ1,hZ2,hZ3⟩:=Qzx hE0
    obtain⟨Y,hY1,hY2,hY3⟩:=Qzx hF0
    have hpk:(is++rest).map (fun i=>σ.E[i]?)=(Z.map (·.2)++pickE σ.E rest).map some:=by
      rw[List.map_append,List.map_append,hZ2,List.map_map]
      congr 1
      have hr2:rest.map (fun i=>σ.E[i]?)=(pickE σ.E rest).map some:=by
        have: ∀ (l:List Nat) (L:List (Nat×En)),l.map (nthE σ.E)=L.map some→l.map (fun i=>σ.E[i]?)=L.map some:=by
          intro l
          induction l with
          | nil => intro L hL; cases L with
            | nil=>rfl
            | cons=>simp at hL
          | cons i l ih => intro L hL; cases L with
            | nil=>simp at hL
            | cons e L =>
              simp only[List.map_cons,List.cons.injEq] at hL ⊢
              exact⟨Qky hL.1,ih L hL.2⟩
        exact this _ _ hrest
      exact hr2
    have hsh:SH S w1 w (E0.map (fun e=>e.2.ck (thz p m0) e.1)++(pickE σ.E rest).map fun e=>e.2.ck θ e.1):=by
      have h1:SH S w1 w ((Z.map (·.2)++pickE σ.E rest).map fun e=>e.2.ck θ e.1):=by
        refine hh.sh.pick (is++rest) hnd ?_
        have h2:((is++rest).map fun i=>(σ.E.map fun e=>e.2.ck θ e.1)[i]?)=((is++rest).map fun i=>σ.E[i]?).map (Option.map fun e=>e.2.ck θ e.1):=by
          rw[List.map_map]
          refine List.map_congr_left fun i _=>?_
          simp
        rw[h2,hpk,List.map_map,List.map_map]
        rfl
      have h3 : E0.map (fun e => e.2.ck (thz p m0) e.1) = (Z.map (·.2)).map fun e => e.2.ck θ e.1 := by
        rw[←hZ1,List.map_map,List.map_map]
        refine List.map_congr_left fun z hz=>?_
        exact En.ren_ck_eq hren (hZ3 z hz).1 (hZ3 z hz).2.1
      rw[h3,←List.map_append]
      exact h1
    have hfa : Qip (Off (E0.map fun e => e.2.ck (thz p m0) e.1) w) w (thz p m0) F0 := fun e he => by
      refine⟨?_,Yf7 hFs e he⟩
      rw[←hY1] at he
      obtain⟨z,hz,rfl⟩:=List.mem_map.1 he
      refine En.ren_ok_eq hren (hY3 z hz).1 (hY3 z hz).2.1 ?_
      have hzm:some z.2∈js.map fun i=>(borL σ.E)[i]?:=by rw[hY2];exact List.mem_map.2 ⟨z,hz,rfl⟩
      obtain⟨j,hj,hjz⟩:=List.mem_map.1 hzm
      rw[Ygl,List.getElem?_map,Option.map_eq_some_iff] at hjz
      obtain⟨⟨q,e⟩,hqe,hez⟩:=hjz
      rw[←hez]
      have hem:(q,e)∈σ.E:=List.mem_of_getElem? hqe
      cases e with
      | own α dα xs =>
        obtain⟨l,hl,ho⟩:=(hh.sh.ok _ (List.mem_map.2 ⟨_,hem,rfl⟩)).here
        refine⟨l,hl,ho.rd fun b hb=>⟨ho.lt b hb,fun hm=>?_⟩⟩
        have hLj:(σ.E.map fun e=>e.2.ck θ e.1)[j]?=some ((En.own α dα xs).ck θ q):=by rw[List.getElem?_map,hqe];rfl
        obtain⟨ck,hck,hbc⟩:=List.mem_flatMap.1 hm
        have h3 : E0.map (fun e => e.2.ck (thz p m0) e.1) = (Z.map (·.2)).map fun e => e.2.ck θ e.1 := by
          rw[←hZ1,List.map_map,List.map_map]
          refine List.map_congr_left fun z hz=>?_
          exact En.ren_ck_eq hren (hZ3 z hz).1 (hZ3 z hz).2.1
        rw[h3] at hck
        obtain⟨e2,he2,rfl⟩:=List.mem_map.1 hck
        obtain⟨z2,hz2,rfl⟩:=List.mem_map.1 he2
        have hzi:some z2.2∈is.map fun i=>σ.E[i]?:=by rw[hZ2];exact List.mem_map.2 ⟨z2,hz2,rfl⟩
        obtain⟨i,hi,hiz⟩:=List.mem_map.1 hzi
        have hLi:(σ.E.map fun e=>e.2.ck θ e.1)[i]?=some (z2.2.2.ck θ z2.2.1):=by rw[List.getElem?_map,hiz];rfl
        refine hh.sh.dj hLj hLi (fun e=>Q9m hdj j hj (e▸hi)) b ?_ hbc
        show b∈locF θ q
        rw[Qai hl]
        exact hb
      | ros α dα xs=>exact En.ok_off hsh (hh.ok _ hem)
      | var cs T =>
        obtain⟨l,b,ccs,hl,hA,hFl,hcc,hb5⟩:=(hh.sh.ok _ (List.mem_map.2 ⟨_,hem,rfl⟩)).here
        refine⟨l,_,ccs,hl,hA,hcc,⟨(Array.getElem?_eq_some_iff.1 hb5).1,fun hm=>?_⟩,Qca.row hb5⟩
        have hLj:(σ.E.map fun e=>e.2.ck θ e.1)[j]?=some ((En.var cs T).ck θ q):=by rw[List.getElem?_map,hqe];rfl
        obtain⟨ck,hck,hbc⟩:=List.mem_flatMap.1 hm
        have h3 : E0.map (fun e => e.2.ck (thz p m0) e.1) = (Z.map (·.2)).map fun e => e.2.ck θ e.1 := by
          rw[←hZ1,List.map_map,List.map_map]
          refine List.map_congr_left fun z hz=>?_
          exact En.ren_ck_eq hren (hZ3 z hz).1 (hZ3 z hz).2.1
        rw[h3] at hck
        obtain⟨e2,he2,rfl⟩:=List.mem_map.1 hck
        obtain⟨z2,hz2,rfl⟩:=List.mem_map.1 he2
        have hzi:some z2.2∈is.map fun i=>σ.E[i]?:=by rw[hZ2];exact List.mem_map.2 ⟨z2,hz2,rfl⟩
        obtain⟨i,hi,hiz⟩:=List.mem_map.1 hzi
        have hLi:(σ.E.map fun e=>e.2.ck θ e.1)[i]?=some (z2.2.2.ck θ z2.2.1):=by rw[List.getElem?_map,hiz];rfl
        refine hh.sh.dj hLj hLi (fun e=>Q9m hdj j hj (e▸hi)) b ?_ hbc
        show b∈locF θ q
        rw[Qai hl,hFl]
        exact List.mem_singleton.2 rfl
      | roc cs=>exact En.ok_off hsh (hh.ok _ hem)
      | lit=>trivial
      | itr=>trivial
      | any=>trivial
      | pin l=>exact En.ok_off hsh (hh.ok _ hem)
    have hG: ∀ w',Keep (Off (E0.map fun e=>e.2.ck (thz p m0) e.1) w) w w'→c.G w':=fun w' hk=>c.gok w' (hh.keep.trans (hk.mono fun b hb=>hsh.inOff (hh.sub b hb)))
    have hargs:conL (thz p m0) args=some (us++capt):=by
      rw[Qn9 hren hva]
      exact Qnb hus hcapt
    unfold Oper.wp
    have:(execOp a.eval ⟨some d,.call { callee:= .value x,args:=xs,argTypes:=ts },ty,pos,after,none⟩).run c.P w= .ok (.enter fid (us++capt).toArray) w:=by
      simp[execOp,resolve,hmm,←hfv,Deferred.ofValue,invoke,callFunc,hf,hn',hb']
    rw[this,Oper.upon_enter]
    refine(hct _ w p (us++capt) hG (fun g hg=>hsh.inOff (hh.sub g (hgs g hg))) hsh.off hfa hargs).mono fun e w' hr=>?_
    obtain⟨v,rfl,hg0,η,us',hη,hc',rfl,hs'⟩:=hr
    have hnm : ∀ r, (thz p mk ++ η)[r]? = (θ ++ η)[nthG θ.length fk r]? := fun r => by
      have hlf:fk.length=mk:=by rw[←hfk,List.length_take];omega
      rcases Nat.lt_or_ge r mk with hr | hr
      · have hq : ∃ q, fk[r]? = some q := ⟨_, List.getElem?_eq_getElem (by omega)⟩
        obtain⟨q,hq⟩:=hq
        have hq':f[r]?=some q:=by
          rw[←hfk,List.getElem?_take,if_pos hr] at hq
          exact hq
        rw[Ykv hq,List.getElem?_append_left (by rw[Qr2];exact hr),Qhh hr]
        exact(Qd7 (hget r q hq')).symm
      · rw [Ykw (by omega), List.getElem?_append_right (by rw [Qr2]; exact hr), List.getElem?_append_right (by omega), Qr2, hlf]
        congr 1
        omega
    have hcall:=SH.callM hsh hs'
    have hfin:SH S w1 w' ((fwE fk σ.m E1++pickE σ.E rest).map fun e=>e.2.ck (θ++η) e.1):=by
      have h4:SH S w1 w' (E1.map (fun e=>e.2.ck (thz p mk++η) e.1)++(pickE σ.E rest).map fun e=>e.2.ck (θ++η) e.1):=by
        have h5:=@SH.map2 S w1 w' (Sum (Nat×En) (Nat×En)) (E1.map Sum.inl++(pickE σ.E rest).map Sum.inr) (fun s=>match s with | .inl e=>e.2.ck (thz p mk++η) e.1 | .inr e=>e.2.ck θ e.1) (fun s=>match s with | .inl e=>e.2.ck (thz p mk++η) e.1 | .inr e=>e.2.ck (θ++η) e.1) (by
          rw[List.map_append,List.map_map,List.map_map]
          exact hcall) (fun e he hp => by
            cases e with
            | inl e=>exact⟨rfl,fun _ h=>h⟩
            | inr e=>exact En.ck_ext hp)
        rw[List.map_append,List.map_map,List.map_map] at h5
        exact h5
      have h6 : (fwE fk σ.m E1).map (fun e => e.2.ck (θ ++ η) e.1) = E1.map fun e => e.2.ck (thz p mk ++ η) e.1 := by
        rw[Yey,List.map_map]
        refine List.map_congr_left fun e _=>?_
        rw[←h.len]
        exact En.fw_ck hnm e.2 e.1
      rw[List.map_append,h6]
      exact h4
    have hcon:conL (θ++η) (fwL fk σ.m res)=some us':=by
      rw[←h.len,Qsp hnm]
      exact hc'
    refine hK η _ w' ⟨by rw[List.length_append,h.len,hη];rfl,(h.env.ext (θ':=η)).back (h.env.env.put hd (pack us')) (Ydk hcon) hd,S,w1,hh.k0,hh.sub,hfin,fun e he=>?_⟩ hg0
    rcases List.mem_append.1 he with he | he
    · rw [Yey] at he
      obtain⟨e0,he0,rfl⟩:=List.mem_map.1 he
      have:=Q0n hE1 e0 he0
      obtain⟨r0,e0⟩:=e0
      cases e0<;>first | trivial | cases this
    · have : some e ∈ rest.map (nthE σ.E) := by rw [hrest]; exact List.mem_map.2 ⟨e, he, rfl⟩
      obtain⟨i,_,hi⟩:=List.mem_map.1 this
      exact En.ok_ext (hh.ok e (List.mem_of_getElem? (Qky hi)))
end
theorem Run.loopM {c:Cx} {res:List Re} {σ:St} {b:Code} {k:List It} {ι τ:Type} {T:τ} (F:ι→τ) (st:ι→St) (inv:ι→Prop) (μ:ι→Nat) (i0:ι) (f is:List Nat) (hp:T=F i0) (h0:inv i0) (hs:Sub f is σ (st i0)) (hn:is.Nodup)
  (body: ∀ i,inv i→T=F i→Run c res (st i) (.code b :: .goal (Ynz c st (fun _=>res) (fun i=>inv i∧T=F i) μ i)::k)):Run c res σ (.code (.loop b)::k):=
 Run.loop st (fun _=>res) (fun i=>inv i∧T=F i) μ i0 f is rfl ⟨h0,hp⟩ hs hn fun i hi=>body i hi.1 hi.2
theorem Run.loopkM {c:Cx} {res:List Re} {σ:St} {b:Code} {id:Nat} {k:List It} {ι κ τ:Type} {T:τ} {K:κ→τ} (F:(κ→τ)→ι→τ) (st:ι→St) (inv:ι→Prop) (μ:ι→Nat) (stK:κ→St) (invK:κ→Prop) (i0:ι) (f is:List Nat)
  (hp:T=F K i0) (h0:inv i0) (hs:Sub f is σ (st i0)) (hn:is.Nodup)
  (hk: ∀ e,invK e→T=K e→Run c res (stK e) k)
  (body: ∀ K:κ→τ,(∀ e,invK e→T=K e→Run c res (stK e) k)→ ∀ i,inv i→T=F K i→Run c res (st i) (.code b :: .goal (Ynz c st (fun _=>res) (fun i=>inv i∧T=F K i) μ i) :: .blk id::k)):
  Run c res σ (.code (.loop b) :: .blk id::k):=
 Run.loop st (fun _=>res) (fun i=>inv i∧T=F K i) μ i0 f is rfl ⟨h0,hp⟩ hs hn fun i hi=>body K hk i hi.1 hi.2
theorem Run.exitkM {c:Cx} {res:List Re} {σ:St} {k:List It} {κ τ:Type} {T:τ} {K:κ→τ} {stK:κ→St} {invK:κ→Prop} (hk: ∀ e,invK e→T=K e→Run c res (stK e) k) (e:κ) (f is:List Nat) (hp:T=K e) (hi:invK e) (hs:Sub f is σ (stK e)) (hn:is.Nodup):Run c res σ k:=Run.sub f is _ hs hn (hk e hi hp)
theorem Run.cg {c:Cx} {res:List Re} {σ σ':St} {k:List It} (hs:σ=σ') (h:Run c res σ' k):Run c res σ k:=by rw[hs];exact h
end
section
theorem Yp9 (s:ByteArray) (l h:Nat):(cutS s l h).size≤s.size:=by
 unfold cutS
 rw[ByteArray.size_extract]
 omega
theorem Qld {s:ByteArray} {l h:Nat} (hs:s.size≤9223372036854775807):Dat.good (cutS s l h):=Nat.le_trans (Yp9 s l h) hs
theorem Yk8 {xs:List ByteArray} (h:Dat.good xs) (k:Nat):(nth xs k).size≤maxLen:=by
 rcases Nat.lt_or_ge k xs.length with hk | hk
 ·exact Qan h hk
 ·unfold nth
  rw[List.getD_eq_getElem?_getD,List.getElem?_eq_none hk]
  exact Nat.zero_le _
def GE (g:Nat) (w:World):Prop:= ∃ te pe,w.cell? ⟨g,0,none⟩=some (.iface te pe)
theorem GE.lt {g:Nat} {w:World} (h:GE g w):g<w.heap.size:=by
 obtain⟨te,pe,h⟩:=h
 exact World.block_lt_of_cell? _ _ h
theorem GE.keep {g:Nat} {w w':World} (h:GE g w) (hk:Keep (Old w) w w'):GE g w':=by
 have hl:=h.lt
 obtain⟨te,pe,h⟩:=h
 refine⟨te,pe,?_⟩
 rw[←h]
 unfold World.cell?
 rw[show w'.heap[(⟨g,0,none⟩:Addr).block]?=w.heap[(⟨g,0,none⟩:Addr).block]? from hk.block g hl]
def Yfl (ok:Bool) (u:Value):Prop:=match ok with
 | true=>u= .nilIface
 | false=> ∃ t v,u= .iface t v
def CTE (P:Program) (G:World→Prop) (f:FuncId) (args:List Arg) (res:Value→List Re) (ok:Bool):Prop:=
 ∀ (w:World) (vs:List Value),G w→Yar w vs args→Calls P f vs.toArray w (fun e w'=> ∃ u,Yfl ok u∧ ∃ v,e= .returned v∧ResR (Old w) w w' v (res u))
theorem Run.callE {c:Cx} {R0:List Re} {res:Value→List Re} {ok:Bool} {σ:St} {k:List It} {f:FuncId} {x:Operand} {cs:List V} {xs:Array Operand} {ts:Array TypeId} {ty:TypeId} {pos:String} {after:Array Edge} {d:Nat} {r:List Oper} {all:Array Oper} {args:List Arg} {vs:List V}
    (hct:CTE c.P c.G f args res ok) (hfn:FnOk c.P f) (hx:ev σ.ρ x=some (.fn f cs)) (hev:evs σ.ρ xs.toList=some vs) (hargs:Qli σ.E (vs++cs) args) (hd:Nat.blt d σ.n=true)
    (hk: ∀ u,Yfl ok u→Run c R0 (Qch σ d (res u)) (.ops r all::k)):
    Run c R0 σ (.ops (⟨some d,.call { callee:= .value x,args:=xs,argTypes:=ts },ty,pos,after,none⟩::r) all::k):=by
  intro θ a w h
  rw[Qoc]
  obtain⟨us,hus,hm⟩:=h.env.evsL hev
  obtain⟨S,w1,hh⟩:=h.heap
  obtain⟨fn,hf,hb,hn⟩:=hfn
  have hn': ¬ fn.name= "runtime.NumGoroutine" := by simpa using hn
  have hb': ¬ fn.body=none:=by intro e;rw[e] at hb;cases hb
  have hc:=h.env.con hx
  simp only[V.con,Option.map_eq_some_iff] at hc
  obtain⟨capt,hcapt,hfv⟩:=hc
  refine wpList_plain rfl fun K hK=>?_
  have hmm:xs.map a.eval=us.toArray:=by
    apply Array.toList_inj.1
    rw[Array.toList_map,Fw.evals h.env.env hm]
  unfold Oper.wp
  have:(execOp a.eval ⟨some d,.call { callee:= .value x,args:=xs,argTypes:=ts },ty,pos,after,none⟩).run c.P w= .ok (.enter f (us++capt).toArray) w:=by
    simp[execOp,resolve,hmm,←hfv,Deferred.ofValue,invoke,callFunc,hf,hn',hb']
  rw[this,Oper.upon_enter]
  refine(hct w (us++capt) h.g (hh.argsOk (Qnb hus hcapt) hargs)).mono fun e w' hr=>?_
  obtain⟨u,hu,v,rfl,hR⟩:=hr
  have hE':Env σ.n ((d,v)::selfρ a) (a.put (some d) v):=h.env.env.put hd v
  obtain⟨η,hR'⟩:=h.res' hR hd hE'
  exact hK _ _ (hk u hu (θ++η) _ w' hR')
section
variable {P:Program} {n:Nat} {ρ:List (Nat×Value)} {a:Act} {w:World} {ty:TypeId}
theorem Yph (hE:Env n ρ a) {x:Operand} {t t':Nat} {u:Value} {ok:Bool} (hx:ev? ρ x=some u) (hu:Yfl ok u) (ht:P.underlying t=some (.interface (P.methodsAt t))):
  Qcg P a w (.binOp .neq t x (.const .nilIface) t') ty (.bool (!ok)):=by
 intro _ _ _ _
 have e:=hE.eval hx
 have e2:a.eval (.const .nilIface)= .nilIface:=rfl
 cases ok with
 | true =>
  cases hu
  have:=run_neq_nil_nil (P:=P) w t ht
  simp only[execOp,e,e2]
  simp[eqGuard,this]
 | false =>
  obtain⟨t1,v,rfl⟩:=hu
  have:=run_neq_held_nil (P:=P) w t t1 v ht
  simp only[execOp,e,e2]
  simp[eqGuard,this]
end
section
variable {c:Cx} {σ:St} {all:Array Oper} {ty:TypeId} {pos:String} {after:Array Edge} {d:Nat}
theorem OpS.errne {t t':Nat} {x:Operand} {u:Value} {ok:Bool} (hx:ev σ.ρ x=some (.v u)) (hu:Yfl ok u) (ht:c.P.underlying t=some (.interface (c.P.methodsAt t))) (hd:Nat.blt d σ.n=true):
  OpS c σ all ⟨some d,.binOp .neq t x (.const .nilIface) t',ty,pos,after,none⟩ (put d (.v (.bool (!ok))) σ):=
 OpS.of fun θ a w h K Q hK => by
  unfold Oper.wp
  rw[Yph (P:=c.P) (w:=w) (ty:=ty) h.env.env (h.env.isv hx) hu ht]
  exact hK [] _ _ (h.put hd rfl).app0
theorem OpS.remG {t t':Nat} {x y:Operand} {k:IntKind} {i i2:Int} {j:Nat} {want B:Bool} (hB:gB σ.ρ all j want=some B) (hx:evG σ.ρ x=some (.v (.int k i))) (hy:evG σ.ρ y=some (.v (.int k i2))) (hside:B=true→Qfp B True σ.ρ [x,y]) (hj:B=true→i2≠0) (hd:Nat.blt d σ.n=true):
    OpS c σ all ⟨some d,.binOp .rem t x y t',ty,pos,after,some (j,want)⟩ (put d (.gd B (.v (.int k (i.tmod i2)))) σ):=
  OpS.valG hB (fun hb θ a w h => by
    have h1:=Qgw h.env hb (hside hb) x (by simp) _ hx
    have h2:=Qgw h.env hb (hside hb) y (by simp) _ hy
    have e1:ev? (selfρ a) x=some (.int k i):=by rw[h1.2,←h1.1];rfl
    have e2:ev? (selfρ a) y=some (.int k i2):=by rw[h2.2,←h2.1];rfl
    exact Ymh h.env.env e1 e2 (hj hb)) hd
end
end
section
def setV (v:V):List V→Nat→List V
 | [],_=>[]
 | x::r,j=>bif Nat.beq j 0 then v::r else x::setV v r (Nat.pred j)
def nthV:List V→Nat→Option V
 | [],_=>none
 | x::r,j=>bif Nat.beq j 0 then some x else nthV r (Nat.pred j)
theorem Yfw {θ:List Loc} {v u:V} (hv:v.con θ=u.con θ): ∀ {cs:List V} {j:Nat},nthV cs j=some u→conL θ (setV v cs j)=conL θ cs
 | [],_,h=>by cases h
 | x :: r, j, h => by
  simp only[nthV,setV] at h ⊢
  cases hb:Nat.beq j 0 with
  | true=>rw[hb] at h;cases h;simp only[cond,conL,hv]
  | false=>rw[hb] at h;simp only[cond,conL];rw[Yfw hv h]
theorem Run.nilC {c:Cx} {res:List Re} {σ:St} {k:List It} (r j:Nat) {α:Type} {d:Dat α} {cs:List V} {T:TypeId} (hl:lkE σ.E r=some (.var cs T)) (hj:nthV cs j=some (.v (.slice none 0 0))) (h:Run c res ⟨σ.n,σ.m+1,σ.ρ,(σ.m,.own α d [])::putE r (r,.var (setV (.sl σ.m 0) cs j) T) σ.E⟩ k):Run c res σ k:=by
 intro θ a w hR
 obtain⟨S,w1,hh⟩:=hR.heap
 have hg:(θ++[(⟨none,0,[]⟩:Loc)])[σ.m]?=some ⟨none,0,[]⟩:=by rw[←hR.len];exact Qfa
 have hv:(V.sl σ.m 0).con (θ++[(⟨none,0,[]⟩:Loc)])=(V.v (.slice none 0 0)).con (θ++[(⟨none,0,[]⟩:Loc)]):=by simp only[V.con,hg]
 refine h (θ++[⟨none,0,[]⟩]) a w ⟨by rw[List.length_append,hR.len];rfl,hR.env.ext,S,w1,?_⟩
 have hck:(En.var (setV (.sl σ.m 0) cs j) T).ck (θ++[⟨none,0,[]⟩]) r=(En.var cs T).ck (θ++[⟨none,0,[]⟩]) r:=by simp only[En.ck,Yfw hv hj]
 obtain⟨i,hi,_⟩:=Qm3 hl
 have hex:=hh.ext (θ':=[⟨none,0,[]⟩])
 have hLi:(σ.E.map fun e=>e.2.ck (θ++[⟨none,0,[]⟩]) e.1)[i]?=some ((En.var cs T).ck (θ++[⟨none,0,[]⟩]) r):=by rw[List.getElem?_map,hi];rfl
 have h1:RH c (θ++[⟨none,0,[]⟩]) (putE r (r,.var (setV (.sl σ.m 0) cs j) T) σ.E) S w1 w:=by
  refine hex.turn hl rfl rfl rfl (Nat.le_refl _) (fun _ _ _=>rfl) ?_ ?_ ?_ trivial
  ·show Ck.ok _ _
   rw[show((r,En.var (setV (.sl σ.m 0) cs j) T).2.ck (θ++[⟨none,0,[]⟩]) (r,En.var (setV (.sl σ.m 0) cs j) T).1)=_ from hck]
   exact hex.sh.ok _ (List.mem_of_getElem? hLi)
  ·intro b hb
   rw[show((r,En.var (setV (.sl σ.m 0) cs j) T).2.ck (θ++[⟨none,0,[]⟩]) (r,En.var (setV (.sl σ.m 0) cs j) T).1)=_ from hck] at hb
   exact⟨.inl hb,(hex.sh.ge _ (List.mem_of_getElem? hLi) b hb).2⟩
  ·rw[show((r,En.var (setV (.sl σ.m 0) cs j) T).2.ck (θ++[⟨none,0,[]⟩]) (r,En.var (setV (.sl σ.m 0) cs j) T).1)=_ from hck]
   exact hex.sh.nd hLi
 refine h1.new (Below.refl _ _) (r:=σ.m) (e:= .own α d []) ?_ ?_ ?_ trivial
 ·intro w2 _
  exact⟨_,hg,Q9a⟩
 ·intro b hb
  have hb':b∈locF (θ++[(⟨none,0,[]⟩:Loc)]) σ.m:=hb
  rw[Qai hg] at hb'
  cases hb'
 ·show(locF _ σ.m).Nodup
  rw[Qai hg]
  exact List.nodup_nil
theorem Run.gd {c:Cx} {res:List Re} {σ:St} {k:List It} (r:Nat) {α:Type} {d:Dat α} {xs:List α} (hp:payE σ.E r=some ⟨α,d,xs⟩) (h:(@instDatList α d).good xs→Run c res σ k):Run c res σ k:=by
 intro θ a w hR
 obtain⟨S,w1,hh⟩:=hR.heap
 refine h ?_ θ a w hR
 rcases Q0b hp with he | he
 ·obtain⟨l,hl,ho⟩:=hh.own he
  exact Dat.rd_good (α:=List α) (B:=fun _=>True) (w:=w) (cs:=[_]) ⟨_,rfl,ho.rd fun _ _=>trivial⟩
 ·obtain⟨l,hl,ho⟩:=hh.ok _ (Qej he)
  exact Dat.rd_good (α:=List α) (B:=S) (w:=w1) (cs:=[_]) ⟨_,rfl,ho⟩
def Qo9 {α:Type}:List (Fk α)→Bool
 | []=>true
 | .int _::r=>Qo9 r
 | .byte _::r=>Qo9 r
 | .bool _::r=>Qo9 r
 | .str _::r=>Qo9 r
 | .sl _ _ _::_=>false
theorem Ygf {α:Type} {S:Nat→Prop} {w w':World} {x:α}: ∀ {fs:List (Fk α)} {cs:List Value},Qo9 fs=true→RdL S w x fs cs→OwL w' x fs cs []
 | [],_,_,h=>⟨h,rfl⟩
 | f :: fs, _, hf, ⟨v, r, e, hv, hr⟩ => by
  refine⟨v,r,[],[],e,rfl,?_,?_⟩
  ·cases f<;>first | exact⟨hv,rfl⟩ | cases hf
  ·exact Ygf (by cases f<;>first | exact hf | cases hf) hr
theorem Yge {α:Type} [d:Dat α] (s:Str α) (hf:Qo9 s.fk=true) {S:Nat→Prop} {w w':World} {cs:List Value} {x:α} (h:Dat.rd S w cs x):Dat.own w' cs x []:=s.omk (Ygf hf (s.op h))
theorem Ylm {α:Type} [d:Dat α] (s:Str α) (hf:Qo9 s.fk=true) {S:Nat→Prop} {w:World}: ∀ {xs:List α} {a:Addr},(∀ i x,xs[i]?=some x→ ∃ cs,Dat.rd S w cs x∧Qca w (a.add (i*Dat.sz α)) cs)→
  ∃ news:List Value,Qca w a news∧news.length=xs.length*Dat.sz α∧(∀ u∈news,u.oneCell'=true)∧ ∀ i x,xs[i]?=some x→Dat.own w (cut (Dat.sz α) news i) x []:=by
 intro xs
 induction xs with
 | nil=>intro a _;exact⟨[],(fun j u h=>by simp at h),by simp,(fun u h=>by cases h),(fun i x h=>by simp at h)⟩
 | cons x xs ih =>
  intro a h
  obtain⟨cs,hr,hc⟩:=h 0 x rfl
  rw[Nat.zero_mul,Addr.add_zero'] at hc
  have hl:cs.length=Dat.sz α:=Dat.rd_len hr
  obtain ⟨news, n1, n2, n3, n4⟩ := ih (a := a.add (Dat.sz α)) fun i y hi => by
   obtain⟨ds,h1,h2⟩:=h (i+1) y (by simpa using hi)
   refine⟨ds,h1,?_⟩
   rw[Qmb]
   rwa [Nat.add_mul,Nat.one_mul,Nat.add_comm] at h2
  refine⟨cs++news,fun j u hj=>?_,by rw[List.length_append,n2,hl,List.length_cons,Nat.add_mul,Nat.one_mul,Nat.add_comm],fun u hu=>(List.mem_append.1 hu).elim (Dat.rd_one hr u) (n3 u),fun i y hi=>?_⟩
  ·rcases Nat.lt_or_ge j cs.length with h1 | h1
   ·rw[List.getElem?_append_left h1] at hj
    exact hc j u hj
   ·rw[List.getElem?_append_right h1] at hj
    have:=n1 _ u hj
    rwa [Qmb,hl,show Dat.sz α+(j - Dat.sz α)=j by omega] at this
  ·cases i with
   | zero =>
    simp at hi
    subst hi
    have:cut (Dat.sz α) (cs++news) 0=cs:=by unfold cut;simp[←hl]
    rw[this]
    exact Yge s hf hr
   | succ i =>
    have:=n4 i y (by simpa using hi)
    have e:cut (Dat.sz α) (cs++news) (i+1)=cut (Dat.sz α) news i:=by
     unfold cut
     rw[List.drop_append,List.drop_eq_nil_of_le (by rw[hl,Nat.add_mul];omega),List.nil_append,hl,Nat.add_mul,Nat.one_mul,Nat.add_sub_cancel]
    rw[e]
    exact this
theorem SlR.src {α:Type} [d:Dat α] (s:Str α) (hf:Qo9 s.fk=true) {S:Nat→Prop} {w:World} {u:Value} {xs:List α} (h:SlR S w u xs):
  ∃ news:List Value,Src w u xs.length news∧news.length=xs.length*Dat.sz α∧(∀ v∈news,v.oneCell'=true)∧Qi6 w news xs (List.replicate xs.length []):=by
 obtain⟨A,cap,rfl,h1,h2,h3⟩:=h
 by_cases hx:xs=[]
 ·subst hx
  exact⟨[],⟨A,cap,rfl,(fun j u h=>by simp at h)⟩,by simp,(fun u h=>by cases h),⟨by simp,(fun i x h=>by simp at h)⟩⟩
 ·obtain⟨ad,rfl,_,hc⟩:=h3 hx
  obtain⟨news,n1,n2,n3,n4⟩:=Ylm s hf hc
  exact⟨news,⟨some ad,cap,rfl,fun j u hj=>⟨ad,rfl,n1 j u hj⟩⟩,n2,n3,⟨by simp,fun i x hi=>⟨[],by rw[List.getElem?_replicate,if_pos (List.getElem?_eq_some_iff.1 hi).1],n4 i x hi⟩⟩⟩
section
variable {c:Cx} {σ:St} {all:Array Oper} {ty:TypeId} {pos:String} {after:Array Edge} {d:Nat}
def XRow (E:List (Nat×En)) (α:Type) (dα:Dat α) (xs:List α) (rs:List Nat):V→Prop
 | .v x=>x= .slice none 0 0∧xs=[]∧rs=[]
 | .sl r len=>len=xs.length∧Qm4 E r=some ⟨α,dα,xs⟩∧rs=[r]
 | _=>False
theorem RH.xrow {θ:List Loc} {E:List (Nat×En)} {S:Nat→Prop} {w1 w:World} (h:RH c θ E S w1 w) {α:Type} {dα:Dat α} {xs:List α} {rs:List Nat} {v:V} (hx:XRow E α dα xs rs v) {u:Value} (hu:v.con θ=some u):SlO w u xs (rs.flatMap (locF θ))∧ ∀ n∈rs,ownN E n:=by
 cases v with
 | v x=>obtain⟨rfl,rfl,rfl⟩:=hx;cases hu;exact⟨Q9a,fun n hn=>by cases hn⟩
 | sl r len =>
  obtain⟨rfl,hp,rfl⟩:=hx
  obtain⟨l,hl,ho⟩:=h.own (Qkq hp)
  simp only[V.con,hl] at hu
  cases hu
  refine⟨by simpa [Qai hl] using ho,fun n hn=>?_⟩
  obtain rfl:=List.mem_singleton.1 hn
  exact⟨_,hp⟩
 | pt=>exact hx.elim
 | ag=>exact hx.elim
 | fn=>exact hx.elim
 | tu=>exact hx.elim
 | gd=>exact hx.elim
def Qen {α:Type} (σ:St) (d:Nat) (dα:Dat α) (zs:List α) (ns:List Nat):St:=⟨σ.n,σ.m+1,(d,.sl σ.m zs.length)::σ.ρ,(σ.m,.own α dα zs)::Qgn ns σ.E⟩
theorem Ygo {α:Type} {dα:Dat α} {t e by':Nat} {x y:Operand} {z u v:Value} {xs ys:List α} {rs ns:List Nat} {θ:List Loc} {a:Act} {w w1:World} {S:Nat→Prop} {Q:Exit→Act→World→Prop} {K:Act→World→Prop} (h:R c θ σ a w) (hh:RH c θ σ.E S w1 w) (hex:a.eval x=u) (hey:a.eval y=v)
    (ho:SlO w u xs (rs.flatMap (locF θ))) (hrs: ∀ n∈rs++ns,ownN σ.E n) (hnd:(rs++ns).Nodup)
    (hti:(TI.sl e (Dat.sz α) by').chk c.P t=true) (hz:c.zr e=some z) (hzs:z.cells.size=Dat.sz α) (hd:Nat.blt d σ.n=true) {news:List Value} {Gs:List (List Nat)} (hs:Src w v ys.length news) (hl:news.length=ys.length*Dat.sz α) (h1: ∀ u∈news,u.oneCell'=true) (hy:Qi6 w news ys Gs) (hG:Gs.flatten=ns.flatMap (locF θ))
    (hb:(xs.length+ys.length)*by'≤140737488355328) (hm:xs.length+ys.length≤9223372036854775807)
    (hK: ∀ θ' a' w',R c (θ++θ') (Qen σ d dα (xs++ys) (rs++ns)) a' w'→K a' w'):Oper.wp c.P ⟨some d,.call { callee:= .builtin .append,args:= #[x,y],argTypes:= #[t,t] },ty,pos,after,none⟩ a w K Q:=by
  simp only[TI.chk,Bool.and_eq_true] at hti
  obtain⟨hnod,_⟩:=hh.nodup hnd hrs
  rw[List.flatMap_append] at hnod
  obtain⟨nd1,nd2,nd3⟩:=List.nodup_append.1 hnod
  obtain⟨v',w',F',hrun,h3,h4,h5,h6,h7,h8,h9,h10⟩:=Qr7 (P:=c.P) (ty:=ty) hti.2 rfl (c.zok e z hz) hzs ho nd1 hs hl h1 hy (by rw[hG];exact nd2) (by rw[hG];exact fun b hb hF=>nd3 b hF b hb rfl) hb (by unfold maxLen;omega)
  unfold Oper.wp
  rw[Yl5 hex hey hrun]
  obtain⟨A,cap,rfl,_⟩:=(h3.rd (B:=Old w') fun b hb=>h3.lt b hb).form
  have hgm:(θ++[(⟨A,cap,F'⟩:Loc)])[σ.m]?=some ⟨A,cap,F'⟩:=by rw[←h.len];exact Qfa
  have hFt : ∀ b, b ∈ (rs ++ ns).flatMap (locF θ) → b ∈ (Qme (rs ++ ns) σ.E).flatMap (fun e => (e.2.ck (θ ++ [⟨A, cap, F'⟩]) e.1).F) := fun b hb => by
    obtain⟨n,hn,hb⟩:=List.mem_flatMap.1 hb
    exact Qny hn (hrs n hn) (by
      obtain⟨⟨α',d',xs'⟩,hp⟩:=hrs n hn
      obtain⟨l2,hl2,_⟩:=hh.own (Qkq hp)
      rw[Qai (Qd7 hl2)]
      rwa [Qai hl2] at hb)
  rw[List.flatMap_append] at hFt
  have hfuse:=(hh.ext (θ':=[⟨A,cap,F'⟩])).fuse (rs++ns) (p:=(σ.m,En.own α dα (xs++ys))) (w':=w') h5 h6 h7 h8
    (fun b hlt hb=>h9 b hlt fun hF=>hb (hFt b (List.mem_append_left _ hF))) ?_ ?_ ?_ trivial
  · exact hK [⟨A,cap,F'⟩] _ w' ⟨by rw[List.length_append,h.len];rfl,(h.env.ext (θ':=[⟨A,cap,F'⟩])).put hd (by simp only[V.con,hgm]),S,w1,hfuse⟩
  · intro w2 hw2
    refine⟨_,hgm,h3.same fun b hb=>hw2 b ?_⟩
    show b∈locF _ _
    rw[Qai hgm]
    exact hb
  · intro b hb
    have hb':b∈locF (θ++[(⟨A,cap,F'⟩:Loc)]) σ.m:=hb
    rw[Qai hgm] at hb'
    refine⟨?_,h3.lt b hb'⟩
    rcases h10 b hb' with h | h | h
    · exact .inl (hFt b (List.mem_append_left _ h))
    · rw [hG] at h
      exact .inl (hFt b (List.mem_append_right _ h))
    · exact .inr h
  · show (locF _ σ.m).Nodup
    rw[Qai hgm]
    exact h4
theorem OpS.appS {α:Type} {dα:Dat α} [s:@Str α dα] {t e by':Nat} {x y:Operand} {z:Value} {xs ys:List α} {rs:List Nat} {vx vy:V} (hx:ev σ.ρ x=some vx) (hr:XRow σ.E α dα xs rs vx) (hy:ev σ.ρ y=some vy) (hq:SlOk σ.E α dα ys vy) (hfl:Qo9 s.fk=true)
    (ht:c.ti t= .sl e (Dat.sz α) by') (hz:c.zr e=some z) (hzs:z.cells.size=Dat.sz α) (hd:Nat.blt d σ.n=true) (hb:(xs.length+ys.length)*by'≤140737488355328) (hm:xs.length+ys.length≤9223372036854775807):
    OpS c σ all ⟨some d,.call { callee:= .builtin .append,args:= #[x,y],argTypes:= #[t,t] },ty,pos,after,none⟩ (Qen σ d dα (xs++ys) rs):=
  OpS.of fun θ a w h K Q hK => by
    obtain⟨S,w1,hh⟩:=h.heap
    have hcx:=h.env.con hx
    have hcy:=h.env.con hy
    obtain⟨ho,hrs⟩:=hh.xrow hr hcx
    obtain⟨news,n1,n2,n3,n4⟩:=(hh.slOk hcy hq).src s hfl
    have hti:=c.tiok t
    rw[ht] at hti
    have hrn:(rs++([]:List Nat)).Nodup:=by
      rw[List.append_nil]
      cases vx with
      | v=>obtain⟨_,_,rfl⟩:=hr;exact List.nodup_nil
      | sl=>obtain⟨_,_,rfl⟩:=hr;simp
      | pt=>exact hr.elim
      | ag=>exact hr.elim
      | fn=>exact hr.elim
      | tu=>exact hr.elim
      | gd=>exact hr.elim
    refine Ygo (ns:=[]) h hh rfl rfl ho (by rw[List.append_nil];exact hrs) hrn hti hz hzs hd n1 n2 n3 n4 (by simp) hb hm fun θ' a' w' hR=>?_
    rw[List.append_nil] at hR
    exact hK θ' a' w' hR
theorem OpS.appN {α:Type} {dα:Dat α} [s:@Str α dα] {t e by' q T:Nat} {x y:Operand} {z:Value} {xs:List α} (y0:α) {rs:List Nat} {vx:V} {cs:List V} (hx:ev σ.ρ x=some vx) (hr:XRow σ.E α dα xs rs vx) (hy:ev σ.ρ y=some (.sl q 1)) (hq:lkE σ.E q=some (.lit cs T 1))
    (ht:c.ti t= .sl e (Dat.sz α) by') (hz:c.zr e=some z) (hzs:z.cells.size=Dat.sz α) (hd:Nat.blt d σ.n=true) (hg:Dat.good y0) (hf:FkO σ.E y0 s.fk cs) (h1:oneL cs=true) (hn:(rs++V.names.namesL cs).Nodup) (hb:(xs.length+1)*by'≤140737488355328) (hm:xs.length+1≤9223372036854775807):
    OpS c σ all ⟨some d,.call { callee:= .builtin .append,args:= #[x,y],argTypes:= #[t,t] },ty,pos,after,none⟩ (Qen σ d dα (xs++[y0]) (rs++V.names.namesL cs)):=
  OpS.of fun θ a w h K Q hK => by
    obtain⟨S,w1,hh⟩:=h.heap
    have hcx:=h.env.con hx
    obtain⟨ho,hrs⟩:=hh.xrow hr hcx
    obtain⟨lq,bq,ccs,⟨q1,q1'⟩,q2,q3,q4,q5⟩:=(hh.sh.ok _ (List.mem_map.2 ⟨_,Qej hq,rfl⟩)).here
    simp only at q1
    have hcy:=h.env.con hy
    simp only[V.con,q1,Option.some.injEq] at hcy
    have hy0:Dat.own w ccs y0 ((V.names.namesL cs).flatMap (locF θ)):=s.omk (hh.fkO q4 hf (s.gd hg))
    have hlen:ccs.length=Dat.sz α:=Dat.rd_len (Dat.own_rd (B:=fun _=>True) hy0 fun _ _=>trivial)
    have hti:=c.tiok t
    rw[ht] at hti
    have hsrc:Src w (.slice lq.A 1 lq.cap) 1 ccs:=⟨lq.A,lq.cap,rfl,fun j u hj=>⟨_,q2,(Qca.row q5) j u hj⟩⟩
    have hels : Qi6 w ccs [y0] [(V.names.namesL cs).flatMap (locF θ)] := ⟨rfl, fun i u hi => by
      cases i with
      | zero =>
        simp at hi
        subst hi
        refine⟨_,rfl,?_⟩
        have:Fw.cut (Dat.sz α) ccs 0=ccs:=by unfold Fw.cut;simp[←hlen]
        rw[this]
        exact hy0
      | succ i=>simp at hi⟩
    have hone: ∀ u∈ccs,u.oneCell'=true:=List.all_eq_true.1 (Q0c (θ:=θ) h1 q4)
    exact Ygo (ys:=[y0]) h hh rfl hcy.symm ho (fun n hn=>(List.mem_append.1 hn).elim (hrs n) (Qjz hf n)) hn hti hz hzs hd hsrc (by simp[hlen]) hone hels (by simp) hb hm hK
end
end
section
def Fk.pull {σ τ:Type} (f:σ→τ):Fk τ→Fk σ
 | .int g=> .int fun x=>g (f x)
 | .byte g=> .byte fun x=>g (f x)
 | .bool g=> .bool fun x=>g (f x)
 | .str g=> .str fun x=>g (f x)
 | .sl β d g=> .sl β d fun x=>g (f x)
theorem Qlv {σ τ:Type} (f:σ→τ) {S:Nat→Prop} {w:World} {x:σ}: ∀ {fk:List (Fk τ)} {cs:List Value},RdL S w x (fk.map (Fk.pull f)) cs↔RdL S w (f x) fk cs
 | [],_=>Iff.rfl
 | g :: fs, cs => by
  have key: ∀ v,(Fk.pull f g).rd S w x v↔g.rd S w (f x) v:=fun v=>by cases g<;>exact Iff.rfl
  constructor
  ·rintro ⟨v,r,rfl,h1,h2⟩;exact⟨v,r,rfl,(key v).1 h1,(Qlv f).1 h2⟩
  ·rintro ⟨v,r,rfl,h1,h2⟩;exact⟨v,r,rfl,(key v).2 h1,(Qlv f).2 h2⟩
theorem Qlw {σ τ:Type} (f:σ→τ) {w:World} {x:σ}: ∀ {fk:List (Fk τ)} {cs:List Value} {F:List Nat},OwL w x (fk.map (Fk.pull f)) cs F↔OwL w (f x) fk cs F
 | [],_,_=>Iff.rfl
 | g :: fs, cs, F => by
  have key: ∀ v G,(Fk.pull f g).own w x v G↔g.own w (f x) v G:=fun v G=>by cases g<;>exact Iff.rfl
  constructor
  ·rintro ⟨v,r,G,H,rfl,rfl,h1,h2⟩;exact⟨v,r,G,H,rfl,rfl,(key v G).1 h1,(Qlw f).1 h2⟩
  ·rintro ⟨v,r,G,H,rfl,rfl,h1,h2⟩;exact⟨v,r,G,H,rfl,rfl,(key v G).2 h1,(Qlw f).2 h2⟩
theorem Qzz {σ τ:Type} (f:σ→τ) {x:σ}: ∀ {fk:List (Fk τ)},GdL (f x) fk→GdL x (fk.map (Fk.pull f))
 | [],h=>h
 | g::fs,h=>⟨by cases g<;>exact h.1,Qzz f h.2⟩
theorem Yag {α:Type} {S:Nat→Prop} {w:World} {x:α}: ∀ {f g:List (Fk α)} {cs:List Value},RdL S w x (f++g) cs ↔ ∃ c d,cs=c++d∧RdL S w x f c∧RdL S w x g d
 | [],g,cs=>⟨fun h=>⟨[],cs,rfl,rfl,h⟩,fun⟨c,d,e,h1,h2⟩=>by cases h1;rw[e];exact h2⟩
 | a :: f, g, cs => by
  constructor
  ·rintro ⟨v,r,rfl,h1,h2⟩
   obtain⟨c,d,rfl,h3,h4⟩:=Yag.1 h2
   exact⟨v::c,d,rfl,⟨v,c,rfl,h1,h3⟩,h4⟩
  ·rintro ⟨c,d,rfl,⟨v,r,rfl,h1,h2⟩,h4⟩
   exact⟨v,r++d,rfl,h1,Yag.2 ⟨r,d,rfl,h2,h4⟩⟩
theorem Yah {α:Type} {w:World} {x:α}: ∀ {f g:List (Fk α)} {cs:List Value} {F:List Nat},OwL w x (f++g) cs F ↔ ∃ c d G H,cs=c++d∧F=G++H∧OwL w x f c G∧OwL w x g d H
 | [],g,cs,F=>⟨fun h=>⟨[],cs,[],F,rfl,rfl,⟨rfl,rfl⟩,h⟩,fun⟨c,d,G,H,e,e2,⟨h1,h1'⟩,h2⟩=>by subst h1;subst h1';rw[e,e2];exact h2⟩
 | a :: f, g, cs, F => by
  constructor
  ·rintro ⟨v,r,G,H,rfl,rfl,h1,h2⟩
   obtain⟨c,d,G',H',rfl,rfl,h3,h4⟩:=Yah.1 h2
   exact⟨v::c,d,G++G',H',rfl,by rw[List.append_assoc],⟨v,c,G,G',rfl,rfl,h1,h3⟩,h4⟩
  ·rintro ⟨c,d,G,H,rfl,rfl,⟨v,r,G',H',rfl,rfl,h1,h2⟩,h4⟩
   exact⟨v,r++d,G',H'++H,rfl,by rw[List.append_assoc],h1,Yah.2 ⟨r,d,H',H,rfl,rfl,h2,h4⟩⟩
theorem Yme {α:Type} {x:α}: ∀ {f g:List (Fk α)},GdL x f→GdL x g→GdL x (f++g)
 | [],_,_,h=>h
 | _::_,_,h,h'=>⟨h.1,Yme h.2 h'⟩
instance:Str Bool where
 fk:=[.bool id]
 op h:=⟨_,[],h.1,rfl,rfl⟩
 cl h:=by obtain⟨v,r,rfl,rfl,rfl⟩:=h;exact⟨rfl,trivial⟩
 oop h:=⟨_,[],[],[],h.1.1,by rw[h.2];rfl,⟨rfl,rfl⟩,rfl,rfl⟩
 omk h:=by obtain⟨v,r,G,H,rfl,rfl,⟨rfl,rfl⟩,rfl,rfl⟩:=h;exact⟨⟨rfl,trivial⟩,rfl⟩
 gd h:=⟨trivial,trivial⟩
instance {α β:Type} [Dat α] [Dat β] [Str α] [Str β]:Str (α×β) where
 fk:=(Str.fk (α:=α)).map (Fk.pull Prod.fst)++(Str.fk (α:=β)).map (Fk.pull Prod.snd)
 op h:=by
  obtain⟨c,d,rfl,h1,h2⟩:=h
  exact Yag.2 ⟨c,d,rfl,(Qlv _).2 (Str.op h1),(Qlv _).2 (Str.op h2)⟩
 cl h:=by
  obtain⟨c,d,rfl,h1,h2⟩:=Yag.1 h
  exact⟨c,d,rfl,Str.cl ((Qlv _).1 h1),Str.cl ((Qlv _).1 h2)⟩
 oop h:=by
  obtain⟨c,d,G,H,rfl,rfl,h1,h2⟩:=h
  exact Yah.2 ⟨c,d,G,H,rfl,rfl,(Qlw _).2 (Str.oop h1),(Qlw _).2 (Str.oop h2)⟩
 omk h:=by
  obtain⟨c,d,G,H,rfl,rfl,h1,h2⟩:=Yah.1 h
  exact⟨c,d,G,H,rfl,rfl,Str.omk ((Qlw _).1 h1),Str.omk ((Qlw _).1 h2)⟩
 gd h:=Yme (Qzz Prod.fst (Str.gd h.1)) (Qzz Prod.snd (Str.gd h.2))
theorem Qi8 {σ τ:Type} [d:Dat τ] [s:Str τ] (f:σ→τ) {S:Nat→Prop} {w:World} {cs:List Value} {x:σ} (h:@Dat.rd σ (Dat.pull f) S w cs x):RdL S w x (s.fk.map (Fk.pull f)) cs:=(Qlv f).2 (s.op h)
theorem Qja {σ τ:Type} [d:Dat τ] [s:Str τ] (f:σ→τ) {S:Nat→Prop} {w:World} {cs:List Value} {x:σ} (h:RdL S w x (s.fk.map (Fk.pull f)) cs):@Dat.rd σ (Dat.pull f) S w cs x:=s.cl ((Qlv f).1 h)
theorem Qhu {σ τ:Type} [d:Dat τ] [s:Str τ] (f:σ→τ) {w:World} {cs:List Value} {x:σ} {F:List Nat} (h:@Dat.own σ (Dat.pull f) w cs x F):OwL w x (s.fk.map (Fk.pull f)) cs F:=(Qlw f).2 (s.oop h)
theorem Qhv {σ τ:Type} [d:Dat τ] [s:Str τ] (f:σ→τ) {w:World} {cs:List Value} {x:σ} {F:List Nat} (h:OwL w x (s.fk.map (Fk.pull f)) cs F):@Dat.own σ (Dat.pull f) w cs x F:=s.omk ((Qlw f).1 h)
theorem Qi9 {σ τ:Type} [d:Dat τ] [s:Str τ] (f:σ→τ) {x:σ} (h:@Dat.good σ (Dat.pull f) x):GdL x (s.fk.map (Fk.pull f)):=Qzz f (s.gd h)
instance:Str Cell where
 fk:=[.str (fun x=>x.Key),.str (fun x=>x.Val)]
 op h:=Qi8 (fun x:Cell=>(x.Key,x.Val)) h
 cl h:=Qja (fun x:Cell=>(x.Key,x.Val)) h
 oop h:=Qhu (fun x:Cell=>(x.Key,x.Val)) h
 omk h:=Qhv (fun x:Cell=>(x.Key,x.Val)) h
 gd h:=Qi9 (fun x:Cell=>(x.Key,x.Val)) h
instance:Str Touch where
 fk:=[.sl ByteArray instDatByteArray (fun x=>x.Reads),.sl ByteArray instDatByteArray (fun x=>x.Writes)]
 op h:=Qi8 (fun x:Touch=>(x.Reads,x.Writes)) h
 cl h:=Qja (fun x:Touch=>(x.Reads,x.Writes)) h
 oop h:=Qhu (fun x:Touch=>(x.Reads,x.Writes)) h
 omk h:=Qhv (fun x:Touch=>(x.Reads,x.Writes)) h
 gd h:=Qi9 (fun x:Touch=>(x.Reads,x.Writes)) h
instance:Str Mach where
 fk:=[.sl Cell instDatCell (fun x=>x.Store),.sl ByteArray instDatByteArray (fun x=>x.Touch.Reads),.sl ByteArray instDatByteArray (fun x=>x.Touch.Writes)]
 op h:=Qi8 (fun x:Mach=>(x.Store,x.Touch)) h
 cl h:=Qja (fun x:Mach=>(x.Store,x.Touch)) h
 oop h:=Qhu (fun x:Mach=>(x.Store,x.Touch)) h
 omk h:=Qhv (fun x:Mach=>(x.Store,x.Touch)) h
 gd h:=Qi9 (fun x:Mach=>(x.Store,x.Touch)) h
instance:Str Call where
 fk:=[.int (fun x=>x.Kind),.str (fun x=>x.Name),.str (fun x=>x.To),.int (fun x=>x.A),.int (fun x=>x.B),.str (fun x=>x.Text)]
 op h:=Qi8 (fun x:Call=>(x.Kind,x.Name,x.To,x.A,x.B,x.Text)) h
 cl h:=Qja (fun x:Call=>(x.Kind,x.Name,x.To,x.A,x.B,x.Text)) h
 oop h:=Qhu (fun x:Call=>(x.Kind,x.Name,x.To,x.A,x.B,x.Text)) h
 omk h:=Qhv (fun x:Call=>(x.Kind,x.Name,x.To,x.A,x.B,x.Text)) h
 gd h:=Qi9 (fun x:Call=>(x.Kind,x.Name,x.To,x.A,x.B,x.Text)) h
instance:Str Answer where
 fk:=[.int (fun x=>x.Code),.int (fun x=>x.N),.str (fun x=>x.Text)]
 op h:=Qi8 (fun x:Answer=>(x.Code,x.N,x.Text)) h
 cl h:=Qja (fun x:Answer=>(x.Code,x.N,x.Text)) h
 oop h:=Qhu (fun x:Answer=>(x.Code,x.N,x.Text)) h
 omk h:=Qhv (fun x:Answer=>(x.Code,x.N,x.Text)) h
 gd h:=Qi9 (fun x:Answer=>(x.Code,x.N,x.Text)) h
instance:Str Step where
 fk:=[.int (fun x=>x.Proc),.int (fun x=>x.Call.Kind),.str (fun x=>x.Call.Name),.str (fun x=>x.Call.To),.int (fun x=>x.Call.A),.int (fun x=>x.Call.B),.str (fun x=>x.Call.Text)]
 op h:=Qi8 (fun x:Step=>(x.Proc,x.Call)) h
 cl h:=Qja (fun x:Step=>(x.Proc,x.Call)) h
 oop h:=Qhu (fun x:Step=>(x.Proc,x.Call)) h
 omk h:=Qhv (fun x:Step=>(x.Proc,x.Call)) h
 gd h:=Qi9 (fun x:Step=>(x.Proc,x.Call)) h
instance:Str Tx where
 fk:=[.int (fun x=>x.Id),.int (fun x=>x.Age),.int (fun x=>x.Proc),.int (fun x=>x.Began),.sl Call instDatCall (fun x=>x.Calls),.sl Answer instDatAnswer (fun x=>x.Answers),.sl ByteArray instDatByteArray (fun x=>x.Touch.Reads),.sl ByteArray instDatByteArray (fun x=>x.Touch.Writes),.sl Int instDatInt (fun x=>x.Marks),.int (fun x=>x.State)]
 op h:=Qi8 (fun x:Tx=>(x.Id,x.Age,x.Proc,x.Began,x.Calls,x.Answers,x.Touch,x.Marks,x.State)) h
 cl h:=Qja (fun x:Tx=>(x.Id,x.Age,x.Proc,x.Began,x.Calls,x.Answers,x.Touch,x.Marks,x.State)) h
 oop h:=Qhu (fun x:Tx=>(x.Id,x.Age,x.Proc,x.Began,x.Calls,x.Answers,x.Touch,x.Marks,x.State)) h
 omk h:=Qhv (fun x:Tx=>(x.Id,x.Age,x.Proc,x.Began,x.Calls,x.Answers,x.Touch,x.Marks,x.State)) h
 gd h:=Qi9 (fun x:Tx=>(x.Id,x.Age,x.Proc,x.Began,x.Calls,x.Answers,x.Touch,x.Marks,x.State)) h
instance:Str Journal where
 fk:=[.str (fun x=>x.Text),.int (fun x=>x.Sure)]
 op h:=Qi8 (fun x:Journal=>(x.Text,x.Sure)) h
 cl h:=Qja (fun x:Journal=>(x.Text,x.Sure)) h
 oop h:=Qhu (fun x:Journal=>(x.Text,x.Sure)) h
 omk h:=Qhv (fun x:Journal=>(x.Text,x.Sure)) h
 gd h:=Qi9 (fun x:Journal=>(x.Text,x.Sure)) h
instance:Str Slot where
 fk:=[.int (fun x=>x.Seq),.sl Cell instDatCell (fun x=>x.Cells),.bool (fun x=>x.Whole)]
 op h:=Qi8 (fun x:Slot=>(x.Seq,x.Cells,x.Whole)) h
 cl h:=Qja (fun x:Slot=>(x.Seq,x.Cells,x.Whole)) h
 oop h:=Qhu (fun x:Slot=>(x.Seq,x.Cells,x.Whole)) h
 omk h:=Qhv (fun x:Slot=>(x.Seq,x.Cells,x.Whole)) h
 gd h:=Qi9 (fun x:Slot=>(x.Seq,x.Cells,x.Whole)) h
instance:Str Disk where
 fk:=[.sl Slot instDatSlot (fun x=>x.Slots),.str (fun x=>x.Journal.Text),.int (fun x=>x.Journal.Sure)]
 op h:=Qi8 (fun x:Disk=>(x.Slots,x.Journal)) h
 cl h:=Qja (fun x:Disk=>(x.Slots,x.Journal)) h
 oop h:=Qhu (fun x:Disk=>(x.Slots,x.Journal)) h
 omk h:=Qhv (fun x:Disk=>(x.Slots,x.Journal)) h
 gd h:=Qi9 (fun x:Disk=>(x.Slots,x.Journal)) h
instance:Str Entry where
 fk:=[.int (fun x=>x.Seq),.int (fun x=>x.Kind),.int (fun x=>x.Tx),.sl Step instDatStep (fun x=>x.Steps),.sl Answer instDatAnswer (fun x=>x.Answers),.int (fun x=>x.Began),.int (fun x=>x.Ended),.bool (fun x=>x.Laid)]
 op h:=Qi8 (fun x:Entry=>(x.Seq,x.Kind,x.Tx,x.Steps,x.Answers,x.Began,x.Ended,x.Laid)) h
 cl h:=Qja (fun x:Entry=>(x.Seq,x.Kind,x.Tx,x.Steps,x.Answers,x.Began,x.Ended,x.Laid)) h
 oop h:=Qhu (fun x:Entry=>(x.Seq,x.Kind,x.Tx,x.Steps,x.Answers,x.Began,x.Ended,x.Laid)) h
 omk h:=Qhv (fun x:Entry=>(x.Seq,x.Kind,x.Tx,x.Steps,x.Answers,x.Began,x.Ended,x.Laid)) h
 gd h:=Qi9 (fun x:Entry=>(x.Seq,x.Kind,x.Tx,x.Steps,x.Answers,x.Began,x.Ended,x.Laid)) h
instance:Str Kernel where
 fk:=[.sl Cell instDatCell (fun x=>x.Store),.sl Tx instDatTx (fun x=>x.Txs),.sl Slot instDatSlot (fun x=>x.Disk.Slots),.str (fun x=>x.Disk.Journal.Text),.int (fun x=>x.Disk.Journal.Sure),.int (fun x=>x.Seq),.int (fun x=>x.Next),.int (fun x=>x.Time),.sl Entry instDatEntry (fun x=>x.History),.sl ByteArray instDatByteArray (fun x=>x.Seen),.bool (fun x=>x.Room)]
 op h:=Qi8 (fun x:Kernel=>(x.Store,x.Txs,x.Disk,x.Seq,x.Next,x.Time,x.History,x.Seen,x.Room)) h
 cl h:=Qja (fun x:Kernel=>(x.Store,x.Txs,x.Disk,x.Seq,x.Next,x.Time,x.History,x.Seen,x.Room)) h
 oop h:=Qhu (fun x:Kernel=>(x.Store,x.Txs,x.Disk,x.Seq,x.Next,x.Time,x.History,x.Seen,x.Room)) h
 omk h:=Qhv (fun x:Kernel=>(x.Store,x.Txs,x.Disk,x.Seq,x.Next,x.Time,x.History,x.Seen,x.Room)) h
 gd h:=Qi9 (fun x:Kernel=>(x.Store,x.Txs,x.Disk,x.Seq,x.Next,x.Time,x.History,x.Seen,x.Room)) h
instance:Str Deed where
 fk:=[.int (fun x=>x.Kind),.int (fun x=>x.N),.int (fun x=>x.M),.int (fun x=>x.Call.Kind),.str (fun x=>x.Call.Name),.str (fun x=>x.Call.To),.int (fun x=>x.Call.A),.int (fun x=>x.Call.B),.str (fun x=>x.Call.Text)]
 op h:=Qi8 (fun x:Deed=>(x.Kind,x.N,x.M,x.Call)) h
 cl h:=Qja (fun x:Deed=>(x.Kind,x.N,x.M,x.Call)) h
 oop h:=Qhu (fun x:Deed=>(x.Kind,x.N,x.M,x.Call)) h
 omk h:=Qhv (fun x:Deed=>(x.Kind,x.N,x.M,x.Call)) h
 gd h:=Qi9 (fun x:Deed=>(x.Kind,x.N,x.M,x.Call)) h
end
section
def gl6:List Int:=[1,10,100,1000,10000,100000,1000000,10000000,100000000,1000000000,10000000000,100000000000,1000000000000,10000000000000,100000000000000,1000000000000000,10000000000000000,100000000000000000,1000000000000000000,10000000000000000000]
def gl7:List Int:=[0,1,28,2,29,14,24,3,30,22,20,15,25,17,4,8,31,27,13,23,21,19,16,7,26,12,18,6,11,5,10,9]
def gl8:List Int:=[0,1,56,2,57,49,28,3,61,58,42,50,38,29,17,4,62,47,59,36,45,43,51,22,53,39,33,30,24,18,12,5,63,55,48,27,60,41,37,16,46,35,44,21,52,32,23,11,54,26,40,15,34,20,31,10,25,14,19,9,13,8,7,6]
end
section
def lkT:List (Nat×TI)→Nat→TI
 | [],_=> .no
 | (k,i)::r,t=>bif Nat.beq k t then i else lkT r t
theorem Yn9 {P:Program}: ∀ {l:List (Nat×TI)},(l.all fun p=>p.2.chk P p.1)=true→ ∀ t,(lkT l t).chk P t=true
 | [],_,_=>rfl
 | (k, i) :: r, h, t => by
  simp only[List.all_cons,Bool.and_eq_true] at h
  simp only[lkT]
  cases e:Nat.beq k t with
  | true=>obtain rfl:=Nat.eq_of_beq_eq_true e;exact h.1
  | false=>exact Yn9 h.2 t
def lkZ:List (Nat×Value)→Nat→Option Value
 | [],_=>none
 | (k,i)::r,t=>bif Nat.beq k t then some i else lkZ r t
def ZOk (P:Program):List (Nat×Value)→Prop
 | []=>True
 | p::r=>(∀ w,(zeroValue p.1).run P w= .ok p.2 w)∧ZOk P r
theorem Yn8 {P:Program}: ∀ {l:List (Nat×Value)},ZOk P l→ ∀ t z,lkZ l t=some z→ ∀ w,(zeroValue t).run P w= .ok z w
 | [],_,_,_,h=>by cases h
 | (k, i) :: r, h, t, z, hz => by
  simp only[lkZ] at hz
  cases e:Nat.beq k t with
  | true=>obtain rfl:=Nat.eq_of_beq_eq_true e;rw[e] at hz;cases hz;exact h.1
  | false=>rw[e] at hz;exact Yn8 h.2 t z hz
def tiL:List (Nat×TI):=[(1,.one),
 (2,.int .i64),
 (3,.int .i64),
 (4,.bool),
 (5,.int .u8),
 (6,.int .u8),
 (7,.st 4 [(0,1),(1,1),(2,1),(3,1)]),
 (8,.st 4 [(0,1),(1,1),(2,1),(3,1)]),
 (9,.str),
 (10,.str),
 (11,.str),
 (12,.int .u64),
 (13,.st 2 [(0,1),(1,1)]),
 (14,.st 2 [(0,1),(1,1)]),
 (15,.one),
 (16,.one),
 (17,.one),
 (18,.st 1 [(0,1)]),
 (19,.st 1 [(0,1)]),
 (21,.int .i32),
 (22,.sl 92 2 32),
 (23,.sl 99 10 160),
 (24,.sl 168 3 40),
 (25,.st 2 [(0,1),(1,1)]),
 (26,.st 2 [(0,1),(1,1)]),
 (27,.st 3 [(0,1),(1,2)]),
 (28,.st 3 [(0,1),(1,2)]),
 (29,.sl 105 8 96),
 (30,.sl 9 1 16),
 (31,.st 11 [(0,1),(1,1),(2,3),(5,1),(6,1),(7,1),(8,1),(9,1),(10,1)]),
 (32,.st 11 [(0,1),(1,1),(2,3),(5,1),(6,1),(7,1),(8,1),(9,1),(10,1)]),
 (33,.one),
 (34,.one),
 (35,.sl 114 2 32),
 (36,.sl 119 10 160),
 (37,.sl 108 3 40),
 (38,.st 2 [(0,1),(1,1)]),
 (39,.st 3 [(0,1),(1,2)]),
 (40,.st 3 [(0,1),(1,2)]),
 (41,.sl 80 8 96),
 (42,.st 11 [(0,1),(1,1),(2,3),(5,1),(6,1),(7,1),(8,1),(9,1),(10,1)]),
 (43,.st 11 [(0,1),(1,1),(2,3),(5,1),(6,1),(7,1),(8,1),(9,1),(10,1)]),
 (44,.one),
 (45,.one),
 (46,.one),
 (47,.one),
 (48,.one),
 (49,.one),
 (50,.one),
 (51,.one),
 (52,.one),
 (53,.one),
 (54,.one),
 (55,.one),
 (56,.one),
 (57,.one),
 (58,.one),
 (59,.one),
 (61,.one),
 (62,.one),
 (63,.one),
 (64,.one),
 (65,.one),
 (66,.one),
 (67,.one),
 (68,.one),
 (69,.one),
 (70,.one),
 (71,.one),
 (72,.one),
 (73,.one),
 (74,.one),
 (75,.one),
 (76,.one),
 (77,.sl 151 7 80),
 (78,.sl 154 3 32),
 (79,.st 8 [(0,1),(1,1),(2,1),(3,1),(4,1),(5,1),(6,1),(7,1)]),
 (80,.st 8 [(0,1),(1,1),(2,1),(3,1),(4,1),(5,1),(6,1),(7,1)]),
 (81,.one),
 (82,.one),
 (83,.one),
 (84,.one),
 (85,.one),
 (86,.one),
 (87,.sl 3 1 8),
 (88,.one),
 (89,.one),
 (90,.one),
 (91,.st 2 [(0,1),(1,1)]),
 (92,.st 2 [(0,1),(1,1)]),
 (93,.one),
 (94,.sl 205 6 72),
 (95,.sl 207 3 32),
 (96,.st 2 [(0,1),(1,1)]),
 (97,.st 2 [(0,1),(1,1)]),
 (98,.st 10 [(0,1),(1,1),(2,1),(3,1),(4,1),(5,1),(6,2),(8,1),(9,1)]),
 (99,.st 10 [(0,1),(1,1),(2,1),(3,1),(4,1),(5,1),(6,2),(8,1),(9,1)]),
 (100,.one),
 (101,.one),
 (102,.one),
 (103,.sl 210 7 80),
 (104,.st 8 [(0,1),(1,1),(2,1),(3,1),(4,1),(5,1),(6,1),(7,1)]),
 (105,.st 8 [(0,1),(1,1),(2,1),(3,1),(4,1),(5,1),(6,1),(7,1)]),
 (106,.one),
 (107,.st 3 [(0,1),(1,1),(2,1)]),
 (108,.st 3 [(0,1),(1,1),(2,1)]),
 (109,.one),
 (110,.sl 35 1 24),
 (112,.one),
 (113,.one),
 (114,.st 2 [(0,1),(1,1)]),
 (115,.one),
 (116,.sl 149 6 72),
 (117,.st 2 [(0,1),(1,1)]),
 (118,.st 10 [(0,1),(1,1),(2,1),(3,1),(4,1),(5,1),(6,2),(8,1),(9,1)]),
 (119,.st 10 [(0,1),(1,1),(2,1),(3,1),(4,1),(5,1),(6,2),(8,1),(9,1)]),
 (120,.one),
 (121,.one),
 (122,.one),
 (123,.one),
 (124,.one),
 (125,.one),
 (126,.one),
 (127,.one),
 (128,.one),
 (129,.one),
 (130,.one),
 (131,.one),
 (132,.one),
 (133,.one),
 (134,.one),
 (135,.one),
 (137,.one),
 (138,.one),
 (139,.one),
 (140,.one),
 (141,.one),
 (142,.one),
 (143,.one),
 (144,.sl 5 1 1),
 (145,.one),
 (146,.one),
 (147,.one),
 (148,.st 6 [(0,1),(1,1),(2,1),(3,1),(4,1),(5,1)]),
 (149,.st 6 [(0,1),(1,1),(2,1),(3,1),(4,1),(5,1)]),
 (150,.st 7 [(0,1),(1,6)]),
 (151,.st 7 [(0,1),(1,6)]),
 (152,.one),
 (153,.st 3 [(0,1),(1,1),(2,1)]),
 (154,.st 3 [(0,1),(1,1),(2,1)]),
 (155,.one),
 (156,.one),
 (157,.one),
 (158,.one),
 (159,.one),
 (160,.one),
 (161,.one),
 (162,.one),
 (163,.one),
 (164,.one),
 (165,.one),
 (166,.one),
 (167,.st 3 [(0,1),(1,1),(2,1)]),
 (168,.st 3 [(0,1),(1,1),(2,1)]),
 (169,.one),
 (170,.one),
 (171,.one),
 (172,.one),
 (173,.one),
 (175,.one),
 (176,.one),
 (177,.one),
 (178,.one),
 (179,.one),
 (180,.one),
 (181,.one),
 (182,.one),
 (183,.one),
 (184,.one),
 (185,.one),
 (186,.one),
 (187,.one),
 (188,.one),
 (189,.one),
 (190,.one),
 (192,.one),
 (193,.one),
 (194,.one),
 (195,.one),
 (196,.one),
 (197,.one),
 (198,.one),
 (199,.one),
 (200,.one),
 (201,.one),
 (202,.one),
 (203,.one),
 (204,.one),
 (205,.st 6 [(0,1),(1,1),(2,1),(3,1),(4,1),(5,1)]),
 (206,.one),
 (207,.st 3 [(0,1),(1,1),(2,1)]),
 (208,.one),
 (209,.st 7 [(0,1),(1,6)]),
 (210,.st 7 [(0,1),(1,6)]),
 (211,.one),
 (212,.one),
 (213,.one),
 (214,.one),
 (215,.one),
 (216,.one),
 (217,.one),
 (218,.one),
 (219,.one),
 (220,.one),
 (222,.one),
 (223,.one),
 (224,.one),
 (225,.one),
 (229,.one),
 (230,.one),
 (231,.one),
 (232,.one),
 (233,.one),
 (234,.one),
 (235,.one),
 (237,.one),
 (238,.one),
 (239,.st 2 [(0,1),(1,1)]),
 (240,.st 2 [(0,1),(1,1)]),
 (241,.one),
 (242,.one),
 (243,.one),
 (244,.one),
 (245,.one),
 (246,.one),
 (247,.one),
 (249,.one),
 (250,.one),
 (251,.one),
 (252,.one),
 (253,.one),
 (254,.one),
 (255,.int .u8),
 (256,.int .u64),
 (257,.one),
 (258,.one),
 (259,.one),
 (260,.int .i64),
 (262,.one),
 (263,.one),
 (264,.one),
 (265,.one),
 (267,.one),
 (269,.int .u64),
 (270,.one),
 (271,.one),
 (273,.one),
 (274,.one),
 (276,.st 2 [(0,1),(1,1)]),
 (277,.st 2 [(0,1),(1,1)]),
 (280,.one),
 (281,.st 3 [(0,1),(1,1),(2,1)]),
 (282,.st 3 [(0,1),(1,1),(2,1)]),
 (283,.one),
 (284,.int .u32),
 (286,.one),
 (287,.one),
 (290,.one),
 (291,.one),
 (292,.one),
 (293,.one),
 (294,.st 1 [(0,1)]),
 (295,.st 1 [(0,1)]),
 (296,.one),
 (299,.one),
 (300,.one),
 (301,.st 4 [(0,1),(1,1),(2,1),(3,1)]),
 (302,.st 4 [(0,1),(1,1),(2,1),(3,1)]),
 (306,.int .u8),
 (307,.int .u8),
 (308,.one),
 (309,.int .i32),
 (310,.int .i32),
 (311,.st 11 [(0,1),(1,1),(2,1),(3,1),(4,1),(5,1),(6,1),(7,1),(8,1),(9,1),(10,1)]),
 (312,.st 11 [(0,1),(1,1),(2,1),(3,1),(4,1),(5,1),(6,1),(7,1),(8,1),(9,1),(10,1)]),
 (313,.one),
 (314,.st 2 [(0,1),(1,1)]),
 (315,.st 2 [(0,1),(1,1)]),
 (317,.st 2 [(0,1),(1,1)])]
def ti (t:Nat):TI:=lkT tiL t
theorem tiok: ∀ t,(ti t).chk Tryz.prog t=true:=Yn9 (by kernel_rfl)
def zrL:List (Nat×Value):=[(1,Value.nilFunc),
  (2,Value.int i64 0),
  (3,Value.int i64 0),
  (4,Value.bool false),
  (5,Value.int IntKind.u8 0),
  (6,Value.int IntKind.u8 0),
  (7,Value.agg #[Value.int i64 0,Value.int i64 0,Value.bool false,Value.int IntKind.u8 0]),
  (8,Value.agg #[Value.int i64 0,Value.int i64 0,Value.bool false,Value.int IntKind.u8 0]),
  (9,Value.string { data:= #[] }),
  (10,Value.string { data:= #[] }),
  (11,Value.string { data:= #[] }),
  (12,Value.int IntKind.u64 0),
  (13,Value.agg #[Value.string { data:= #[] },Value.int IntKind.u64 0]),
  (14,Value.agg #[Value.string { data:= #[] },Value.int IntKind.u64 0]),
  (15,Value.pointer none),
  (16,Value.pointer none),
  (17,Value.pointer none),
  (18,Value.agg #[Value.pointer none]),
  (19,Value.agg #[Value.pointer none]),
  (21,Value.int IntKind.i32 0),
  (22,Value.slice none 0 0),
  (23,Value.slice none 0 0),
  (24,Value.slice none 0 0),
  (25,Value.agg #[Value.string { data:= #[] },Value.int i64 0]),
  (26,Value.agg #[Value.string { data:= #[] },Value.int i64 0]),
  (27,Value.agg #[Value.slice none 0 0,Value.string { data:= #[] },Value.int i64 0]),
  (28,Value.agg #[Value.slice none 0 0,Value.string { data:= #[] },Value.int i64 0]),
  (29,Value.slice none 0 0),
  (30,Value.slice none 0 0),
  (31,Value.agg #[Value.slice none 0 0,Value.slice none 0 0,Value.slice none 0 0,Value.string { data:= #[] },Value.int i64 0,Value.int i64 0,Value.int i64 0,Value.int i64 0,Value.slice none 0 0,Value.slice none 0 0,Value.bool false]),
  (32,Value.agg #[Value.slice none 0 0,Value.slice none 0 0,Value.slice none 0 0,Value.string { data:= #[] },Value.int i64 0,Value.int i64 0,Value.int i64 0,Value.int i64 0,Value.slice none 0 0,Value.slice none 0 0,Value.bool false]),
  (33,Value.nilFunc),
  (34,Value.nilFunc),
  (35,Value.slice none 0 0),
  (36,Value.slice none 0 0),
  (37,Value.slice none 0 0),
  (38,Value.agg #[Value.string { data:= #[] },Value.int i64 0]),
  (39,Value.agg #[Value.slice none 0 0,Value.string { data:= #[] },Value.int i64 0]),
  (40,Value.agg #[Value.slice none 0 0,Value.string { data:= #[] },Value.int i64 0]),
  (41,Value.slice none 0 0),
  (42,Value.agg #[Value.slice none 0 0,Value.slice none 0 0,Value.slice none 0 0,Value.string { data:= #[] },Value.int i64 0,Value.int i64 0,Value.int i64 0,Value.int i64 0,Value.slice none 0 0,Value.slice none 0 0,Value.bool false]),
  (43,Value.agg #[Value.slice none 0 0,Value.slice none 0 0,Value.slice none 0 0,Value.string { data:= #[] },Value.int i64 0,Value.int i64 0,Value.int i64 0,Value.int i64 0,Value.slice none 0 0,Value.slice none 0 0,Value.bool false]),
  (44,Value.nilFunc),
  (45,Value.nilFunc),
  (46,Value.nilFunc),
  (47,Value.nilFunc),
  (48,Value.nilFunc),
  (49,Value.nilFunc),
  (50,Value.nilFunc),
  (51,Value.nilFunc),
  (52,Value.nilFunc),
  (53,Value.nilFunc),
  (54,Value.nilFunc),
  (55,Value.nilFunc),
  (56,Value.nilFunc),
  (57,Value.nilFunc),
  (58,Value.nilFunc),
  (59,Value.nilFunc),
  (61,Value.nilFunc),
  (62,Value.nilFunc),
  (63,Value.nilFunc),
  (64,Value.nilFunc),
  (65,Value.nilFunc),
  (66,Value.nilFunc),
  (67,Value.nilFunc),
  (68,Value.nilFunc),
  (69,Value.nilFunc),
  (70,Value.nilFunc),
  (71,Value.nilFunc),
  (72,Value.nilFunc),
  (73,Value.nilFunc),
  (74,Value.nilFunc),
  (75,Value.nilFunc),
  (76,Value.nilFunc),
  (77,Value.slice none 0 0),
  (78,Value.slice none 0 0),
  (79,Value.agg #[Value.int i64 0,Value.int i64 0,Value.int i64 0,Value.slice none 0 0,Value.slice none 0 0,Value.int i64 0,Value.int i64 0,Value.bool false]),
  (80,Value.agg #[Value.int i64 0,Value.int i64 0,Value.int i64 0,Value.slice none 0 0,Value.slice none 0 0,Value.int i64 0,Value.int i64 0,Value.bool false]),
  (81,Value.nilFunc),
  (82,Value.nilFunc),
  (83,Value.nilFunc),
  (84,Value.nilFunc),
  (85,Value.nilFunc),
  (86,Value.nilFunc),
  (87,Value.slice none 0 0),
  (88,Value.nilFunc),
  (89,Value.nilFunc),
  (90,Value.nilFunc),
  (91,Value.agg #[Value.string { data:= #[] },Value.string { data:= #[] }]),
  (92,Value.agg #[Value.string { data:= #[] },Value.string { data:= #[] }]),
  (93,Value.nilFunc),
  (94,Value.slice none 0 0),
  (95,Value.slice none 0 0),
  (96,Value.agg #[Value.slice none 0 0,Value.slice none 0 0]),
  (97,Value.agg #[Value.slice none 0 0,Value.slice none 0 0]),
  (98,Value.agg #[Value.int i64 0,Value.int i64 0,Value.int i64 0,Value.int i64 0,Value.slice none 0 0,Value.slice none 0 0,Value.slice none 0 0,Value.slice none 0 0,Value.slice none 0 0,Value.int i64 0]),
  (99,Value.agg #[Value.int i64 0,Value.int i64 0,Value.int i64 0,Value.int i64 0,Value.slice none 0 0,Value.slice none 0 0,Value.slice none 0 0,Value.slice none 0 0,Value.slice none 0 0,Value.int i64 0]),
  (100,Value.nilFunc),
  (101,Value.nilFunc),
  (102,Value.nilFunc),
  (103,Value.slice none 0 0),
  (104,Value.agg #[Value.int i64 0,Value.int i64 0,Value.int i64 0,Value.slice none 0 0,Value.slice none 0 0,Value.int i64 0,Value.int i64 0,Value.bool false]),
  (105,Value.agg #[Value.int i64 0,Value.int i64 0,Value.int i64 0,Value.slice none 0 0,Value.slice none 0 0,Value.int i64 0,Value.int i64 0,Value.bool false]),
  (106,Value.nilFunc),
  (107,Value.agg #[Value.int i64 0,Value.slice none 0 0,Value.bool false]),
  (108,Value.agg #[Value.int i64 0,Value.slice none 0 0,Value.bool false]),
  (109,Value.nilFunc),
  (110,Value.slice none 0 0),
  (112,Value.nilFunc),
  (113,Value.nilFunc),
  (114,Value.agg #[Value.string { data:= #[] },Value.string { data:= #[] }]),
  (115,Value.nilFunc),
  (116,Value.slice none 0 0),
  (117,Value.agg #[Value.slice none 0 0,Value.slice none 0 0]),
  (118,Value.agg #[Value.int i64 0,Value.int i64 0,Value.int i64 0,Value.int i64 0,Value.slice none 0 0,Value.slice none 0 0,Value.slice none 0 0,Value.slice none 0 0,Value.slice none 0 0,Value.int i64 0]),
  (119,Value.agg #[Value.int i64 0,Value.int i64 0,Value.int i64 0,Value.int i64 0,Value.slice none 0 0,Value.slice none 0 0,Value.slice none 0 0,Value.slice none 0 0,Value.slice none 0 0,Value.int i64 0]),
  (120,Value.nilFunc),
  (121,Value.nilFunc),
  (122,Value.nilFunc),
  (123,Value.nilFunc),
  (124,Value.nilFunc),
  (125,Value.nilFunc),
  (126,Value.nilFunc),
  (127,Value.nilFunc),
  (128,Value.nilFunc),
  (129,Value.nilFunc),
  (130,Value.nilFunc),
  (131,Value.nilFunc),
  (132,Value.nilFunc),
  (133,Value.nilFunc),
  (134,Value.nilFunc),
  (135,Value.nilFunc),
  (137,Value.nilFunc),
  (138,Value.nilFunc),
  (139,Value.nilFunc),
  (140,Value.nilFunc),
  (141,Value.nilFunc),
  (142,Value.nilFunc),
  (143,Value.nilFunc),
  (144,Value.slice none 0 0),
  (145,Value.nilFunc),
  (146,Value.nilFunc),
  (147,Value.nilFunc),
  (148,Value.agg #[Value.int i64 0,Value.string { data:= #[] },Value.string { data:= #[] },Value.int i64 0,Value.int i64 0,Value.string { data:= #[] }]),
  (149,Value.agg #[Value.int i64 0,Value.string { data:= #[] },Value.string { data:= #[] },Value.int i64 0,Value.int i64 0,Value.string { data:= #[] }]),
  (150,Value.agg #[Value.int i64 0,Value.int i64 0,Value.string { data:= #[] },Value.string { data:= #[] },Value.int i64 0,Value.int i64 0,Value.string { data:= #[] }]),
  (151,Value.agg #[Value.int i64 0,Value.int i64 0,Value.string { data:= #[] },Value.string { data:= #[] },Value.int i64 0,Value.int i64 0,Value.string { data:= #[] }]),
  (152,Value.nilFunc),
  (153,Value.agg #[Value.int i64 0,Value.int i64 0,Value.string { data:= #[] }]),
  (154,Value.agg #[Value.int i64 0,Value.int i64 0,Value.string { data:= #[] }]),
  (155,Value.nilFunc),
  (156,Value.nilFunc),
  (157,Value.nilFunc),
  (158,Value.nilFunc),
  (159,Value.nilFunc),
  (160,Value.nilFunc),
  (161,Value.nilFunc),
  (162,Value.nilFunc),
  (163,Value.nilFunc),
  (164,Value.nilFunc),
  (165,Value.nilFunc),
  (166,Value.nilFunc),
  (167,Value.agg #[Value.int i64 0,Value.slice none 0 0,Value.bool false]),
  (168,Value.agg #[Value.int i64 0,Value.slice none 0 0,Value.bool false]),
  (169,Value.nilFunc),
  (170,Value.nilFunc),
  (171,Value.nilFunc),
  (172,Value.nilFunc),
  (173,Value.nilFunc),
  (175,Value.nilFunc),
  (176,Value.nilFunc),
  (177,Value.nilFunc),
  (178,Value.nilFunc),
  (179,Value.nilFunc),
  (180,Value.nilFunc),
  (181,Value.nilFunc),
  (182,Value.nilFunc),
  (183,Value.nilFunc),
  (184,Value.nilFunc),
  (185,Value.nilFunc),
  (186,Value.nilFunc),
  (187,Value.nilFunc),
  (188,Value.nilFunc),
  (189,Value.nilFunc),
  (190,Value.nilFunc),
  (192,Value.nilFunc),
  (193,Value.nilFunc),
  (194,Value.nilFunc),
  (195,Value.nilFunc),
  (196,Value.nilFunc),
  (197,Value.nilFunc),
  (198,Value.nilFunc),
  (199,Value.nilFunc),
  (200,Value.nilFunc),
  (201,Value.nilFunc),
  (202,Value.nilFunc),
  (203,Value.nilFunc),
  (204,Value.nilFunc),
  (205,Value.agg #[Value.int i64 0,Value.string { data:= #[] },Value.string { data:= #[] },Value.int i64 0,Value.int i64 0,Value.string { data:= #[] }]),
  (206,Value.nilFunc),
  (207,Value.agg #[Value.int i64 0,Value.int i64 0,Value.string { data:= #[] }]),
  (208,Value.nilFunc),
  (209,Value.agg #[Value.int i64 0,Value.int i64 0,Value.string { data:= #[] },Value.string { data:= #[] },Value.int i64 0,Value.int i64 0,Value.string { data:= #[] }]),
  (210,Value.agg #[Value.int i64 0,Value.int i64 0,Value.string { data:= #[] },Value.string { data:= #[] },Value.int i64 0,Value.int i64 0,Value.string { data:= #[] }]),
  (211,Value.nilFunc),
  (212,Value.nilFunc),
  (213,Value.nilFunc),
  (214,Value.nilFunc),
  (215,Value.nilFunc),
  (216,Value.nilFunc),
  (217,Value.nilFunc),
  (218,Value.nilFunc),
  (219,Value.nilFunc),
  (220,Value.nilFunc),
  (222,Value.nilFunc),
  (223,Value.nilFunc),
  (224,Value.nilFunc),
  (225,Value.nilFunc),
  (229,Value.nilFunc),
  (230,Value.nilFunc),
  (231,Value.nilFunc),
  (232,Value.nilFunc),
  (233,Value.nilFunc),
  (234,Value.nilFunc),
  (235,Value.nilFunc),
  (237,Value.nilFunc),
  (238,Value.pointer none),
  (239,Value.agg #[Value.pointer none,Value.slice none 0 0]),
  (240,Value.agg #[Value.pointer none,Value.slice none 0 0]),
  (241,Value.nilFunc),
  (242,Value.nilFunc),
  (243,Value.nilFunc),
  (244,Value.nilFunc),
  (245,Value.nilFunc),
  (246,Value.nilFunc),
  (247,Value.nilFunc),
  (249,Value.nilFunc),
  (250,Value.nilFunc),
  (251,Value.nilFunc),
  (252,Value.nilFunc),
  (253,Value.pointer none),
  (254,Value.nilFunc),
  (255,Value.int IntKind.u8 0),
  (256,Value.int IntKind.u64 0),
  (257,Value.nilFunc),
  (258,Value.nilFunc),
  (259,Value.nilFunc),
  (260,Value.int i64 0),
  (262,Value.nilFunc),
  (263,Value.pointer none),
  (264,Value.nilFunc),
  (265,Value.nilFunc),
  (267,Value.nilFunc),
  (269,Value.int IntKind.u64 0),
  (270,Value.nilFunc),
  (271,Value.nilFunc),
  (273,Value.nilFunc),
  (274,Value.nilFunc),
  (276,Value.agg #[Value.int IntKind.u8 0,Value.int IntKind.u8 0]),
  (277,Value.agg #[Value.int IntKind.u8 0,Value.int IntKind.u8 0]),
  (280,Value.nilFunc),
  (283,Value.nilFunc),
  (284,Value.int IntKind.u32 0),
  (286,Value.nilFunc),
  (287,Value.nilFunc),
  (290,Value.nilFunc),
  (291,Value.nilFunc),
  (292,Value.nilFunc),
  (293,Value.pointer none),
  (294,Value.agg #[Value.string { data:= #[] }]),
  (295,Value.agg #[Value.string { data:= #[] }]),
  (296,Value.nilFunc),
  (299,Value.pointer none),
  (300,Value.pointer none),
  (301,Value.agg #[Value.pointer none,Value.pointer none,Value.pointer none,Value.string { data:= #[] }]),
  (302,Value.agg #[Value.pointer none,Value.pointer none,Value.pointer none,Value.string { data:= #[] }]),
  (306,Value.int IntKind.u8 0),
  (307,Value.int IntKind.u8 0),
  (308,Value.nilFunc),
  (309,Value.int IntKind.i32 0),
  (310,Value.int IntKind.i32 0),
  (311,Value.agg #[Value.int IntKind.u64 0,Value.int IntKind.u64 0,Value.int IntKind.u32 0,Value.int IntKind.u8 0,Value.int IntKind.u8 0,Value.int IntKind.u8 0,Value.int IntKind.u8 0,Value.nilFunc,Value.pointer none,Value.int IntKind.i32 0,Value.int IntKind.i32 0]),
  (312,Value.agg #[Value.int IntKind.u64 0,Value.int IntKind.u64 0,Value.int IntKind.u32 0,Value.int IntKind.u8 0,Value.int IntKind.u8 0,Value.int IntKind.u8 0,Value.int IntKind.u8 0,Value.nilFunc,Value.pointer none,Value.int IntKind.i32 0,Value.int IntKind.i32 0]),
  (313,Value.nilFunc),
  (317,Value.agg #[Value.string { data:= #[] },Value.slice none 0 0])]
def zr (t:Nat):Option Value:=lkZ zrL t
theorem zok: ∀ t z,zr t=some z→ ∀ w,(zeroValue t).run Tryz.prog w= .ok z w:=Yn8 ⟨Tryz.zeroValue1,Tryz.zeroValue2,Tryz.zeroValue3,Tryz.zeroValue4,Tryz.zeroValue5,Tryz.zeroValue6,Tryz.zeroValue7,Tryz.zeroValue8,Tryz.zeroValue9,Tryz.zeroValue10,Tryz.zeroValue11,Tryz.zeroValue12,Tryz.zeroValue13,Tryz.zeroValue14,Tryz.zeroValue15,Tryz.zeroValue16,Tryz.zeroValue17,Tryz.zeroValue18,Tryz.zeroValue19,Tryz.zeroValue21,Tryz.zeroValue22,Tryz.zeroValue23,Tryz.zeroValue24,Tryz.zeroValue25,Tryz.zeroValue26,Tryz.zeroValue27,Tryz.zeroValue28,Tryz.zeroValue29,Tryz.zeroValue30,Tryz.zeroValue31,Tryz.zeroValue32,Tryz.zeroValue33,Tryz.zeroValue34,Tryz.zeroValue35,Tryz.zeroValue36,Tryz.zeroValue37,Tryz.zeroValue38,Tryz.zeroValue39,Tryz.zeroValue40,Tryz.zeroValue41,Tryz.zeroValue42,Tryz.zeroValue43,Tryz.zeroValue44,Tryz.zeroValue45,Tryz.zeroValue46,Tryz.zeroValue47,Tryz.zeroValue48,Tryz.zeroValue49,Tryz.zeroValue50,Tryz.zeroValue51,Tryz.zeroValue52,Tryz.zeroValue53,Tryz.zeroValue54,Tryz.zeroValue55,Tryz.zeroValue56,Tryz.zeroValue57,Tryz.zeroValue58,Tryz.zeroValue59,Tryz.zeroValue61,Tryz.zeroValue62,Tryz.zeroValue63,Tryz.zeroValue64,Tryz.zeroValue65,Tryz.zeroValue66,Tryz.zeroValue67,Tryz.zeroValue68,Tryz.zeroValue69,Tryz.zeroValue70,Tryz.zeroValue71,Tryz.zeroValue72,Tryz.zeroValue73,Tryz.zeroValue74,Tryz.zeroValue75,Tryz.zeroValue76,Tryz.zeroValue77,Tryz.zeroValue78,Tryz.zeroValue79,Tryz.zeroValue80,Tryz.zeroValue81,Tryz.zeroValue82,Tryz.zeroValue83,Tryz.zeroValue84,Tryz.zeroValue85,Tryz.zeroValue86,Tryz.zeroValue87,Tryz.zeroValue88,Tryz.zeroValue89,Tryz.zeroValue90,Tryz.zeroValue91,Tryz.zeroValue92,Tryz.zeroValue93,Tryz.zeroValue94,Tryz.zeroValue95,Tryz.zeroValue96,Tryz.zeroValue97,Tryz.zeroValue98,Tryz.zeroValue99,Tryz.zeroValue100,Tryz.zeroValue101,Tryz.zeroValue102,Tryz.zeroValue103,Tryz.zeroValue104,Tryz.zeroValue105,Tryz.zeroValue106,Tryz.zeroValue107,Tryz.zeroValue108,Tryz.zeroValue109,Tryz.zeroValue110,Tryz.zeroValue112,Tryz.zeroValue113,Tryz.zeroValue114,Tryz.zeroValue115,Tryz.zeroValue116,Tryz.zeroValue117,Tryz.zeroValue118,Tryz.zeroValue119,Tryz.zeroValue120,Tryz.zeroValue121,Tryz.zeroValue122,Tryz.zeroValue123,Tryz.zeroValue124,Tryz.zeroValue125,Tryz.zeroValue126,Tryz.zeroValue127,Tryz.zeroValue128,Tryz.zeroValue129,Tryz.zeroValue130,Tryz.zeroValue131,Tryz.zeroValue132,Tryz.zeroValue133,Tryz.zeroValue134,Tryz.zeroValue135,Tryz.zeroValue137,Tryz.zeroValue138,Tryz.zeroValue139,Tryz.zeroValue140,Tryz.zeroValue141,Tryz.zeroValue142,Tryz.zeroValue143,Tryz.zeroValue144,Tryz.zeroValue145,Tryz.zeroValue146,Tryz.zeroValue147,Tryz.zeroValue148,Tryz.zeroValue149,Tryz.zeroValue150,Tryz.zeroValue151,Tryz.zeroValue152,Tryz.zeroValue153,Tryz.zeroValue154,Tryz.zeroValue155,Tryz.zeroValue156,Tryz.zeroValue157,Tryz.zeroValue158,Tryz.zeroValue159,Tryz.zeroValue160,Tryz.zeroValue161,Tryz.zeroValue162,Tryz.zeroValue163,Tryz.zeroValue164,Tryz.zeroValue165,Tryz.zeroValue166,Tryz.zeroValue167,Tryz.zeroValue168,Tryz.zeroValue169,Tryz.zeroValue170,Tryz.zeroValue171,Tryz.zeroValue172,Tryz.zeroValue173,Tryz.zeroValue175,Tryz.zeroValue176,Tryz.zeroValue177,Tryz.zeroValue178,Tryz.zeroValue179,Tryz.zeroValue180,Tryz.zeroValue181,Tryz.zeroValue182,Tryz.zeroValue183,Tryz.zeroValue184,Tryz.zeroValue185,Tryz.zeroValue186,Tryz.zeroValue187,Tryz.zeroValue188,Tryz.zeroValue189,Tryz.zeroValue190,Tryz.zeroValue192,Tryz.zeroValue193,Tryz.zeroValue194,Tryz.zeroValue195,Tryz.zeroValue196,Tryz.zeroValue197,Tryz.zeroValue198,Tryz.zeroValue199,Tryz.zeroValue200,Tryz.zeroValue201,Tryz.zeroValue202,Tryz.zeroValue203,Tryz.zeroValue204,Tryz.zeroValue205,Tryz.zeroValue206,Tryz.zeroValue207,Tryz.zeroValue208,Tryz.zeroValue209,Tryz.zeroValue210,Tryz.zeroValue211,Tryz.zeroValue212,Tryz.zeroValue213,Tryz.zeroValue214,Tryz.zeroValue215,Tryz.zeroValue216,Tryz.zeroValue217,Tryz.zeroValue218,Tryz.zeroValue219,Tryz.zeroValue220,Tryz.zeroValue222,Tryz.zeroValue223,Tryz.zeroValue224,Tryz.zeroValue225,Tryz.zeroValue229,Tryz.zeroValue230,Tryz.zeroValue231,Tryz.zeroValue232,Tryz.zeroValue233,Tryz.zeroValue234,Tryz.zeroValue235,Tryz.zeroValue237,Tryz.zeroValue238,Tryz.zeroValue239,Tryz.zeroValue240,Tryz.zeroValue241,Tryz.zeroValue242,Tryz.zeroValue243,Tryz.zeroValue244,Tryz.zeroValue245,Tryz.zeroValue246,Tryz.zeroValue247,Tryz.zeroValue249,Tryz.zeroValue250,Tryz.zeroValue251,Tryz.zeroValue252,Tryz.zeroValue253,Tryz.zeroValue254,Tryz.zeroValue255,Tryz.zeroValue256,Tryz.zeroValue257,Tryz.zeroValue258,Tryz.zeroValue259,Tryz.zeroValue260,Tryz.zeroValue262,Tryz.zeroValue263,Tryz.zeroValue264,Tryz.zeroValue265,Tryz.zeroValue267,Tryz.zeroValue269,Tryz.zeroValue270,Tryz.zeroValue271,Tryz.zeroValue273,Tryz.zeroValue274,Tryz.zeroValue276,Tryz.zeroValue277,Tryz.zeroValue280,Tryz.zeroValue283,Tryz.zeroValue284,Tryz.zeroValue286,Tryz.zeroValue287,Tryz.zeroValue290,Tryz.zeroValue291,Tryz.zeroValue292,Tryz.zeroValue293,Tryz.zeroValue294,Tryz.zeroValue295,Tryz.zeroValue296,Tryz.zeroValue299,Tryz.zeroValue300,Tryz.zeroValue301,Tryz.zeroValue302,Tryz.zeroValue306,Tryz.zeroValue307,Tryz.zeroValue308,Tryz.zeroValue309,Tryz.zeroValue310,Tryz.zeroValue311,Tryz.zeroValue312,Tryz.zeroValue313,Tryz.zeroValue317,trivial⟩
theorem ti_1:ti 1= .one:=rfl
theorem ti_2:ti 2= .int .i64:=rfl
theorem ti_3:ti 3= .int .i64:=rfl
theorem ti_4:ti 4= .bool:=rfl
theorem ti_5:ti 5= .int .u8:=rfl
theorem ti_6:ti 6= .int .u8:=rfl
theorem ti_7:ti 7= .st 4 [(0,1),(1,1),(2,1),(3,1)]:=rfl
theorem ti_8:ti 8= .st 4 [(0,1),(1,1),(2,1),(3,1)]:=rfl
theorem ti_9:ti 9= .str:=rfl
theorem Ydc:ti 10= .str:=rfl
theorem Ydb:ti 11= .str:=rfl
theorem Yda:ti 12= .int .u64:=rfl
theorem Yc9:ti 13= .st 2 [(0,1),(1,1)]:=rfl
theorem Yc8:ti 14= .st 2 [(0,1),(1,1)]:=rfl
theorem Yc7:ti 15= .one:=rfl
theorem Yc6:ti 16= .one:=rfl
theorem Yc5:ti 17= .one:=rfl
theorem Yc4:ti 18= .st 1 [(0,1)]:=rfl
theorem Yc3:ti 19= .st 1 [(0,1)]:=rfl
theorem Yc2:ti 21= .int .i32:=rfl
theorem Yc1:ti 22= .sl 92 2 32:=rfl
theorem Yc0:ti 23= .sl 99 10 160:=rfl
theorem Ycz:ti 24= .sl 168 3 40:=rfl
theorem Ycy:ti 25= .st 2 [(0,1),(1,1)]:=rfl
theorem Ycx:ti 26= .st 2 [(0,1),(1,1)]:=rfl
theorem Ycw:ti 27= .st 3 [(0,1),(1,2)]:=rfl
theorem Ycv:ti 28= .st 3 [(0,1),(1,2)]:=rfl
theorem Ycu:ti 29= .sl 105 8 96:=rfl
theorem Yct:ti 30= .sl 9 1 16:=rfl
theorem Ycs:ti 31= .st 11 [(0,1),(1,1),(2,3),(5,1),(6,1),(7,1),(8,1),(9,1),(10,1)]:=rfl
theorem Ycr:ti 32= .st 11 [(0,1),(1,1),(2,3),(5,1),(6,1),(7,1),(8,1),(9,1),(10,1)]:=rfl
theorem Ycq:ti 33= .one:=rfl
theorem Ycp:ti 34= .one:=rfl
theorem Yco:ti 35= .sl 114 2 32:=rfl
theorem Ycn:ti 36= .sl 119 10 160:=rfl
theorem Ycm:ti 37= .sl 108 3 40:=rfl
theorem Ycl:ti 38= .st 2 [(0,1),(1,1)]:=rfl
theorem Yck:ti 39= .st 3 [(0,1),(1,2)]:=rfl
theorem Ycj:ti 40= .st 3 [(0,1),(1,2)]:=rfl
theorem Yci:ti 41= .sl 80 8 96:=rfl
theorem Ych:ti 42= .st 11 [(0,1),(1,1),(2,3),(5,1),(6,1),(7,1),(8,1),(9,1),(10,1)]:=rfl
theorem Ycg:ti 43= .st 11 [(0,1),(1,1),(2,3),(5,1),(6,1),(7,1),(8,1),(9,1),(10,1)]:=rfl
theorem Ycf:ti 44= .one:=rfl
theorem Yce:ti 45= .one:=rfl
theorem Ycd:ti 46= .one:=rfl
theorem Ycc:ti 47= .one:=rfl
theorem Ycb:ti 48= .one:=rfl
theorem Yca:ti 49= .one:=rfl
theorem Yb9:ti 50= .one:=rfl
theorem Yb8:ti 51= .one:=rfl
theorem Yb7:ti 52= .one:=rfl
theorem Yb6:ti 53= .one:=rfl
theorem Yb5:ti 54= .one:=rfl
theorem Yb4:ti 55= .one:=rfl
theorem Yb3:ti 56= .one:=rfl
theorem Yb2:ti 57= .one:=rfl
theorem Yb1:ti 58= .one:=rfl
theorem Yb0:ti 59= .one:=rfl
theorem Ybz:ti 61= .one:=rfl
theorem Yby:ti 62= .one:=rfl
theorem Ybx:ti 63= .one:=rfl
theorem Ybw:ti 64= .one:=rfl
theorem Ybv:ti 65= .one:=rfl
theorem Ybu:ti 66= .one:=rfl
theorem Ybt:ti 67= .one:=rfl
theorem Ybs:ti 68= .one:=rfl
theorem Ybr:ti 69= .one:=rfl
theorem Ybq:ti 70= .one:=rfl
theorem Ybp:ti 71= .one:=rfl
theorem Ybo:ti 72= .one:=rfl
theorem Ybn:ti 73= .one:=rfl
theorem Ybm:ti 74= .one:=rfl
theorem Ybl:ti 75= .one:=rfl
theorem Ybk:ti 76= .one:=rfl
theorem Ybj:ti 77= .sl 151 7 80:=rfl
theorem Ybi:ti 78= .sl 154 3 32:=rfl
theorem Ybh:ti 79= .st 8 [(0,1),(1,1),(2,1),(3,1),(4,1),(5,1),(6,1),(7,1)]:=rfl
theorem Ybg:ti 80= .st 8 [(0,1),(1,1),(2,1),(3,1),(4,1),(5,1),(6,1),(7,1)]:=rfl
theorem Ybf:ti 81= .one:=rfl
theorem Ybe:ti 82= .one:=rfl
theorem Ybd:ti 83= .one:=rfl
theorem Ybc:ti 84= .one:=rfl
theorem Ybb:ti 85= .one:=rfl
theorem Yba:ti 86= .one:=rfl
theorem Ya9:ti 87= .sl 3 1 8:=rfl
theorem Ya8:ti 88= .one:=rfl
theorem Ya7:ti 89= .one:=rfl
theorem Ya6:ti 90= .one:=rfl
theorem Ya5:ti 91= .st 2 [(0,1),(1,1)]:=rfl
theorem Ya4:ti 92= .st 2 [(0,1),(1,1)]:=rfl
theorem Ya3:ti 93= .one:=rfl
theorem Ya2:ti 94= .sl 205 6 72:=rfl
theorem Ya1:ti 95= .sl 207 3 32:=rfl
theorem Ya0:ti 96= .st 2 [(0,1),(1,1)]:=rfl
theorem Yaz:ti 97= .st 2 [(0,1),(1,1)]:=rfl
theorem Yay:ti 98= .st 10 [(0,1),(1,1),(2,1),(3,1),(4,1),(5,1),(6,2),(8,1),(9,1)]:=rfl
theorem Yax:ti 99= .st 10 [(0,1),(1,1),(2,1),(3,1),(4,1),(5,1),(6,2),(8,1),(9,1)]:=rfl
theorem Qyl:ti 100= .one:=rfl
theorem Qyk:ti 101= .one:=rfl
theorem Qyj:ti 102= .one:=rfl
theorem Qyi:ti 103= .sl 210 7 80:=rfl
theorem Qyh:ti 104= .st 8 [(0,1),(1,1),(2,1),(3,1),(4,1),(5,1),(6,1),(7,1)]:=rfl
theorem Qyg:ti 105= .st 8 [(0,1),(1,1),(2,1),(3,1),(4,1),(5,1),(6,1),(7,1)]:=rfl
theorem Qyf:ti 106= .one:=rfl
theorem Qye:ti 107= .st 3 [(0,1),(1,1),(2,1)]:=rfl
theorem Qyd:ti 108= .st 3 [(0,1),(1,1),(2,1)]:=rfl
theorem Qyc:ti 109= .one:=rfl
theorem Qyb:ti 110= .sl 35 1 24:=rfl
theorem Qya:ti 112= .one:=rfl
theorem Qx9:ti 113= .one:=rfl
theorem Qx8:ti 114= .st 2 [(0,1),(1,1)]:=rfl
theorem Qx7:ti 115= .one:=rfl
theorem Qx6:ti 116= .sl 149 6 72:=rfl
theorem Qqn:ti 117= .st 2 [(0,1),(1,1)]:=rfl
theorem Qx5:ti 118= .st 10 [(0,1),(1,1),(2,1),(3,1),(4,1),(5,1),(6,2),(8,1),(9,1)]:=rfl
theorem Qx4:ti 119= .st 10 [(0,1),(1,1),(2,1),(3,1),(4,1),(5,1),(6,2),(8,1),(9,1)]:=rfl
theorem Qx3:ti 120= .one:=rfl
theorem Qx2:ti 121= .one:=rfl
theorem Qx1:ti 122= .one:=rfl
theorem Qx0:ti 123= .one:=rfl
theorem Qxz:ti 124= .one:=rfl
theorem Qxy:ti 125= .one:=rfl
theorem Qxx:ti 126= .one:=rfl
theorem Qxw:ti 127= .one:=rfl
theorem Qxv:ti 128= .one:=rfl
theorem Qxu:ti 129= .one:=rfl
theorem Qxt:ti 130= .one:=rfl
theorem Qxs:ti 131= .one:=rfl
theorem Qxr:ti 132= .one:=rfl
theorem Qxq:ti 133= .one:=rfl
theorem Qxp:ti 134= .one:=rfl
theorem Qxo:ti 135= .one:=rfl
theorem Qxn:ti 137= .one:=rfl
theorem Qxm:ti 138= .one:=rfl
theorem Qxl:ti 139= .one:=rfl
theorem Qxk:ti 140= .one:=rfl
theorem Qxj:ti 141= .one:=rfl
theorem Qxi:ti 142= .one:=rfl
theorem Qxh:ti 143= .one:=rfl
theorem Qxg:ti 144= .sl 5 1 1:=rfl
theorem Qxf:ti 145= .one:=rfl
theorem Qxe:ti 146= .one:=rfl
theorem Qxd:ti 147= .one:=rfl
theorem Qxc:ti 148= .st 6 [(0,1),(1,1),(2,1),(3,1),(4,1),(5,1)]:=rfl
theorem Qxb:ti 149= .st 6 [(0,1),(1,1),(2,1),(3,1),(4,1),(5,1)]:=rfl
theorem Qxa:ti 150= .st 7 [(0,1),(1,6)]:=rfl
theorem Qw9:ti 151= .st 7 [(0,1),(1,6)]:=rfl
theorem Qw8:ti 152= .one:=rfl
theorem Qw7:ti 153= .st 3 [(0,1),(1,1),(2,1)]:=rfl
theorem Qw6:ti 154= .st 3 [(0,1),(1,1),(2,1)]:=rfl
theorem Qw5:ti 155= .one:=rfl
theorem Qw4:ti 156= .one:=rfl
theorem Qw3:ti 157= .one:=rfl
theorem Qw2:ti 158= .one:=rfl
theorem Qw1:ti 159= .one:=rfl
theorem Qw0:ti 160= .one:=rfl
theorem Qwz:ti 161= .one:=rfl
theorem Qwy:ti 162= .one:=rfl
theorem Qwx:ti 163= .one:=rfl
theorem Qww:ti 164= .one:=rfl
theorem Qwv:ti 165= .one:=rfl
theorem Qwu:ti 166= .one:=rfl
theorem Qwt:ti 167= .st 3 [(0,1),(1,1),(2,1)]:=rfl
theorem Qws:ti 168= .st 3 [(0,1),(1,1),(2,1)]:=rfl
theorem Qwr:ti 169= .one:=rfl
theorem Qwq:ti 170= .one:=rfl
theorem Qwp:ti 171= .one:=rfl
theorem Qwo:ti 172= .one:=rfl
theorem Qwn:ti 173= .one:=rfl
theorem Qwm:ti 175= .one:=rfl
theorem Qwl:ti 176= .one:=rfl
theorem Qwk:ti 177= .one:=rfl
theorem Qwj:ti 178= .one:=rfl
theorem Qwi:ti 179= .one:=rfl
theorem Qwh:ti 180= .one:=rfl
theorem Qwg:ti 181= .one:=rfl
theorem Qwf:ti 182= .one:=rfl
theorem Qwe:ti 183= .one:=rfl
theorem Qwd:ti 184= .one:=rfl
theorem Qwc:ti 185= .one:=rfl
theorem Qwb:ti 186= .one:=rfl
theorem Qwa:ti 187= .one:=rfl
theorem Qv9:ti 188= .one:=rfl
theorem Qv8:ti 189= .one:=rfl
theorem Qv7:ti 190= .one:=rfl
theorem Qv6:ti 192= .one:=rfl
theorem Qv5:ti 193= .one:=rfl
theorem Qv4:ti 194= .one:=rfl
theorem Qv3:ti 195= .one:=rfl
theorem Qv2:ti 196= .one:=rfl
theorem Qv1:ti 197= .one:=rfl
theorem Qv0:ti 198= .one:=rfl
theorem Qvz:ti 199= .one:=rfl
theorem Qvy:ti 200= .one:=rfl
theorem Qvx:ti 201= .one:=rfl
theorem Qvw:ti 202= .one:=rfl
theorem Qvv:ti 203= .one:=rfl
theorem Qvu:ti 204= .one:=rfl
theorem Qvt:ti 205= .st 6 [(0,1),(1,1),(2,1),(3,1),(4,1),(5,1)]:=rfl
theorem Qvs:ti 206= .one:=rfl
theorem Qvr:ti 207= .st 3 [(0,1),(1,1),(2,1)]:=rfl
theorem Qvq:ti 208= .one:=rfl
theorem Qvp:ti 209= .st 7 [(0,1),(1,6)]:=rfl
theorem Qvo:ti 210= .st 7 [(0,1),(1,6)]:=rfl
theorem Qvn:ti 211= .one:=rfl
theorem Qvm:ti 212= .one:=rfl
theorem Qvl:ti 213= .one:=rfl
theorem Qvk:ti 214= .one:=rfl
theorem Qvj:ti 215= .one:=rfl
theorem Qvi:ti 216= .one:=rfl
theorem Qvh:ti 217= .one:=rfl
theorem Qvg:ti 218= .one:=rfl
theorem Qvf:ti 219= .one:=rfl
theorem Qve:ti 220= .one:=rfl
theorem Qvd:ti 222= .one:=rfl
theorem Qvc:ti 223= .one:=rfl
theorem Qvb:ti 224= .one:=rfl
theorem Qva:ti 225= .one:=rfl
theorem Qu9:ti 229= .one:=rfl
theorem Qu8:ti 230= .one:=rfl
theorem Qu7:ti 231= .one:=rfl
theorem Qu6:ti 232= .one:=rfl
theorem Qu5:ti 233= .one:=rfl
theorem Qu4:ti 234= .one:=rfl
theorem Qu3:ti 235= .one:=rfl
theorem Qu2:ti 237= .one:=rfl
theorem Qu1:ti 238= .one:=rfl
theorem Qu0:ti 239= .st 2 [(0,1),(1,1)]:=rfl
theorem Quz:ti 240= .st 2 [(0,1),(1,1)]:=rfl
theorem Quy:ti 241= .one:=rfl
theorem Qux:ti 242= .one:=rfl
theorem Quw:ti 243= .one:=rfl
theorem Quv:ti 244= .one:=rfl
theorem Quu:ti 245= .one:=rfl
theorem Qut:ti 246= .one:=rfl
theorem Qus:ti 247= .one:=rfl
theorem Qur:ti 249= .one:=rfl
theorem Quq:ti 250= .one:=rfl
theorem Qup:ti 251= .one:=rfl
theorem Quo:ti 252= .one:=rfl
theorem Qun:ti 253= .one:=rfl
theorem Qum:ti 254= .one:=rfl
theorem Qul:ti 255= .int .u8:=rfl
theorem Quk:ti 256= .int .u64:=rfl
theorem Quj:ti 257= .one:=rfl
theorem Qui:ti 258= .one:=rfl
theorem Quh:ti 259= .one:=rfl
theorem Qug:ti 260= .int .i64:=rfl
theorem Quf:ti 262= .one:=rfl
theorem Que:ti 263= .one:=rfl
theorem Qud:ti 264= .one:=rfl
theorem Quc:ti 265= .one:=rfl
theorem Qub:ti 267= .one:=rfl
theorem Qua:ti 269= .int .u64:=rfl
theorem Qt9:ti 270= .one:=rfl
theorem Qt8:ti 271= .one:=rfl
theorem Qt7:ti 273= .one:=rfl
theorem Qt6:ti 274= .one:=rfl
theorem Qt5:ti 276= .st 2 [(0,1),(1,1)]:=rfl
theorem Qt4:ti 277= .st 2 [(0,1),(1,1)]:=rfl
theorem Qt3:ti 280= .one:=rfl
theorem Qt2:ti 281= .st 3 [(0,1),(1,1),(2,1)]:=rfl
theorem Qt1:ti 282= .st 3 [(0,1),(1,1),(2,1)]:=rfl
theorem Qt0:ti 283= .one:=rfl
theorem Qtz:ti 284= .int .u32:=rfl
theorem Qty:ti 286= .one:=rfl
theorem Qtx:ti 287= .one:=rfl
theorem Qtw:ti 290= .one:=rfl
theorem Qtv:ti 291= .one:=rfl
theorem Qtu:ti 292= .one:=rfl
theorem Qtt:ti 293= .one:=rfl
theorem Qts:ti 294= .st 1 [(0,1)]:=rfl
theorem Qtr:ti 295= .st 1 [(0,1)]:=rfl
theorem Qtq:ti 296= .one:=rfl
theorem Qtp:ti 299= .one:=rfl
theorem Qto:ti 300= .one:=rfl
theorem Qtn:ti 301= .st 4 [(0,1),(1,1),(2,1),(3,1)]:=rfl
theorem Qtm:ti 302= .st 4 [(0,1),(1,1),(2,1),(3,1)]:=rfl
theorem Qtl:ti 306= .int .u8:=rfl
theorem Qtk:ti 307= .int .u8:=rfl
theorem Qtj:ti 308= .one:=rfl
theorem Qti:ti 309= .int .i32:=rfl
theorem Qth:ti 310= .int .i32:=rfl
theorem Qtg:ti 311= .st 11 [(0,1),(1,1),(2,1),(3,1),(4,1),(5,1),(6,1),(7,1),(8,1),(9,1),(10,1)]:=rfl
theorem Qtf:ti 312= .st 11 [(0,1),(1,1),(2,1),(3,1),(4,1),(5,1),(6,1),(7,1),(8,1),(9,1),(10,1)]:=rfl
theorem Qte:ti 313= .one:=rfl
theorem Qtd:ti 314= .st 2 [(0,1),(1,1)]:=rfl
theorem Qtc:ti 315= .st 2 [(0,1),(1,1)]:=rfl
theorem Qtb:ti 317= .st 2 [(0,1),(1,1)]:=rfl
theorem zr_1:zr 1=some (Value.nilFunc):=rfl
theorem zr_2:zr 2=some (Value.int i64 0):=rfl
theorem zr_3:zr 3=some (Value.int i64 0):=rfl
theorem zr_4:zr 4=some (Value.bool false):=rfl
theorem zr_5:zr 5=some (Value.int IntKind.u8 0):=rfl
theorem zr_6:zr 6=some (Value.int IntKind.u8 0):=rfl
theorem zr_7:zr 7=some (Value.agg #[Value.int i64 0,Value.int i64 0,Value.bool false,Value.int IntKind.u8 0]):=rfl
theorem zr_8:zr 8=some (Value.agg #[Value.int i64 0,Value.int i64 0,Value.bool false,Value.int IntKind.u8 0]):=rfl
theorem zr_9:zr 9=some (Value.string { data:= #[] }):=rfl
theorem Yja:zr 10=some (Value.string { data:= #[] }):=rfl
theorem Yi9:zr 11=some (Value.string { data:= #[] }):=rfl
theorem Yi8:zr 12=some (Value.int IntKind.u64 0):=rfl
theorem Yi7:zr 13=some (Value.agg #[Value.string { data:= #[] },Value.int IntKind.u64 0]):=rfl
theorem Yi6:zr 14=some (Value.agg #[Value.string { data:= #[] },Value.int IntKind.u64 0]):=rfl
theorem Yi5:zr 15=some (Value.pointer none):=rfl
theorem Yi4:zr 16=some (Value.pointer none):=rfl
theorem Yi3:zr 17=some (Value.pointer none):=rfl
theorem Yi2:zr 18=some (Value.agg #[Value.pointer none]):=rfl
theorem Yi1:zr 19=some (Value.agg #[Value.pointer none]):=rfl
theorem Yi0:zr 21=some (Value.int IntKind.i32 0):=rfl
theorem Yiz:zr 22=some (Value.slice none 0 0):=rfl
theorem Yiy:zr 23=some (Value.slice none 0 0):=rfl
theorem Yix:zr 24=some (Value.slice none 0 0):=rfl
theorem Yiw:zr 25=some (Value.agg #[Value.string { data:= #[] },Value.int i64 0]):=rfl
theorem Yiv:zr 26=some (Value.agg #[Value.string { data:= #[] },Value.int i64 0]):=rfl
theorem Yiu:zr 27=some (Value.agg #[Value.slice none 0 0,Value.string { data:= #[] },Value.int i64 0]):=rfl
theorem Yit:zr 28=some (Value.agg #[Value.slice none 0 0,Value.string { data:= #[] },Value.int i64 0]):=rfl
theorem Yis:zr 29=some (Value.slice none 0 0):=rfl
theorem Yir:zr 30=some (Value.slice none 0 0):=rfl
theorem Yiq:zr 31=some (Value.agg #[Value.slice none 0 0,Value.slice none 0 0,Value.slice none 0 0,Value.string { data:= #[] },Value.int i64 0,Value.int i64 0,Value.int i64 0,Value.int i64 0,Value.slice none 0 0,Value.slice none 0 0,Value.bool false]):=rfl
theorem Yip:zr 32=some (Value.agg #[Value.slice none 0 0,Value.slice none 0 0,Value.slice none 0 0,Value.string { data:= #[] },Value.int i64 0,Value.int i64 0,Value.int i64 0,Value.int i64 0,Value.slice none 0 0,Value.slice none 0 0,Value.bool false]):=rfl
theorem Yio:zr 33=some (Value.nilFunc):=rfl
theorem Yin:zr 34=some (Value.nilFunc):=rfl
theorem Yim:zr 35=some (Value.slice none 0 0):=rfl
theorem Yil:zr 36=some (Value.slice none 0 0):=rfl
theorem Yik:zr 37=some (Value.slice none 0 0):=rfl
theorem Yij:zr 38=some (Value.agg #[Value.string { data:= #[] },Value.int i64 0]):=rfl
theorem Yii:zr 39=some (Value.agg #[Value.slice none 0 0,Value.string { data:= #[] },Value.int i64 0]):=rfl
theorem Yih:zr 40=some (Value.agg #[Value.slice none 0 0,Value.string { data:= #[] },Value.int i64 0]):=rfl
theorem Yig:zr 41=some (Value.slice none 0 0):=rfl
theorem Yif:zr 42=some (Value.agg #[Value.slice none 0 0,Value.slice none 0 0,Value.slice none 0 0,Value.string { data:= #[] },Value.int i64 0,Value.int i64 0,Value.int i64 0,Value.int i64 0,Value.slice none 0 0,Value.slice none 0 0,Value.bool false]):=rfl
theorem Yie:zr 43=some (Value.agg #[Value.slice none 0 0,Value.slice none 0 0,Value.slice none 0 0,Value.string { data:= #[] },Value.int i64 0,Value.int i64 0,Value.int i64 0,Value.int i64 0,Value.slice none 0 0,Value.slice none 0 0,Value.bool false]):=rfl
theorem Yid:zr 44=some (Value.nilFunc):=rfl
theorem Yic:zr 45=some (Value.nilFunc):=rfl
theorem Yib:zr 46=some (Value.nilFunc):=rfl
theorem Yia:zr 47=some (Value.nilFunc):=rfl
theorem Yh9:zr 48=some (Value.nilFunc):=rfl
theorem Yh8:zr 49=some (Value.nilFunc):=rfl
theorem Yh7:zr 50=some (Value.nilFunc):=rfl
theorem Yh6:zr 51=some (Value.nilFunc):=rfl
theorem Yh5:zr 52=some (Value.nilFunc):=rfl
theorem Yh4:zr 53=some (Value.nilFunc):=rfl
theorem Yh3:zr 54=some (Value.nilFunc):=rfl
theorem Yh2:zr 55=some (Value.nilFunc):=rfl
theorem Yh1:zr 56=some (Value.nilFunc):=rfl
theorem Yh0:zr 57=some (Value.nilFunc):=rfl
theorem Yhz:zr 58=some (Value.nilFunc):=rfl
theorem Yhy:zr 59=some (Value.nilFunc):=rfl
theorem Yhx:zr 61=some (Value.nilFunc):=rfl
theorem Yhw:zr 62=some (Value.nilFunc):=rfl
theorem Yhv:zr 63=some (Value.nilFunc):=rfl
theorem Yhu:zr 64=some (Value.nilFunc):=rfl
theorem Yht:zr 65=some (Value.nilFunc):=rfl
theorem Yhs:zr 66=some (Value.nilFunc):=rfl
theorem Yhr:zr 67=some (Value.nilFunc):=rfl
theorem Yhq:zr 68=some (Value.nilFunc):=rfl
theorem Yhp:zr 69=some (Value.nilFunc):=rfl
theorem Yho:zr 70=some (Value.nilFunc):=rfl
theorem Yhn:zr 71=some (Value.nilFunc):=rfl
theorem Yhm:zr 72=some (Value.nilFunc):=rfl
theorem Yhl:zr 73=some (Value.nilFunc):=rfl
theorem Yhk:zr 74=some (Value.nilFunc):=rfl
theorem Yhj:zr 75=some (Value.nilFunc):=rfl
theorem Yhi:zr 76=some (Value.nilFunc):=rfl
theorem Yhh:zr 77=some (Value.slice none 0 0):=rfl
theorem Yhg:zr 78=some (Value.slice none 0 0):=rfl
theorem Yhf:zr 79=some (Value.agg #[Value.int i64 0,Value.int i64 0,Value.int i64 0,Value.slice none 0 0,Value.slice none 0 0,Value.int i64 0,Value.int i64 0,Value.bool false]):=rfl
theorem Yhe:zr 80=some (Value.agg #[Value.int i64 0,Value.int i64 0,Value.int i64 0,Value.slice none 0 0,Value.slice none 0 0,Value.int i64 0,Value.int i64 0,Value.bool false]):=rfl
theorem Yhd:zr 81=some (Value.nilFunc):=rfl
theorem Yhc:zr 82=some (Value.nilFunc):=rfl
theorem Yhb:zr 83=some (Value.nilFunc):=rfl
theorem Yha:zr 84=some (Value.nilFunc):=rfl
theorem Yg9:zr 85=some (Value.nilFunc):=rfl
theorem Yg8:zr 86=some (Value.nilFunc):=rfl
theorem Yg7:zr 87=some (Value.slice none 0 0):=rfl
theorem Yg6:zr 88=some (Value.nilFunc):=rfl
theorem Yg5:zr 89=some (Value.nilFunc):=rfl
theorem Yg4:zr 90=some (Value.nilFunc):=rfl
theorem Yg3:zr 91=some (Value.agg #[Value.string { data:= #[] },Value.string { data:= #[] }]):=rfl
theorem Yg2:zr 92=some (Value.agg #[Value.string { data:= #[] },Value.string { data:= #[] }]):=rfl
theorem Yg1:zr 93=some (Value.nilFunc):=rfl
theorem Yg0:zr 94=some (Value.slice none 0 0):=rfl
theorem Ygz:zr 95=some (Value.slice none 0 0):=rfl
theorem Ygy:zr 96=some (Value.agg #[Value.slice none 0 0,Value.slice none 0 0]):=rfl
theorem Ygx:zr 97=some (Value.agg #[Value.slice none 0 0,Value.slice none 0 0]):=rfl
theorem Ygw:zr 98=some (Value.agg #[Value.int i64 0,Value.int i64 0,Value.int i64 0,Value.int i64 0,Value.slice none 0 0,Value.slice none 0 0,Value.slice none 0 0,Value.slice none 0 0,Value.slice none 0 0,Value.int i64 0]):=rfl
theorem Ygv:zr 99=some (Value.agg #[Value.int i64 0,Value.int i64 0,Value.int i64 0,Value.int i64 0,Value.slice none 0 0,Value.slice none 0 0,Value.slice none 0 0,Value.slice none 0 0,Value.slice none 0 0,Value.int i64 0]):=rfl
theorem Q8h:zr 100=some (Value.nilFunc):=rfl
theorem Q8g:zr 101=some (Value.nilFunc):=rfl
theorem Q8f:zr 102=some (Value.nilFunc):=rfl
theorem Q8e:zr 103=some (Value.slice none 0 0):=rfl
theorem Q8d:zr 104=some (Value.agg #[Value.int i64 0,Value.int i64 0,Value.int i64 0,Value.slice none 0 0,Value.slice none 0 0,Value.int i64 0,Value.int i64 0,Value.bool false]):=rfl
theorem Q8c:zr 105=some (Value.agg #[Value.int i64 0,Value.int i64 0,Value.int i64 0,Value.slice none 0 0,Value.slice none 0 0,Value.int i64 0,Value.int i64 0,Value.bool false]):=rfl
theorem Q8b:zr 106=some (Value.nilFunc):=rfl
theorem Q8a:zr 107=some (Value.agg #[Value.int i64 0,Value.slice none 0 0,Value.bool false]):=rfl
theorem Q79:zr 108=some (Value.agg #[Value.int i64 0,Value.slice none 0 0,Value.bool false]):=rfl
theorem Q78:zr 109=some (Value.nilFunc):=rfl
theorem Q77:zr 110=some (Value.slice none 0 0):=rfl
theorem Q76:zr 112=some (Value.nilFunc):=rfl
theorem Q75:zr 113=some (Value.nilFunc):=rfl
theorem Q74:zr 114=some (Value.agg #[Value.string { data:= #[] },Value.string { data:= #[] }]):=rfl
theorem Q73:zr 115=some (Value.nilFunc):=rfl
theorem Q72:zr 116=some (Value.slice none 0 0):=rfl
theorem Q71:zr 117=some (Value.agg #[Value.slice none 0 0,Value.slice none 0 0]):=rfl
theorem Q70:zr 118=some (Value.agg #[Value.int i64 0,Value.int i64 0,Value.int i64 0,Value.int i64 0,Value.slice none 0 0,Value.slice none 0 0,Value.slice none 0 0,Value.slice none 0 0,Value.slice none 0 0,Value.int i64 0]):=rfl
theorem Q7z:zr 119=some (Value.agg #[Value.int i64 0,Value.int i64 0,Value.int i64 0,Value.int i64 0,Value.slice none 0 0,Value.slice none 0 0,Value.slice none 0 0,Value.slice none 0 0,Value.slice none 0 0,Value.int i64 0]):=rfl
theorem Q7y:zr 120=some (Value.nilFunc):=rfl
theorem Q7x:zr 121=some (Value.nilFunc):=rfl
theorem Q7w:zr 122=some (Value.nilFunc):=rfl
theorem Q7v:zr 123=some (Value.nilFunc):=rfl
theorem Q7u:zr 124=some (Value.nilFunc):=rfl
theorem Q7t:zr 125=some (Value.nilFunc):=rfl
theorem Q7s:zr 126=some (Value.nilFunc):=rfl
theorem Q7r:zr 127=some (Value.nilFunc):=rfl
theorem Q7q:zr 128=some (Value.nilFunc):=rfl
theorem Q7p:zr 129=some (Value.nilFunc):=rfl
theorem Q7o:zr 130=some (Value.nilFunc):=rfl
theorem Q7n:zr 131=some (Value.nilFunc):=rfl
theorem Q7m:zr 132=some (Value.nilFunc):=rfl
theorem Q7l:zr 133=some (Value.nilFunc):=rfl
theorem Q7k:zr 134=some (Value.nilFunc):=rfl
theorem Q7j:zr 135=some (Value.nilFunc):=rfl
theorem Q7i:zr 137=some (Value.nilFunc):=rfl
theorem Q7h:zr 138=some (Value.nilFunc):=rfl
theorem Q7g:zr 139=some (Value.nilFunc):=rfl
theorem Q7f:zr 140=some (Value.nilFunc):=rfl
theorem Q7e:zr 141=some (Value.nilFunc):=rfl
theorem Q7d:zr 142=some (Value.nilFunc):=rfl
theorem Q7c:zr 143=some (Value.nilFunc):=rfl
theorem Q7b:zr 144=some (Value.slice none 0 0):=rfl
theorem Q7a:zr 145=some (Value.nilFunc):=rfl
theorem Q69:zr 146=some (Value.nilFunc):=rfl
theorem Q68:zr 147=some (Value.nilFunc):=rfl
theorem Q67:zr 148=some (Value.agg #[Value.int i64 0,Value.string { data:= #[] },Value.string { data:= #[] },Value.int i64 0,Value.int i64 0,Value.string { data:= #[] }]):=rfl
theorem Q66:zr 149=some (Value.agg #[Value.int i64 0,Value.string { data:= #[] },Value.string { data:= #[] },Value.int i64 0,Value.int i64 0,Value.string { data:= #[] }]):=rfl
theorem Q65:zr 150=some (Value.agg #[Value.int i64 0,Value.int i64 0,Value.string { data:= #[] },Value.string { data:= #[] },Value.int i64 0,Value.int i64 0,Value.string { data:= #[] }]):=rfl
theorem Q64:zr 151=some (Value.agg #[Value.int i64 0,Value.int i64 0,Value.string { data:= #[] },Value.string { data:= #[] },Value.int i64 0,Value.int i64 0,Value.string { data:= #[] }]):=rfl
theorem Q63:zr 152=some (Value.nilFunc):=rfl
theorem Q62:zr 153=some (Value.agg #[Value.int i64 0,Value.int i64 0,Value.string { data:= #[] }]):=rfl
theorem Q61:zr 154=some (Value.agg #[Value.int i64 0,Value.int i64 0,Value.string { data:= #[] }]):=rfl
theorem Q60:zr 155=some (Value.nilFunc):=rfl
theorem Q6z:zr 156=some (Value.nilFunc):=rfl
theorem Q6y:zr 157=some (Value.nilFunc):=rfl
theorem Q6x:zr 158=some (Value.nilFunc):=rfl
theorem Q6w:zr 159=some (Value.nilFunc):=rfl
theorem Q6v:zr 160=some (Value.nilFunc):=rfl
theorem Q6u:zr 161=some (Value.nilFunc):=rfl
theorem Q6t:zr 162=some (Value.nilFunc):=rfl
theorem Q6s:zr 163=some (Value.nilFunc):=rfl
theorem Q6r:zr 164=some (Value.nilFunc):=rfl
theorem Q6q:zr 165=some (Value.nilFunc):=rfl
theorem Q6p:zr 166=some (Value.nilFunc):=rfl
theorem Q6o:zr 167=some (Value.agg #[Value.int i64 0,Value.slice none 0 0,Value.bool false]):=rfl
theorem Q6n:zr 168=some (Value.agg #[Value.int i64 0,Value.slice none 0 0,Value.bool false]):=rfl
theorem Q6m:zr 169=some (Value.nilFunc):=rfl
theorem Q6l:zr 170=some (Value.nilFunc):=rfl
theorem Q6k:zr 171=some (Value.nilFunc):=rfl
theorem Q6j:zr 172=some (Value.nilFunc):=rfl
theorem Q6i:zr 173=some (Value.nilFunc):=rfl
theorem Q6h:zr 175=some (Value.nilFunc):=rfl
theorem Q6g:zr 176=some (Value.nilFunc):=rfl
theorem Q6f:zr 177=some (Value.nilFunc):=rfl
theorem Q6e:zr 178=some (Value.nilFunc):=rfl
theorem Q6d:zr 179=some (Value.nilFunc):=rfl
theorem Q6c:zr 180=some (Value.nilFunc):=rfl
theorem Q6b:zr 181=some (Value.nilFunc):=rfl
theorem Q6a:zr 182=some (Value.nilFunc):=rfl
theorem Q59:zr 183=some (Value.nilFunc):=rfl
theorem Q58:zr 184=some (Value.nilFunc):=rfl
theorem Q57:zr 185=some (Value.nilFunc):=rfl
theorem Q56:zr 186=some (Value.nilFunc):=rfl
theorem Q55:zr 187=some (Value.nilFunc):=rfl
theorem Q54:zr 188=some (Value.nilFunc):=rfl
theorem Q53:zr 189=some (Value.nilFunc):=rfl
theorem Q52:zr 190=some (Value.nilFunc):=rfl
theorem Q51:zr 192=some (Value.nilFunc):=rfl
theorem Q50:zr 193=some (Value.nilFunc):=rfl
theorem Q5z:zr 194=some (Value.nilFunc):=rfl
theorem Q5y:zr 195=some (Value.nilFunc):=rfl
theorem Q5x:zr 196=some (Value.nilFunc):=rfl
theorem Q5w:zr 197=some (Value.nilFunc):=rfl
theorem Q5v:zr 198=some (Value.nilFunc):=rfl
theorem Q5u:zr 199=some (Value.nilFunc):=rfl
theorem Q5t:zr 200=some (Value.nilFunc):=rfl
theorem Q5s:zr 201=some (Value.nilFunc):=rfl
theorem Q5r:zr 202=some (Value.nilFunc):=rfl
theorem Q5q:zr 203=some (Value.nilFunc):=rfl
theorem Q5p:zr 204=some (Value.nilFunc):=rfl
theorem Q5o:zr 205=some (Value.agg #[Value.int i64 0,Value.string { data:= #[] },Value.string { data:= #[] },Value.int i64 0,Value.int i64 0,Value.string { data:= #[] }]):=rfl
theorem Q5n:zr 206=some (Value.nilFunc):=rfl
theorem Q5m:zr 207=some (Value.agg #[Value.int i64 0,Value.int i64 0,Value.string { data:= #[] }]):=rfl
theorem Q5l:zr 208=some (Value.nilFunc):=rfl
theorem Q5k:zr 209=some (Value.agg #[Value.int i64 0,Value.int i64 0,Value.string { data:= #[] },Value.string { data:= #[] },Value.int i64 0,Value.int i64 0,Value.string { data:= #[] }]):=rfl
theorem Q5j:zr 210=some (Value.agg #[Value.int i64 0,Value.int i64 0,Value.string { data:= #[] },Value.string { data:= #[] },Value.int i64 0,Value.int i64 0,Value.string { data:= #[] }]):=rfl
theorem Q5i:zr 211=some (Value.nilFunc):=rfl
theorem Q5h:zr 212=some (Value.nilFunc):=rfl
theorem Q5g:zr 213=some (Value.nilFunc):=rfl
theorem Q5f:zr 214=some (Value.nilFunc):=rfl
theorem Q5e:zr 215=some (Value.nilFunc):=rfl
theorem Q5d:zr 216=some (Value.nilFunc):=rfl
theorem Q5c:zr 217=some (Value.nilFunc):=rfl
theorem Q5b:zr 218=some (Value.nilFunc):=rfl
theorem Q5a:zr 219=some (Value.nilFunc):=rfl
theorem Q49:zr 220=some (Value.nilFunc):=rfl
theorem Q48:zr 222=some (Value.nilFunc):=rfl
theorem Q47:zr 223=some (Value.nilFunc):=rfl
theorem Q46:zr 224=some (Value.nilFunc):=rfl
theorem Q45:zr 225=some (Value.nilFunc):=rfl
theorem Q44:zr 229=some (Value.nilFunc):=rfl
theorem Q43:zr 230=some (Value.nilFunc):=rfl
theorem Q42:zr 231=some (Value.nilFunc):=rfl
theorem Q41:zr 232=some (Value.nilFunc):=rfl
theorem Q40:zr 233=some (Value.nilFunc):=rfl
theorem Q4z:zr 234=some (Value.nilFunc):=rfl
theorem Q4y:zr 235=some (Value.nilFunc):=rfl
theorem Q4x:zr 237=some (Value.nilFunc):=rfl
theorem Q4w:zr 238=some (Value.pointer none):=rfl
theorem Q4v:zr 239=some (Value.agg #[Value.pointer none,Value.slice none 0 0]):=rfl
theorem Q4u:zr 240=some (Value.agg #[Value.pointer none,Value.slice none 0 0]):=rfl
theorem Q4t:zr 241=some (Value.nilFunc):=rfl
theorem Q4s:zr 242=some (Value.nilFunc):=rfl
theorem Q4r:zr 243=some (Value.nilFunc):=rfl
theorem Q4q:zr 244=some (Value.nilFunc):=rfl
theorem Q4p:zr 245=some (Value.nilFunc):=rfl
theorem Q4o:zr 246=some (Value.nilFunc):=rfl
theorem Q4n:zr 247=some (Value.nilFunc):=rfl
theorem Q4m:zr 249=some (Value.nilFunc):=rfl
theorem Q4l:zr 250=some (Value.nilFunc):=rfl
theorem Q4k:zr 251=some (Value.nilFunc):=rfl
theorem Q4j:zr 252=some (Value.nilFunc):=rfl
theorem Q4i:zr 253=some (Value.pointer none):=rfl
theorem Q4h:zr 254=some (Value.nilFunc):=rfl
theorem Q4g:zr 255=some (Value.int IntKind.u8 0):=rfl
theorem Q4f:zr 256=some (Value.int IntKind.u64 0):=rfl
theorem Q4e:zr 257=some (Value.nilFunc):=rfl
theorem Q4d:zr 258=some (Value.nilFunc):=rfl
theorem Q4c:zr 259=some (Value.nilFunc):=rfl
theorem Q4b:zr 260=some (Value.int i64 0):=rfl
theorem Q4a:zr 262=some (Value.nilFunc):=rfl
theorem Q39:zr 263=some (Value.pointer none):=rfl
theorem Q38:zr 264=some (Value.nilFunc):=rfl
theorem Q37:zr 265=some (Value.nilFunc):=rfl
theorem Q36:zr 267=some (Value.nilFunc):=rfl
theorem Q35:zr 269=some (Value.int IntKind.u64 0):=rfl
theorem Q34:zr 270=some (Value.nilFunc):=rfl
theorem Q33:zr 271=some (Value.nilFunc):=rfl
theorem Q32:zr 273=some (Value.nilFunc):=rfl
theorem Q31:zr 274=some (Value.nilFunc):=rfl
theorem Q30:zr 276=some (Value.agg #[Value.int IntKind.u8 0,Value.int IntKind.u8 0]):=rfl
theorem Q3z:zr 277=some (Value.agg #[Value.int IntKind.u8 0,Value.int IntKind.u8 0]):=rfl
theorem Q3y:zr 280=some (Value.nilFunc):=rfl
theorem Q3x:zr 283=some (Value.nilFunc):=rfl
theorem Q3w:zr 284=some (Value.int IntKind.u32 0):=rfl
theorem Q3v:zr 286=some (Value.nilFunc):=rfl
theorem Q3u:zr 287=some (Value.nilFunc):=rfl
theorem Q3t:zr 290=some (Value.nilFunc):=rfl
theorem Q3s:zr 291=some (Value.nilFunc):=rfl
theorem Q3r:zr 292=some (Value.nilFunc):=rfl
theorem Q3q:zr 293=some (Value.pointer none):=rfl
theorem Q3p:zr 294=some (Value.agg #[Value.string { data:= #[] }]):=rfl
theorem Q3o:zr 295=some (Value.agg #[Value.string { data:= #[] }]):=rfl
theorem Q3n:zr 296=some (Value.nilFunc):=rfl
theorem Q3m:zr 299=some (Value.pointer none):=rfl
theorem Q3l:zr 300=some (Value.pointer none):=rfl
theorem Q3k:zr 301=some (Value.agg #[Value.pointer none,Value.pointer none,Value.pointer none,Value.string { data:= #[] }]):=rfl
theorem Q3j:zr 302=some (Value.agg #[Value.pointer none,Value.pointer none,Value.pointer none,Value.string { data:= #[] }]):=rfl
theorem Q3i:zr 306=some (Value.int IntKind.u8 0):=rfl
theorem Q3h:zr 307=some (Value.int IntKind.u8 0):=rfl
theorem Q3g:zr 308=some (Value.nilFunc):=rfl
theorem Q3f:zr 309=some (Value.int IntKind.i32 0):=rfl
theorem Q3e:zr 310=some (Value.int IntKind.i32 0):=rfl
theorem Q3d:zr 311=some (Value.agg #[Value.int IntKind.u64 0,Value.int IntKind.u64 0,Value.int IntKind.u32 0,Value.int IntKind.u8 0,Value.int IntKind.u8 0,Value.int IntKind.u8 0,Value.int IntKind.u8 0,Value.nilFunc,Value.pointer none,Value.int IntKind.i32 0,Value.int IntKind.i32 0]):=rfl
theorem Q3c:zr 312=some (Value.agg #[Value.int IntKind.u64 0,Value.int IntKind.u64 0,Value.int IntKind.u32 0,Value.int IntKind.u8 0,Value.int IntKind.u8 0,Value.int IntKind.u8 0,Value.int IntKind.u8 0,Value.nilFunc,Value.pointer none,Value.int IntKind.i32 0,Value.int IntKind.i32 0]):=rfl
theorem Q3b:zr 313=some (Value.nilFunc):=rfl
theorem Q3a:zr 317=some (Value.agg #[Value.string { data:= #[] },Value.slice none 0 0]):=rfl
def Gw (w:World):Prop:=GV 6 (gl6.map (Value.int .u64)) w∧GE 0 w∧GE 4 w∧GE 5 w
theorem GV.keep {g:Nat} {cs:List Value} {w w':World} (h:GV g cs w) (hk:Keep (Old w) w w'):GV g cs w':=by
 have hl:=h.lt
 obtain⟨T,fr,h⟩:=h
 exact⟨T,fr,(hk.block g hl).trans h⟩
theorem Yt0: ∀ w w',Gw w→Keep (Old w) w w'→Gw w':=fun _ _ h hk=>⟨h.1.keep hk,h.2.1.keep hk,h.2.2.1.keep hk,h.2.2.2.keep hk⟩
def gls:List Nat:=[6,0,4,5]
theorem Gin (w : World) (h : Gw w) : ∀ g ∈ gls, Old w g := fun g hg => by
 simp only[gls,List.mem_cons,List.not_mem_nil,or_false] at hg
 rcases hg with rfl | rfl | rfl | rfl
 ·exact h.1.lt
 ·exact h.2.1.lt
 ·exact h.2.2.1.lt
 ·exact h.2.2.2.lt
theorem Gl6: ∀ w,Gw w→GV 6 (gl6.map (Value.int .u64)) w:=fun _ h=>h.1
theorem Gl0: ∀ w,Gw w→GE 0 w:=fun _ h=>h.2.1
theorem Gl4: ∀ w,Gw w→GE 4 w:=fun _ h=>h.2.2.1
theorem Gl5: ∀ w,Gw w→GE 5 w:=fun _ h=>h.2.2.2
theorem Ymm:SysOk Tryz.prog ti zr Gw:=⟨tiok,zok,Yt0⟩
theorem mixed:Tryz.prog.follows .mixedOrders=true:=by kernel_rfl
structure Bs where
 S0:Nat→Prop
 w:World
 gok: ∀ w',Keep S0 w w'→Gw w'
 base: ∀ b,S0 b→b<w.heap.size
 gin: ∀ g∈gls,S0 g
 Q:(World→Value→Prop)→World→Value→Prop
@[reducible] def Bs.old (w:World) (hG:Gw w):Bs:=⟨Old w,w,fun w' hk=>Yt0 w w' hG hk,fun _ h=>h,Gin w hG,fun R=>R⟩
@[reducible] def Bs.mut (S:Nat→Prop) (w:World) (hG: ∀ w',Keep S w w'→Gw w') (hb: ∀ b,S b→b<w.heap.size) (hg: ∀ g∈gls,S g) (p:Nat→Loc) (mk:Nat) (E1:List (Nat×En)) (nn:Nat) (r:List V) (G0:Prop):Bs:=⟨S,w,hG,hb,hg,fun _=>MQ S w p mk E1 nn r G0⟩
@[reducible] noncomputable def cx (fn:Func) (Bz:Bs) (S1:Nat→Prop) (w1:World) (hk1:Keep Bz.S0 Bz.w w1) (hs1: ∀ b,Bz.S0 b→S1 b) (hd1: ∀ b,S1 b→b<w1.heap.size):Cx:=⟨Tryz.prog,fn,ti,zr,Gw,S1,w1,tiok,zok,fun w' hk=>Bz.gok w' (hk1.trans (hk.mono hs1)),hd1,Bz.Q⟩
abbrev CTEs (f:FuncId) (args:List Arg) (res:Value→List Re) (ok:Bool):Prop:=CTE Tryz.prog Gw f args res ok
abbrev CTMs (f:FuncId) (mk m0:Nat) (E0 F0:List (Nat×En)) (args:List V) (E1:List (Nat×En)) (nn:Nat) (r:List V) (G0:Prop):Prop:=CTM Tryz.prog Gw gls f mk m0 E0 F0 args E1 nn r G0
abbrev CTs (f:FuncId) (args:List Arg) (res:List Re):Prop:=CT Tryz.prog Gw f args res
theorem om {p:Prop} (h:p:=by first | omega | (simp only[Bool.not_eq_eq_eq_not,Bool.not_true,Bool.not_false,decide_eq_true_eq,decide_eq_false_iff_not,Bool.not_eq_true',Bool.not_eq_false',Bool.or_eq_false_iff,Bool.or_eq_true,Bool.and_eq_true,Decidable.not_not] at *;omega) | ((repeat rw[IntWalk.i64_in _ (by omega)]);omega)):p:=h
theorem lv0 {p:Prop} (h:p:=by first | exact⟨by omega,by simp⟩ | omega | simp | (dsimp only;omega)):p:=h
theorem lv1 {p:Prop} (h:p:=by show _ - _<_ - _;(try dsimp only);omega):p:=h
theorem lv2 {p:Prop} (h:p:=by first | assumption | omega | exact om):p:=h
theorem lv5 {p:Prop} (h:p:=by first | assumption | exact om):p:=h
theorem lv3 {p:Prop} (h:p:=by first | assumption | (unfold I64;omega)):p:=h
section
variable {fn:Func} {Bz:Bs} {S1:Nat→Prop} {w1:World} {hk1:Keep Bz.S0 Bz.w w1} {hs1: ∀ b,Bz.S0 b→S1 b} {hd1: ∀ b,S1 b→b<w1.heap.size} {res:List Re} {σ σ':St} {k k':List It}
theorem Dq1.{u} {α:Sort u} {a b:α} (h:a=b:=by dsimp only[ncV,szA,cvV,rnR,rnE,V.rn,rnL,En.rn,Qgn,memN,Qda,an,stK,cdK,opK,gdK,nvK,Qpj,Qpb,blK,bsK,stW,stV,ptK,litD,litC,pkV,wrV,binV,unV,ldV,faW,faV,agO,blV,exV,mfV,lenV,caV,Q18,Q0u,stO',sdV,Qa9,grdO,gBV,gPw,gPk,gGo,gK,gK1,gK2,tkK,tk1,rvsV,rvV,Nat.reduceAdd,Nat.reduceSub,Nat.reduceMul,advN,adv1,stO,litV,Qsq,Qne,pv,ev,evs,lk,lkE,setE,putE,put,cond,ldC,ldE,nthN,tuAt,bin,bi,bs,bb,ikq,TI.cells,V.cells,V.one,oneL,Qpx,grd,nthO,beqB,gB,wnt,gOp,adG,adG1,Q0a,Qfp,evG,V.side,V.strip,Qch,Qdg,Qeh,Qc9,Qjb,Qfx,Qg9,Qi2,Qnv,Qj1,Qma,ini,Qln,opn,nsl,adD,Qkw,Str.fk,ti_1,ti_2,ti_3,ti_4,ti_5,ti_6,ti_7,ti_8,ti_9,Ydc,Ydb,Yda,Yc9,Yc8,Yc7,Yc6,Yc5,Yc4,Yc3,Yc2,Yc1,Yc0,Ycz,Ycy,Ycx,Ycw,Ycv,Ycu,Yct,Ycs,Ycr,Ycq,Ycp,Yco,Ycn,Ycm,Ycl,Yck,Ycj,Yci,Ych,Ycg,Ycf,Yce,Ycd,Ycc,Ycb,Yca,Yb9,Yb8,Yb7,Yb6,Yb5,Yb4,Yb3,Yb2,Yb1,Yb0,Ybz,Yby,Ybx,Ybw,Ybv,Ybu,Ybt,Ybs,Ybr,Ybq,Ybp,Ybo,Ybn,Ybm,Ybl,Ybk,Ybj,Ybi,Ybh,Ybg,Ybf,Ybe,Ybd,Ybc,Ybb,Yba,Ya9,Ya8,Ya7,Ya6,Ya5,Ya4,Ya3,Ya2,Ya1,Ya0,Yaz,Yay,Yax,Qyl,Qyk,Qyj,Qyi,Qyh,Qyg,Qyf,Qye,Qyd,Qyc,Qyb,Qya,Qx9,Qx8,Qx7,Qx6,Qqn,Qx5,Qx4,Qx3,Qx2,Qx1,Qx0,Qxz,Qxy,Qxx,Qxw,Qxv,Qxu,Qxt,Qxs,Qxr,Qxq,Qxp,Qxo,Qxn,Qxm,Qxl,Qxk,Qxj,Qxi,Qxh,Qxg,Qxf,Qxe,Qxd,Qxc,Qxb,Qxa,Qw9,Qw8,Qw7,Qw6,Qw5,Qw4,Qw3,Qw2,Qw1,Qw0,Qwz,Qwy,Qwx,Qww,Qwv,Qwu,Qwt,Qws,Qwr,Qwq,Qwp,Qwo,Qwn,Qwm,Qwl,Qwk,Qwj,Qwi,Qwh,Qwg,Qwf,Qwe,Qwd,Qwc,Qwb,Qwa,Qv9,Qv8,Qv7,Qv6,Qv5,Qv4,Qv3,Qv2,Qv1,Qv0,Qvz,Qvy,Qvx,Qvw,Qvv,Qvu,Qvt,Qvs,Qvr,Qvq,Qvp,Qvo,Qvn,Qvm,Qvl,Qvk,Qvj,Qvi,Qvh,Qvg,Qvf,Qve,Qvd,Qvc,Qvb,Qva,Qu9,Qu8,Qu7,Qu6,Qu5,Qu4,Qu3,Qu2,Qu1,Qu0,Quz,Quy,Qux,Quw,Quv,Quu,Qut,Qus,Qur,Quq,Qup,Quo,Qun,Qum,Qul,Quk,Quj,Qui,Quh,Qug,Quf,Que,Qud,Quc,Qub,Qua,Qt9,Qt8,Qt7,Qt6,Qt5,Qt4,Qt3,Qt2,Qt1,Qt0,Qtz,Qty,Qtx,Qtw,Qtv,Qtu,Qtt,Qts,Qtr,Qtq,Qtp,Qto,Qtn,Qtm,Qtl,Qtk,Qtj,Qti,Qth,Qtg,Qtf,Qte,Qtd,Qtc,Qtb,zr_1,zr_2,zr_3,zr_4,zr_5,zr_6,zr_7,zr_8,zr_9,Yja,Yi9,Yi8,Yi7,Yi6,Yi5,Yi4,Yi3,Yi2,Yi1,Yi0,Yiz,Yiy,Yix,Yiw,Yiv,Yiu,Yit,Yis,Yir,Yiq,Yip,Yio,Yin,Yim,Yil,Yik,Yij,Yii,Yih,Yig,Yif,Yie,Yid,Yic,Yib,Yia,Yh9,Yh8,Yh7,Yh6,Yh5,Yh4,Yh3,Yh2,Yh1,Yh0,Yhz,Yhy,Yhx,Yhw,Yhv,Yhu,Yht,Yhs,Yhr,Yhq,Yhp,Yho,Yhn,Yhm,Yhl,Yhk,Yhj,Yhi,Yhh,Yhg,Yhf,Yhe,Yhd,Yhc,Yhb,Yha,Yg9,Yg8,Yg7,Yg6,Yg5,Yg4,Yg3,Yg2,Yg1,Yg0,Ygz,Ygy,Ygx,Ygw,Ygv,Q8h,Q8g,Q8f,Q8e,Q8d,Q8c,Q8b,Q8a,Q79,Q78,Q77,Q76,Q75,Q74,Q73,Q72,Q71,Q70,Q7z,Q7y,Q7x,Q7w,Q7v,Q7u,Q7t,Q7s,Q7r,Q7q,Q7p,Q7o,Q7n,Q7m,Q7l,Q7k,Q7j,Q7i,Q7h,Q7g,Q7f,Q7e,Q7d,Q7c,Q7b,Q7a,Q69,Q68,Q67,Q66,Q65,Q64,Q63,Q62,Q61,Q60,Q6z,Q6y,Q6x,Q6w,Q6v,Q6u,Q6t,Q6s,Q6r,Q6q,Q6p,Q6o,Q6n,Q6m,Q6l,Q6k,Q6j,Q6i,Q6h,Q6g,Q6f,Q6e,Q6d,Q6c,Q6b,Q6a,Q59,Q58,Q57,Q56,Q55,Q54,Q53,Q52,Q51,Q50,Q5z,Q5y,Q5x,Q5w,Q5v,Q5u,Q5t,Q5s,Q5r,Q5q,Q5p,Q5o,Q5n,Q5m,Q5l,Q5k,Q5j,Q5i,Q5h,Q5g,Q5f,Q5e,Q5d,Q5c,Q5b,Q5a,Q49,Q48,Q47,Q46,Q45,Q44,Q43,Q42,Q41,Q40,Q4z,Q4y,Q4x,Q4w,Q4v,Q4u,Q4t,Q4s,Q4r,Q4q,Q4p,Q4o,Q4n,Q4m,Q4l,Q4k,Q4j,Q4i,Q4h,Q4g,Q4f,Q4e,Q4d,Q4c,Q4b,Q4a,Q39,Q38,Q37,Q36,Q35,Q34,Q33,Q32,Q31,Q30,Q3z,Q3y,Q3x,Q3w,Q3v,Q3u,Q3t,Q3s,Q3r,Q3q,Q3p,Q3o,Q3n,Q3m,Q3l,Q3k,Q3j,Q3i,Q3h,Q3g,Q3f,Q3e,Q3d,Q3c,Q3b,Q3a,Nat.blt,Nat.succ_eq_add_one,Nat.ble,Nat.beq,Nat.pred,Nat.add_zero,Nat.zero_add,Nat.add_eq,List.toList_toArray,List.length,List.length_cons,List.length_nil,List.take,List.drop,List.append_nil,List.nil_append,List.cons_append,List.map,List.take_succ_cons,List.take_zero,List.take_nil,List.drop_succ_cons,List.drop_zero,List.drop_nil,List.size_toArray,List.getD,id,Op.operands,Call.operands,Value.cells,Array.size_empty]):a=b:=h
theorem ad (n:Nat) (h:Run (cx fn Bz S1 w1 hk1 hs1 hd1) res σ' k') (hs:advN ti zr n (some (σ,k))=some (σ',k'):=by exact Dq1):Run (cx fn Bz S1 w1 hk1 hs1 hd1) res σ k:=Run.advN n hs h
theorem ag (n:Nat) {l l':List Oper} {all:Array Oper} {q:Prop} (h:Run (cx fn Bz S1 w1 hk1 hs1 hd1) res σ' (.ops l' all::k)) (hs:adG ti zr all n (some (σ,l,True))=some (σ',l',q):=by exact Dq1) (hq:q:=by(repeat' apply And.intro)<;>first | exact trivial | exact fun h=>h | exact fun h=>(Bool.and_eq_true_iff.1 h).1 | exact fun h=>(Bool.and_eq_true_iff.1 h).2 | exact fun h=>(Bool.and_eq_true_iff.1 (Bool.and_eq_true_iff.1 h).1).1 | (intro h;simp_all)):Run (cx fn Bz S1 w1 hk1 hs1 hd1) res σ (.ops l all::k):=Run.adG n hs hq h
theorem Dq0.{u} {α:Sort u} {a b:α} (h:a=b:=by dsimp only[ev,evs,evsG,Qa9,lk,lkE,cond,Nat.beq,evG,stO',V.strip,grd,grdO,nthO,gB,gBV,Nat.pred,wnt,List.toList_toArray,List.cons_append,List.nil_append,List.append_nil]):a=b:=h
theorem cd {x:Operand} {y z:Code} {b:Bool} (ht:b=true→Run (cx fn Bz S1 w1 hk1 hs1 hd1) res σ (.code y::k)) (hf:b=false→Run (cx fn Bz S1 w1 hk1 hs1 hd1) res σ (.code z::k)) (hx:ev σ.ρ x=some (.v (.bool b)):=by exact Dq0):Run (cx fn Bz S1 w1 hk1 hs1 hd1) res σ (.code (.cond x y z)::k):=Run.cond hx ht hf
theorem Dq2.{u} {α:Sort u} {a b:α} (h:a=b:=by dsimp only[Qch,Qj2,Qen,setV,fwE,En.fw,V.fw,fwL,nthG,pickE,Qpa,nthE,Nat.pred,Qdg,Qfh,Qfg,Qda,rnR,rnE,V.rn,rnL,En.rn,Qgn,memN,V.names.namesL,V.names,Qeh,Qc9,put,putE,setE,Qjb,Qfx,Qg9,opn,nsl,id,cond,Nat.beq,Nat.reduceAdd,Nat.add_zero,Nat.zero_add,List.cons_append,List.nil_append,List.append_nil,List.append,List.length_cons,List.length_nil,Str.fk]):a=b:=h
theorem op {o:Oper} {r:List Oper} {all:Array Oper} {σ1:St} (ho:OpS (cx fn Bz S1 w1 hk1 hs1 hd1) σ all o σ1) (h:Run (cx fn Bz S1 w1 hk1 hs1 hd1) res σ' (.ops r all::k)) (hs:σ1=σ':=by exact Dq2):Run (cx fn Bz S1 w1 hk1 hs1 hd1) res σ (.ops (o::r) all::k):=Run.op ho (by rw[hs];exact h)
theorem og {o:Oper} {r:List Oper} {all:Array Oper} {σ1:St} {G H:Prop} (ho:OpSg (cx fn Bz S1 w1 hk1 hs1 hd1) σ all o σ1 G) (h:H→Run (cx fn Bz S1 w1 hk1 hs1 hd1) res σ' (.ops r all::k)) (hs:σ1=σ':=by exact Dq2) (hh:G=H:=by first | dsimp only[Q22] | rfl):Run (cx fn Bz S1 w1 hk1 hs1 hd1) res σ (.ops (o::r) all::k):=Run.opg ho (by rw[hs,hh];exact h)
theorem fz (r:Nat) {α:Type} {d:Dat α} {xs:List α} {E':List (Nat×En)} (h:Run (cx fn Bz S1 w1 hk1 hs1 hd1) res ⟨σ.n,σ.m,σ.ρ,E'⟩ k) (he:lkE σ.E r=some (.own α d xs):=by exact Dq0) (hs:putE r (r,.ros α d xs) σ.E=E':=by exact Dq2):Run (cx fn Bz S1 w1 hk1 hs1 hd1) res σ k:=Run.freeze r he (by rw[hs];exact h)
theorem nC (r j:Nat) (α:Type) (d:Dat α) {cs:List V} {T:TypeId} {σ':St} (h:Run (cx fn Bz S1 w1 hk1 hs1 hd1) res σ' k) (hl:lkE σ.E r=some (.var cs T):=by exact Dq0) (hj:nthV cs j=some (.v (.slice none 0 0)):=by rfl) (hs:(⟨σ.n,σ.m+1,σ.ρ,(σ.m,.own α d [])::putE r (r,.var (setV (.sl σ.m 0) cs j) T) σ.E⟩:St)=σ':=by exact Dq2):Run (cx fn Bz S1 w1 hk1 hs1 hd1) res σ k:=Run.nilC r j hl hj (by rw[hs];exact h)
theorem gd (r:Nat) {α:Type} {d:Dat α} {xs:List α} (h:(@instDatList α d).good xs→Run (cx fn Bz S1 w1 hk1 hs1 hd1) res σ k) (hp:payE σ.E r=some ⟨α,d,xs⟩:=by rfl):Run (cx fn Bz S1 w1 hk1 hs1 hd1) res σ k:=Run.gd r hp h
theorem li (r:Nat) {α:Type} {d:Dat α} [s:@Str α d] (ys:List α) {cs:List V} {T n:Nat} {E':List (Nat×En)} (h:Run (cx fn Bz S1 w1 hk1 hs1 hd1) res ⟨σ.n,σ.m,σ.ρ,E'⟩ k) (he:lkE σ.E r=some (.lit cs T n):=by exact Dq0) (ho:ElOk σ.E (Dat.sz α) d s.fk ys cs:=by dsimp only[ElOk,Qzn,Qm4,En.payO,lkE,cond,Nat.beq,FkO,agC,List.map,Str.fk,id,List.take,List.drop,List.take_succ_cons,List.drop_succ_cons,List.take_zero,List.drop_zero];repeat' (first | assumption | exact gi _ | exact gs _ | rfl | exact trivial | apply And.intro | omega)) (hl:ys.length=n:=by rfl) (hm:Nat.ble n 1000=true:=by rfl) (hn:V.names.namesL cs=[]:=by rfl) (hs:putE r (r,.own α d ys) σ.E=E':=by exact Dq2):Run (cx fn Bz S1 w1 hk1 hs1 hd1) res σ k:=Run.lit r ys he hl hm hn ho (by rw[hs];exact h)
theorem dr {id:Nat} {ops:Array Oper} (n:Nat) {σ':St} (h: ∀ S2 w2 hk2 hs2 hd2,(∀ θ σ a w',R (cx fn Bz S2 w2 hk2 hs2 hd2) θ σ a w'→R (cx fn Bz S1 w1 hk1 hs1 hd1) θ σ a w')→RunD (cx fn Bz S2 w2 hk2 hs2 hd2) (kQ (cx fn Bz S1 w1 hk1 hs1 hd1) res k .normal) σ'.E σ'.m ops n [] (Array.replicate n false) σ') (hs:σ=σ':=by dsimp only) (hn:ops.size=n:=by rfl):Run (cx fn Bz S1 w1 hk1 hs1 hd1) res σ (.code (.region id ops true)::k):=by
 subst hs
 exact Run.draw n mixed hn fun S w2 hk hs hd=>h S w2 (hk1.trans ((show Keep S1 w1 w2 from hk).mono hs1)) (fun b hb=>hs b (hs1 b hb)) hd (fun _ _ _ _ h=>R.unbase (hk:=hk) (hs:=hs) (hd:=hd) h)
theorem ds {id:Nat} {ops:Array Oper} (n:Nat) (is0:List Nat) {E0:List (Nat×En)} {σ':St} (h: ∀ S2 w2 hk2 hs2 hd2,(∀ θ σ a w',R (cx fn Bz S2 w2 hk2 hs2 hd2) θ σ a w'→R (cx fn Bz S1 w1 hk1 hs1 hd1) θ σ a w')→RunD (cx fn Bz S2 w2 hk2 hs2 hd2) (kQ (cx fn Bz S1 w1 hk1 hs1 hd1) res k .normal) E0 σ'.m ops n [] (Array.replicate n false) σ') (hs:σ=σ':=by dsimp only) (hE:pk is0 σ.E=E0:=by dsimp only[pk,pkc,nthE,cond,Nat.beq,Nat.pred]) (hp:is0.map (nthE σ.E)=E0.map some:=by rfl) (hd0:is0.Nodup:=by decide) (hn:ops.size=n:=by rfl):Run (cx fn Bz S1 w1 hk1 hs1 hd1) res σ (.code (.region id ops true)::k):=by
 subst hs
 exact Run.drawS n is0 E0 hp hd0 mixed hn fun S w2 hk hs hd=>h S w2 (hk1.trans ((show Keep S1 w1 w2 from hk).mono hs1)) (fun b hb=>hs b (hs1 b hb)) hd (fun _ _ _ _ h=>R.unbase (hk:=hk) (hs:=hs) (hd:=hd) h)
end
section
variable {fn:Func} {Bz:Bs} {S1:Nat→Prop} {w1:World} {hk1:Keep Bz.S0 Bz.w w1} {hs1: ∀ b,Bz.S0 b→S1 b} {hd1: ∀ b,S1 b→b<w1.heap.size} {K:Act→World→Prop} {E0 M:List (Nat×En)} {m0:Nat} {ops:Array Oper} {σ σ' σ1:St} {listed:Array Bool}
theorem tk (is:List Nat) {n n':Nat} {q:Prop} (h:RunD (cx fn Bz S1 w1 hk1 hs1 hd1) K E0 m0 ops n M (Qkw listed is) σ') (hn:n'=n+is.length:=by rfl) (hb:okD ops listed is=true:=by kernel_rfl) (hs:adD ti zr ops (M++E0) is (some (σ,True))=some (σ',q):=by exact Dq1) (hq:q:=by(repeat' apply And.intro)<;>first | exact trivial | exact fun h=>h | exact fun h=>(Bool.and_eq_true_iff.1 h).1 | exact fun h=>(Bool.and_eq_true_iff.1 h).2 | exact fun h=>(Bool.and_eq_true_iff.1 (Bool.and_eq_true_iff.1 h).1).1 | (intro h;simp_all)):RunD (cx fn Bz S1 w1 hk1 hs1 hd1) K E0 m0 ops n' M listed σ:=by subst hn;exact RunD.takes is hb hs hq h
theorem on (i:Nat) (is:List Nat) {n n':Nat} (ho:OpS (cx fn Bz S1 w1 hk1 hs1 hd1) σ ops (opAt ops.toList i) σ1) (h:RunD (cx fn Bz S1 w1 hk1 hs1 hd1) K E0 m0 ops n M (listed.setIfInBounds i true) σ') (hn:n'=n+1:=by rfl) (hi:nthO ops.toList i=some (opAt ops.toList i):=by rfl) (hs:σ1=σ':=by exact Dq2) (hp:is.map (nthE σ'.E)=E0.map some:=by rfl) (hr:Region.ready .any ops listed=[i]:=by kernel_rfl) (hd:is.Nodup:=by decide):RunD (cx fn Bz S1 w1 hk1 hs1 hd1) K E0 m0 ops n' M listed σ:=by subst hs;subst hn;exact RunD.only i is hr hi ho hp hd h
theorem ong (i:Nat) (is:List Nat) {n n':Nat} {G H:Prop} (ho:OpSg (cx fn Bz S1 w1 hk1 hs1 hd1) σ ops (opAt ops.toList i) σ1 G) (h:H→RunD (cx fn Bz S1 w1 hk1 hs1 hd1) K E0 m0 ops n M (listed.setIfInBounds i true) σ') (hn:n'=n+1:=by rfl) (hi:nthO ops.toList i=some (opAt ops.toList i):=by rfl) (hs:σ1=σ':=by exact Dq2) (hh:G=H:=by first | dsimp only[Q22] | rfl) (hp:is.map (nthE σ'.E)=E0.map some:=by rfl) (hr:Region.ready .any ops listed=[i]:=by kernel_rfl) (hd:is.Nodup:=by decide):RunD (cx fn Bz S1 w1 hk1 hs1 hd1) K E0 m0 ops n' M listed σ:=by subst hs;subst hn;subst hh;exact RunD.onlyg i is hr hi ho hp hd h
theorem o2 (i j:Nat) {n n':Nat} (h1:Qzo (cx fn Bz S1 w1 hk1 hs1 hd1) K E0 m0 ops n M listed σ i) (h2:Qzo (cx fn Bz S1 w1 hk1 hs1 hd1) K E0 m0 ops n M listed σ j) (hn:n'=n+1:=by rfl) (hr:Region.ready .any ops listed=[i,j]:=by kernel_rfl):RunD (cx fn Bz S1 w1 hk1 hs1 hd1) K E0 m0 ops n' M listed σ:=by
 subst hn
 refine RunD.alts hr (by simp) fun k hk=>?_
 rcases List.mem_cons.1 hk with rfl | hk
 ·exact h1
 ·obtain rfl:=List.mem_singleton.1 hk
  exact h2
theorem on1 (i:Nat) (is:List Nat) {n:Nat} (ho:OpS (cx fn Bz S1 w1 hk1 hs1 hd1) σ ops (opAt ops.toList i) σ1) (h:RunD (cx fn Bz S1 w1 hk1 hs1 hd1) K E0 m0 ops n M (listed.setIfInBounds i true) σ') (hi:nthO ops.toList i=some (opAt ops.toList i):=by rfl) (hs:σ1=σ':=by exact Dq2) (hp:is.map (nthE σ'.E)=E0.map some:=by rfl) (hd:is.Nodup:=by decide):Qzo (cx fn Bz S1 w1 hk1 hs1 hd1) K E0 m0 ops n M listed σ i:=by subst hs;exact Qzo.ofg i is hi ho.g hp hd fun _=>h
theorem ong1 (i:Nat) (is:List Nat) {n:Nat} {G H:Prop} (ho:OpSg (cx fn Bz S1 w1 hk1 hs1 hd1) σ ops (opAt ops.toList i) σ1 G) (h:H→RunD (cx fn Bz S1 w1 hk1 hs1 hd1) K E0 m0 ops n M (listed.setIfInBounds i true) σ') (hi:nthO ops.toList i=some (opAt ops.toList i):=by rfl) (hs:σ1=σ':=by exact Dq2) (hh:G=H:=by first | dsimp only[Q22] | rfl) (hp:is.map (nthE σ'.E)=E0.map some:=by rfl) (hd:is.Nodup:=by decide):Qzo (cx fn Bz S1 w1 hk1 hs1 hd1) K E0 m0 ops n M listed σ i:=by subst hs;subst hh;exact Qzo.ofg i is hi ho hp hd h
theorem tx {n n':Nat} {M1 M':List (Nat×En)} (j:Nat) (ht:TkS (cx fn Bz S1 w1 hk1 hs1 hd1) E0 M σ ops listed j σ1 M1) (h:RunD (cx fn Bz S1 w1 hk1 hs1 hd1) K E0 m0 ops n M' (listed.setIfInBounds j true) σ') (hn:n'=n+1:=by rfl) (hs:σ1=σ':=by exact Dq2) (hM:M1=M':=by exact Dq2):RunD (cx fn Bz S1 w1 hk1 hs1 hd1) K E0 m0 ops n' M listed σ:=by subst hs;subst hn;subst hM;exact ht _ _ _ h
theorem dx {α:Type} {dα:Dat α} [s:Str α] [Inhabited α] {t e by' r len d:Nat} {x y:Operand} {ty:TypeId} {pos:String} {after:Array Edge} {i:Int} {xs:List α} {j:Nat} (k:Nat) (hk:k<xs.length) (hi':nthO ops.toList j=some ⟨some d,.indexAddr t x y,ty,pos,after,none⟩:=by rfl) (hB:Qpy ops listed j=true:=by kernel_rfl) (hx:ev σ.ρ x=some (.sl r len):=by exact Dq0) (hy:ev σ.ρ y=some (.v (.int .i64 i)):=by exact Dq0) (hp:lkE (M++E0) r=some (.ros α dα xs):=by exact Dq0) (hl:len=xs.length:=by first | rfl | simp only[List.length_set]) (hi:i=k:=by rfl) (ht:ti t= .sl e (Dat.sz α) by':=by rfl) (hd:Nat.blt d σ.n=true:=by rfl):TkS (cx fn Bz S1 w1 hk1 hs1 hd1) E0 M σ ops listed j (Qdg σ d (nth xs k) s.fk) (Qfh σ (nth xs k) s.fk M):=TkS.idx j k hk hi' hB hx hy hp hl hi ht hd
theorem tsx {t d:Nat} {x y:Operand} {i:Int} {s:ByteArray} {ty:TypeId} {pos:String} {after:Array Edge} {j:Nat} (k:Nat) (hk:k<s.size) (hi':nthO ops.toList j=some ⟨some d,.index t x y,ty,pos,after,none⟩:=by rfl) (hB:Qpy ops listed j=true:=by kernel_rfl) (hx:ev σ.ρ x=some (.v (.string s)):=by exact Dq0) (hy:ev σ.ρ y=some (.v (.int .i64 i)):=by exact Dq0) (hi:i=k:=by rfl) (ht:ti t= .str:=by rfl) (hd:Nat.blt d σ.n=true:=by rfl):TkS (cx fn Bz S1 w1 hk1 hs1 hd1) E0 M σ ops listed j (put d (.v (.int .u8 (Qav s k).toNat)) σ) M:=TkS.sidx j k hk hi' hB hx hy ht hi hd
theorem tqo {t t' d:Nat} {x y:Operand} {k:IntKind} {i i2:Int} {ty:TypeId} {pos:String} {after:Array Edge} {j:Nat} (hi':nthO ops.toList j=some ⟨some d,.binOp .quo t x y t',ty,pos,after,none⟩:=by rfl) (hB:Qpy ops listed j=true:=by kernel_rfl) (hx:ev σ.ρ x=some (.v (.int k i)):=by exact Dq0) (hy:ev σ.ρ y=some (.v (.int k i2)):=by exact Dq0) (hj:i2≠0:=by decide) (hd:Nat.blt d σ.n=true:=by rfl):TkS (cx fn Bz S1 w1 hk1 hs1 hd1) E0 M σ ops listed j (put d (.v (.int k (k.wrap (i.tdiv i2)))) σ) M:=TkS.quo j hj hi' hB hx hy hd
theorem trm {t t' d:Nat} {x y:Operand} {k:IntKind} {i i2:Int} {ty:TypeId} {pos:String} {after:Array Edge} {j:Nat} (hi':nthO ops.toList j=some ⟨some d,.binOp .rem t x y t',ty,pos,after,none⟩:=by rfl) (hB:Qpy ops listed j=true:=by kernel_rfl) (hx:ev σ.ρ x=some (.v (.int k i)):=by exact Dq0) (hy:ev σ.ρ y=some (.v (.int k i2)):=by exact Dq0) (hj:i2≠0:=by decide) (hd:Nat.blt d σ.n=true:=by rfl):TkS (cx fn Bz S1 w1 hk1 hs1 hd1) E0 M σ ops listed j (put d (.v (.int k (i.tmod i2))) σ) M:=TkS.rem j hj hi' hB hx hy hd
theorem tca {t t' d:Nat} {x y:Operand} {p q:ByteArray} {ty:TypeId} {pos:String} {after:Array Edge} {j:Nat} (hi':nthO ops.toList j=some ⟨some d,.binOp .add t x y t',ty,pos,after,none⟩:=by rfl) (hB:Qpy ops listed j=true:=by kernel_rfl) (hx:ev σ.ρ x=some (.v (.string p)):=by exact Dq0) (hy:ev σ.ρ y=some (.v (.string q)):=by exact Dq0) (hd:Nat.blt d σ.n=true:=by rfl) (hs:p.size+q.size≤9223372036854775807):TkS (cx fn Bz S1 w1 hk1 hs1 hd1) E0 M σ ops listed j (put d (.v (.string (p++q))) σ) M:=TkS.cat j hs hi' hB hx hy hd
theorem dn {res:List Re} {k:List It} {S2:Nat→Prop} {w2:World} {hk2:Keep Bz.S0 Bz.w w2} {hs2: ∀ b,Bz.S0 b→S2 b} {hd2: ∀ b,S2 b→b<w2.heap.size} (hb: ∀ θ σ a w',R (cx fn Bz S2 w2 hk2 hs2 hd2) θ σ a w'→R (cx fn Bz S1 w1 hk1 hs1 hd1) θ σ a w') (h:Run (cx fn Bz S1 w1 hk1 hs1 hd1) res σ k) (hr:Region.ready .any ops listed=[]:=by kernel_rfl):RunD (cx fn Bz S2 w2 hk2 hs2 hd2) (kQ (cx fn Bz S1 w1 hk1 hs1 hd1) res k .normal) E0 m0 ops 0 M listed σ:=fun θ0 η a w _ hR _ _ _=>Yut hr (h _ a w (hb _ _ _ _ hR))
end
section
variable {fn:Func} {Bz:Bs} {S1:Nat→Prop} {w1:World} {hk1:Keep Bz.S0 Bz.w w1} {hs1: ∀ b,Bz.S0 b→S1 b} {hd1: ∀ b,S1 b→b<w1.heap.size} {σ:St} {all:Array Oper} {ty:TypeId} {pos:String} {after:Array Edge} {d:Nat}
theorem cl {res:List Re} {f:FuncId} {x:Operand} {cs:List V} {xs:Array Operand} {ts:Array TypeId} {args:List Arg} {vs:List V} (hct:CTs f args res) (hfn:FnOk Tryz.prog f) (hx:ev σ.ρ x=some (.fn f cs):=by exact Dq0) (hev:evs σ.ρ xs.toList=some vs:=by exact Dq0) (hargs:Qli σ.E (vs++cs) args:=by dsimp only[lk,lkE,cond,Nat.beq,List.cons_append,List.nil_append,List.append_nil,Qli,AsOk,Arg.ok,Ar0.ok,SlOk,payE,En.pay,FkV,agC,Qss,En.cells,List.map,Str.fk,id];repeat' (first | assumption | rfl | exact trivial | apply And.intro | omega)) (hd:Nat.blt d σ.n=true:=by rfl):
    OpS (cx fn Bz S1 w1 hk1 hs1 hd1) σ all ⟨some d,.call { callee:= .value x,args:=xs,argTypes:=ts },ty,pos,after,none⟩ (Qch σ d res):=OpS.call hct hfn hx hev hargs hd
theorem clg {res:List Re} {f:FuncId} {x:Operand} {cs:List V} {xs:Array Operand} {ts:Array TypeId} {args:List Arg} {vs:List V} (hct:CTs f args res) (hfn:FnOk Tryz.prog f) (hx:ev σ.ρ x=some (.fn f cs):=by exact Dq0) (hev:evs σ.ρ xs.toList=some vs:=by exact Dq0) (hargs:Qli σ.E (vs++cs) args:=by dsimp only[lk,lkE,cond,Nat.beq,List.cons_append,List.nil_append,List.append_nil,Qli,AsOk,Arg.ok,Ar0.ok,SlOk,payE,En.pay,FkV,agC,Qss,En.cells,List.map,Str.fk,id];repeat' (first | assumption | rfl | exact trivial | apply And.intro | omega)) (hd:Nat.blt d σ.n=true:=by rfl):
    OpSg (cx fn Bz S1 w1 hk1 hs1 hd1) σ all ⟨some d,.call { callee:= .value x,args:=xs,argTypes:=ts },ty,pos,after,none⟩ (Qch σ d res) (Q22 res):=OpSg.call hct hfn hx hev hargs hd
theorem cG {u:Value} {f:FuncId} {x:Operand} {cs:List V} {xs:Array Operand} {ts:Array TypeId} {args:List Arg} {vs:List V} {j:Nat} {want B:Bool} (hB:gB σ.ρ all j want=some B:=by exact Dq0) (hx:ev σ.ρ x=some (.fn f cs):=by exact Dq0) (hvs':evsG σ.ρ xs.toList=some vs:=by exact Dq0) (hct:B=true→CTs f args [.c u]) (hfn:FnOk Tryz.prog f) (hside:B=true→Qfp B True σ.ρ xs.toList:=by intro h;first | exact trivial | (dsimp only[Qfp,sdV,ev,lk,cond,Nat.beq,V.side,List.toList_toArray];(repeat' apply And.intro)<;>first | exact trivial | exact h | exact fun h=>h | exact(Bool.and_eq_true_iff.1 h).1 | exact(Bool.and_eq_true_iff.1 h).2 | exact fun h=>(Bool.and_eq_true_iff.1 h).1 | exact fun h=>(Bool.and_eq_true_iff.1 h).2 | exact fun h=>(Bool.and_eq_true_iff.1 (Bool.and_eq_true_iff.1 h).1).1 | (intro h;simp_all))) (hargs:B=true→Qli σ.E (vs++cs) args:=by intro h;dsimp only[lk,lkE,cond,Nat.beq,List.cons_append,List.nil_append,List.append_nil,Qli,AsOk,Arg.ok,Ar0.ok,SlOk,payE,En.pay,FkV,agC,Qss,En.cells,List.map,Str.fk,id];repeat' (first | assumption | rfl | exact trivial | apply And.intro | omega)) (hd:Nat.blt d σ.n=true:=by rfl):
    OpS (cx fn Bz S1 w1 hk1 hs1 hd1) σ all ⟨some d,.call { callee:= .value x,args:=xs,argTypes:=ts },ty,pos,after,some (j,want)⟩ (put d (.gd B (.v u)) σ):=have hvs:=Ydx hvs'
    OpS.callG hB hct hfn hx (fun y hy => by
      have:evG σ.ρ y∈xs.toList.map (evG σ.ρ):=List.mem_map.2 ⟨y,hy,rfl⟩
      rw[hvs] at this
      obtain⟨v,_,hv⟩:=List.mem_map.1 this
      rw[←hv];rfl) hvs hside hargs hd
theorem sG {t:Nat} {x y:Operand} {i:Int} {s:ByteArray} {j:Nat} {want B:Bool} (k:Nat) (hB:gB σ.ρ all j want=some B:=by exact Dq0) (hx:evG σ.ρ x=some (.v (.string s)):=by exact Dq0) (hy:evG σ.ρ y=some (.v (.int .i64 i)):=by exact Dq0) (hk:B=true→k<s.size) (hi:B=true→i=k:=by intro _;rfl) (hside:B=true→Qfp B True σ.ρ [x,y]:=by intro h;first | exact trivial | (dsimp only[Qfp,sdV,ev,lk,cond,Nat.beq,V.side,List.toList_toArray];(repeat' apply And.intro)<;>first | exact trivial | exact h | exact fun h=>h | exact(Bool.and_eq_true_iff.1 h).1 | exact(Bool.and_eq_true_iff.1 h).2 | exact fun h=>(Bool.and_eq_true_iff.1 h).1 | exact fun h=>(Bool.and_eq_true_iff.1 h).2 | exact fun h=>(Bool.and_eq_true_iff.1 (Bool.and_eq_true_iff.1 h).1).1 | (intro h;simp_all))) (ht:ti t= .str:=by rfl) (hd:Nat.blt d σ.n=true:=by rfl):
  OpS (cx fn Bz S1 w1 hk1 hs1 hd1) σ all ⟨some d,.index t x y,ty,pos,after,some (j,want)⟩ (put d (.gd B (.v (.int .u8 (Qav s k).toNat))) σ):=OpS.sidxG hB hx hy hside ht hi hk hd
theorem cm {fid:FuncId} {mk m0 nn:Nat} {E0 F0 E1:List (Nat×En)} {args r:List V} (f fk is js rest:List Nat) {x:Operand} {cs:List V} {xs:Array Operand} {ts:Array TypeId} {vs:List V} {G0:Prop} (hct:CTMs fid mk m0 E0 F0 args E1 nn r G0) (hfn:FnOk Tryz.prog fid) (hx:ev σ.ρ x=some (.fn fid cs):=by exact Dq0) (hev:evs σ.ρ xs.toList=some vs:=by exact Dq0) (hva:renL f args=some (vs++cs):=by rfl) (hfm:Nat.beq f.length m0=true:=by rfl) (hfk:f.take mk=fk:=by rfl) (hE0:SubE f σ.E is E0:=by first | exact trivial | (dsimp only[SubE,V.ren,renL,En.ren,nthE,nthF,lk,cond,Nat.beq,Nat.pred,List.length,List.length_nil,Nat.reduceAdd,List.getElem?_cons_zero,List.getElem?_cons_succ,Qqx,borL,borN,List.cons_append,List.nil_append,List.append_nil];(repeat' apply And.intro)<;>first | rfl | exact trivial)) (hF0:SubE f (borL σ.E) js F0:=by first | exact trivial | (dsimp only[SubE,V.ren,renL,En.ren,nthE,nthF,lk,cond,Nat.beq,Nat.pred,List.length,List.length_nil,Nat.reduceAdd,List.getElem?_cons_zero,List.getElem?_cons_succ,Qqx,borL,borN,List.cons_append,List.nil_append,List.append_nil];(repeat' apply And.intro)<;>first | rfl | exact trivial)) (hFs:isFs F0=true:=by rfl) (hdj:djB is js=true:=by rfl) (hnd:(is++rest).Nodup:=by decide) (hrest:rest.map (nthE σ.E)=(pickE σ.E rest).map some:=by rfl) (hd:Nat.blt d σ.n=true:=by rfl) (hlt:Yl6 σ.m f=true:=by rfl) (hmk:Nat.ble mk m0=true:=by rfl) (hE1:Yev E1=true:=by rfl):
    OpSg (cx fn Bz S1 w1 hk1 hs1 hd1) σ all ⟨some d,.call { callee:= .value x,args:=xs,argTypes:=ts },ty,pos,after,none⟩ (Qj2 σ d fk E1 nn r rest) G0:=OpS.callM hct hfn (fun g hg=>hs1 g (Bz.gin g hg)) f fk is js rest hx hev hva hfm hfk hE0 hF0 hFs hdj hnd hrest hd hlt hmk hE1
theorem ce {res:List Re} {k:List It} {r:List Oper} {res2:Value→List Re} {ok:Bool} {f:FuncId} {x:Operand} {cs:List V} {xs:Array Operand} {ts:Array TypeId} {args:List Arg} {vs:List V} (hct:CTEs f args res2 ok) (hfn:FnOk Tryz.prog f) {σ':Value→St} (h: ∀ u,Yfl ok u→Run (cx fn Bz S1 w1 hk1 hs1 hd1) res (σ' u) (.ops r all::k)) (hx:ev σ.ρ x=some (.fn f cs):=by exact Dq0) (hev:evs σ.ρ xs.toList=some vs:=by exact Dq0) (hargs:Qli σ.E (vs++cs) args:=by dsimp only[lk,lkE,cond,Nat.beq,List.cons_append,List.nil_append,List.append_nil,Qli,AsOk,Arg.ok,Ar0.ok,SlOk,payE,En.pay,FkV,agC,Qss,En.cells,List.map,Str.fk,id];repeat' (first | assumption | rfl | exact trivial | apply And.intro | omega)) (hd:Nat.blt d σ.n=true:=by rfl) (hs: ∀ u,Qch σ d (res2 u)=σ' u:=by intro u;dsimp only[Qch,Qj2,Qen,setV,fwE,En.fw,V.fw,fwL,nthG,pickE,Qpa,nthE,Nat.pred,Qdg,Qfh,Qfg,Qda,rnR,rnE,V.rn,rnL,En.rn,Qgn,memN,V.names.namesL,V.names,Qeh,Qc9,put,putE,setE,Qjb,Qfx,Qg9,opn,nsl,id,cond,Nat.beq,Nat.reduceAdd,Nat.add_zero,Nat.zero_add,List.cons_append,List.nil_append,List.append_nil,List.append,List.length_cons,List.length_nil,Str.fk]):
    Run (cx fn Bz S1 w1 hk1 hs1 hd1) res σ (.ops (⟨some d,.call { callee:= .value x,args:=xs,argTypes:=ts },ty,pos,after,none⟩::r) all::k):=Run.callE hct hfn hx hev hargs hd (fun u hu=>by rw[hs u];exact h u hu)
theorem er {t t':Nat} {x:Operand} {u:Value} {ok:Bool} (hu:Yfl ok u) (hx:ev σ.ρ x=some (.v u):=by exact Dq0) (ht:Tryz.prog.underlying t=some (.interface (Tryz.prog.methodsAt t)):=by kernel_rfl) (hd:Nat.blt d σ.n=true:=by rfl):
  OpS (cx fn Bz S1 w1 hk1 hs1 hd1) σ all ⟨some d,.binOp .neq t x (.const .nilIface) t',ty,pos,after,none⟩ (put d (.v (.bool (!ok))) σ):=OpS.errne hx hu ht hd
theorem rG {t t':Nat} {x y:Operand} {k:IntKind} {i i2:Int} {j:Nat} {want B:Bool} (hB:gB σ.ρ all j want=some B:=by exact Dq0) (hx:evG σ.ρ x=some (.v (.int k i)):=by exact Dq0) (hy:evG σ.ρ y=some (.v (.int k i2)):=by exact Dq0) (hside:B=true→Qfp B True σ.ρ [x,y]:=by intro h;first | exact trivial | (dsimp only[Qfp,sdV,ev,lk,cond,Nat.beq,V.side,List.toList_toArray];(repeat' apply And.intro)<;>first | exact trivial | exact h | exact fun h=>h | (intro h;simp_all))) (hj:B=true→i2≠0:=by intro _;decide) (hd:Nat.blt d σ.n=true:=by rfl):
  OpS (cx fn Bz S1 w1 hk1 hs1 hd1) σ all ⟨some d,.binOp .rem t x y t',ty,pos,after,some (j,want)⟩ (put d (.gd B (.v (.int k (i.tmod i2)))) σ):=OpS.remG hB hx hy hside hj hd
theorem ix {α:Type} {dα:Dat α} [s:Str α] [Inhabited α] {t e by' r len:Nat} {x y:Operand} {i:Int} {xs:List α} (k:Nat) (hk:k<xs.length) (hx:ev σ.ρ x=some (.sl r len):=by exact Dq0) (hy:ev σ.ρ y=some (.v (.int .i64 i)):=by exact Dq0) (hp:lkE σ.E r=some (.ros α dα xs):=by exact Dq0) (hl:len=xs.length:=by first | rfl | simp only[List.length_set]) (hi:i=k:=by rfl) (ht:ti t= .sl e (Dat.sz α) by':=by rfl) (hd:Nat.blt d σ.n=true:=by rfl):
  OpS (cx fn Bz S1 w1 hk1 hs1 hd1) σ all ⟨some d,.indexAddr t x y,ty,pos,after,none⟩ (Qdg σ d (nth xs k) s.fk):=OpS.index hx hy hp hl ht hd hi hk
theorem sx {t:Nat} {x y:Operand} {i:Int} {s:ByteArray} (k:Nat) (hk:k<s.size) (hx:ev σ.ρ x=some (.v (.string s)):=by exact Dq0) (hy:ev σ.ρ y=some (.v (.int .i64 i)):=by exact Dq0) (hi:i=k:=by rfl) (ht:ti t= .str:=by rfl) (hd:Nat.blt d σ.n=true:=by rfl):
  OpS (cx fn Bz S1 w1 hk1 hs1 hd1) σ all ⟨some d,.index t x y,ty,pos,after,none⟩ (put d (.v (.int .u8 (Qav s k).toNat)) σ):=OpS.sidx hx hy ht hd hi hk
theorem ca {t t':Nat} {x y:Operand} {p q:ByteArray} (hx:ev σ.ρ x=some (.v (.string p)):=by exact Dq0) (hy:ev σ.ρ y=some (.v (.string q)):=by exact Dq0) (hd:Nat.blt d σ.n=true:=by rfl) (hs:p.size+q.size≤9223372036854775807):
  OpS (cx fn Bz S1 w1 hk1 hs1 hd1) σ all ⟨some d,.binOp .add t x y t',ty,pos,after,none⟩ (put d (.v (.string (p++q))) σ):=OpS.cat hx hy hd hs
theorem ap {α:Type} {dα:Dat α} [s:@Str α dα] {t e by' r q n len T:Nat} {x y:Operand} {z:Value} {xs:List α} (ys:List α) {cs:List V} (hx:ev σ.ρ x=some (.sl r len):=by exact Dq0) (hr:lkE σ.E r=some (.own α dα xs):=by exact Dq0) (hy:ev σ.ρ y=some (.sl q n):=by exact Dq0) (hq:lkE σ.E q=some (.lit cs T n):=by exact Dq0) (ht:ti t= .sl e (Dat.sz α) by':=by rfl) (hz:zr e=some z:=by rfl) (hm:xs.length+ys.length≤9223372036854775807:=by first | omega | (simp only[List.length_cons,List.length_nil];first | omega | exact om) | exact om) (hl:len=xs.length:=by first | rfl | simp only[List.length_set])
    (hzs:z.cells.size=Dat.sz α:=by rfl) (hd:Nat.blt d σ.n=true:=by rfl) (hyl:ys.length=n:=by rfl) (hnm:V.names.namesL cs=[]:=by rfl) (h1:oneL cs=true:=by rfl) (hg:ElOk σ.E (Dat.sz α) dα s.fk ys cs) (hb:(xs.length+ys.length)*by'≤140737488355328):
    OpS (cx fn Bz S1 w1 hk1 hs1 hd1) σ all ⟨some d,.call { callee:= .builtin .append,args:= #[x,y],argTypes:= #[t,t] },ty,pos,after,none⟩ (Qeh σ d r dα (xs++ys)):=OpS.app hx hr hl hy hq ht hz hzs hd hyl hnm hg h1 hb hm
theorem aS {α:Type} {dα:Dat α} [s:@Str α dα] {t e by':Nat} {x y:Operand} {z:Value} (xs ys:List α) (rs:List Nat) {vx vy:V} (hb:(xs.length+ys.length)*by'≤140737488355328) (hm:xs.length+ys.length≤9223372036854775807) (hx:ev σ.ρ x=some vx:=by exact Dq0) (hy:ev σ.ρ y=some vy:=by exact Dq0) (hr:XRow σ.E α dα xs rs vx:=by dsimp only[XRow,Qm4,En.payO,lkE,cond,Nat.beq];repeat' (first | rfl | exact trivial | apply And.intro)) (hq:SlOk σ.E α dα ys vy:=by dsimp only[SlOk,payE,En.pay,lkE,cond,Nat.beq];repeat' (first | rfl | exact trivial | apply And.intro)) (ht:ti t= .sl e (Dat.sz α) by':=by rfl) (hz:zr e=some z:=by rfl) (hfl:Qo9 s.fk=true:=by rfl)
    (hzs:z.cells.size=Dat.sz α:=by rfl) (hd:Nat.blt d σ.n=true:=by rfl):
    OpS (cx fn Bz S1 w1 hk1 hs1 hd1) σ all ⟨some d,.call { callee:= .builtin .append,args:= #[x,y],argTypes:= #[t,t] },ty,pos,after,none⟩ (Qen σ d dα (xs++ys) rs):=OpS.appS hx hr hy hq hfl ht hz hzs hd hb hm
theorem aN {α:Type} {dα:Dat α} [s:@Str α dα] {t e by' q T:Nat} {x y:Operand} {z:Value} (xs:List α) (y0:α) (rs:List Nat) {vx:V} {cs:List V} (hg:Dat.good y0) (hb:(xs.length+1)*by'≤140737488355328) (hm:xs.length+1≤9223372036854775807) (hx:ev σ.ρ x=some vx:=by exact Dq0) (hy:ev σ.ρ y=some (.sl q 1):=by exact Dq0) (hq:lkE σ.E q=some (.lit cs T 1):=by exact Dq0) (hr:XRow σ.E α dα xs rs vx:=by dsimp only[XRow,Qm4,En.payO,lkE,cond,Nat.beq];repeat' (first | rfl | exact trivial | apply And.intro)) (ht:ti t= .sl e (Dat.sz α) by':=by rfl) (hz:zr e=some z:=by rfl)
    (hzs:z.cells.size=Dat.sz α:=by rfl) (hd:Nat.blt d σ.n=true:=by rfl) (hf:FkO σ.E y0 s.fk cs:=by dsimp only[Qzn,Qm4,En.payO,lkE,cond,Nat.beq,FkO,Str.fk,id];repeat' (first | assumption | rfl | exact trivial | apply And.intro | omega)) (h1:oneL cs=true:=by rfl) (hn:(rs++V.names.namesL cs).Nodup:=by dsimp only[V.names.namesL,V.names,List.append_nil,List.nil_append,List.cons_append];decide):
    OpS (cx fn Bz S1 w1 hk1 hs1 hd1) σ all ⟨some d,.call { callee:= .builtin .append,args:= #[x,y],argTypes:= #[t,t] },ty,pos,after,none⟩ (Qen σ d dα (xs++[y0]) (rs++V.names.namesL cs)):=OpS.appN y0 hx hr hy hq ht hz hzs hd hg hf h1 hn hb hm
theorem ma {α:Type} {dα:Dat α} [s:@Str α dα] {t e by':Nat} {x y:Operand} {z:Value} {i j:Int} (m:Nat) (z0:α) (hx:ev σ.ρ x=some (.v (.int .i64 i)):=by exact Dq0) (hy:ev σ.ρ y=some (.v (.int .i64 j)):=by exact Dq0) (ht:ti t= .sl e (Dat.sz α) by':=by rfl) (hz:zr e=some z:=by rfl) (hm:m≤9223372036854775807:=by omega) (hb:by'*m≤281474976710656:=by omega) (hi:i=m:=by rfl) (hj:j=m:=by rfl) (hzs:z.cells.size=Dat.sz α:=by rfl) (ho:ElOk σ.E (Dat.sz α) dα s.fk [z0] (z.cells.toList.map V.v):=by dsimp only[Value.cells,List.toList_toArray,List.map];dsimp only[ElOk,Qzn,Qm4,En.payO,lkE,cond,Nat.beq,FkO,agC,List.map,Str.fk,id,List.take,List.drop,List.take_succ_cons,List.drop_succ_cons,List.take_zero,List.drop_zero];repeat' (first | assumption | exact gi _ | exact gs _ | rfl | exact trivial | apply And.intro | omega)) (hd:Nat.blt d σ.n=true:=by rfl):
  OpS (cx fn Bz S1 w1 hk1 hs1 hd1) σ all ⟨some d,.makeSlice t x y,ty,pos,after,none⟩ (Qc9 σ d dα (List.replicate m z0)):=OpS.make m z0 hx hy hi hj ht hz hzs ho hb hm hd
theorem l0 {t e sz by':Nat} (ht:ti t= .sl e sz by':=by rfl) (hd:Nat.blt d σ.n=true:=by rfl):OpS (cx fn Bz S1 w1 hk1 hs1 hd1) σ all ⟨some d,.buildSlice t 0 #[],ty,pos,after,none⟩ ⟨σ.n,σ.m+1,(d,.sl σ.m 0)::σ.ρ,(σ.m,.lit [] e 0)::σ.E⟩:=OpS.lit0 ht hd
theorem ts {t u e by':Nat} {x:Operand} {v:V} (xs:List UInt8) (hx:ev σ.ρ x=some v:=by exact Dq0) (hs:SlOk σ.E UInt8 instDatUInt8 xs v:=by dsimp only[SlOk,payE,En.pay,lkE,cond,Nat.beq];first | exact⟨rfl,rfl⟩ | exact⟨by exact om,rfl⟩) (ht:ti t= .sl e 1 by':=by rfl) (he:ti e= .int .u8:=by rfl) (hu:ti u= .str:=by rfl) (hd:Nat.blt d σ.n=true:=by rfl):
  OpS (cx fn Bz S1 w1 hk1 hs1 hd1) σ all ⟨some d,.convert t u x,ty,pos,after,none⟩ (put d (.v (.string (bstr xs))) σ):=OpS.toStr xs hx hs ht he hu hd
theorem tb {t u e by':Nat} {x:Operand} {s:ByteArray} (hx:ev σ.ρ x=some (.v (.string s)):=by exact Dq0) (ht:ti u= .sl e 1 by':=by rfl) (he:ti e= .int .u8:=by rfl) (hu:ti t= .str:=by rfl) (hd:Nat.blt d σ.n=true:=by rfl) (hs:s.size≤maxLen):
  OpS (cx fn Bz S1 w1 hk1 hs1 hd1) σ all ⟨some d,.convert t u x,ty,pos,after,none⟩ (Qfg σ d instDatUInt8 (Qa6 s)):=OpS.toBytes hx hs ht he hu hd
theorem cu {t:Nat} {x:Operand} {lo hi:Option Operand} {s:ByteArray} (l h:Nat) (hx:ev σ.ρ x=some (.v (.string s)):=by exact Dq0) (hl:bnd σ.ρ 0 l lo:=by dsimp only[bnd,ev,lk,cond,Nat.beq];first | rfl | exact⟨_,rfl,rfl⟩ | exact⟨_,rfl,by exact om⟩) (hh:bnd σ.ρ s.size h hi:=by dsimp only[bnd,ev,lk,cond,Nat.beq];first | rfl | exact⟨_,rfl,rfl⟩ | exact⟨_,rfl,by exact om⟩) (ht:ti t= .str:=by rfl) (hd:Nat.blt d σ.n=true:=by rfl) (h1:l≤h:=by exact om) (h2:h≤s.size:=by exact om):
  OpS (cx fn Bz S1 w1 hk1 hs1 hd1) σ all ⟨some d,.slice t x lo hi none,ty,pos,after,none⟩ (put d (.v (.string (cutS s l h))) σ):=OpS.cut l h hx hl hh h1 h2 ht hd
theorem pa {α:Type} {dα:Dat α} {t e by' r len:Nat} {x:Operand} {lo hi:Option Operand} {xs:List α} (l h:Nat) (hx:ev σ.ρ x=some (.sl r len):=by exact Dq0) (hp:lkE σ.E r=some (.ros α dα xs):=by exact Dq0) (hlen:len=xs.length:=by rfl) (hl:bnd σ.ρ 0 l lo:=by dsimp only[bnd,ev,lk,cond,Nat.beq];first | rfl | exact⟨_,rfl,rfl⟩ | exact⟨_,rfl,by exact om⟩) (hh:bnd σ.ρ xs.length h hi:=by dsimp only[bnd,ev,lk,cond,Nat.beq];first | rfl | exact⟨_,rfl,rfl⟩ | exact⟨_,rfl,by exact om⟩) (ht:ti t= .sl e (Dat.sz α) by':=by rfl) (hd:Nat.blt d σ.n=true:=by rfl) (h1:l≤h:=by exact om) (h2:h≤xs.length:=by exact om):
  OpS (cx fn Bz S1 w1 hk1 hs1 hd1) σ all ⟨some d,.slice t x lo hi none,ty,pos,after,none⟩ (Qfg σ d dα (cutL xs l h)):=OpS.part l h hx hp hlen hl hh h1 h2 ht hd
theorem rm {t t':Nat} {x y:Operand} {k:IntKind} {i j:Int} (hx:ev σ.ρ x=some (.v (.int k i)):=by exact Dq0) (hy:ev σ.ρ y=some (.v (.int k j)):=by exact Dq0) (hd:Nat.blt d σ.n=true:=by rfl) (hj:j≠0:=by decide):
  OpS (cx fn Bz S1 w1 hk1 hs1 hd1) σ all ⟨some d,.binOp .rem t x y t',ty,pos,after,none⟩ (put d (.v (.int k (i.tmod j))) σ):=OpS.rem hx hy hd hj
theorem oi {α:Type} {dα:Dat α} {t e by' r len:Nat} {x y:Operand} {i:Int} {xs:List α} (k:Nat) (hk:k<xs.length) (hx:ev σ.ρ x=some (.sl r len):=by exact Dq0) (hy:ev σ.ρ y=some (.v (.int .i64 i)):=by exact Dq0) (hp:lkE σ.E r=some (.own α dα xs):=by exact Dq0) (hl:len=xs.length:=by first | rfl | simp only[List.length_set]) (hi:i=k:=by rfl) (ht:ti t= .sl e (Dat.sz α) by':=by rfl) (hd:Nat.blt d σ.n=true:=by rfl):
  OpS (cx fn Bz S1 w1 hk1 hs1 hd1) σ all ⟨some d,.indexAddr t x y,ty,pos,after,none⟩ (put d (.pt r (k*Dat.sz α)) σ):=OpS.oidx k hk hx hy hp hl hi ht hd
theorem se {α:Type} {dα:Dat α} [s:@Str α dα] {t:Nat} {x v:Operand} {r off:Nat} {xs:List α} {vv:V} {cs:List V} (k:Nat) (y:α) (hg:Dat.good y) (hk:k<xs.length) (hx:ev σ.ρ x=some (.pt r off):=by exact Dq0) (hr:lkE σ.E r=some (.own α dα xs):=by exact Dq0) (hoff:off=k*Dat.sz α:=by rfl)
  (hv:ev σ.ρ v=some vv:=by exact Dq0) (hvc:vv.cells=some cs:=by rfl) (ht:(ti t).cells=some (Dat.sz α):=by rfl) (hf:FkO σ.E y s.fk cs:=by dsimp only[Qzn,Qm4,En.payO,lkE,cond,Nat.beq,FkO,Str.fk,id];repeat' (first | assumption | rfl | exact trivial | apply And.intro | omega)) (h1:oneL cs=true:=by rfl) (hn:(r::V.names.namesL cs).Nodup:=by dsimp only[V.names.namesL,V.names,List.append_nil,List.nil_append,List.cons_append];decide):
  OpS (cx fn Bz S1 w1 hk1 hs1 hd1) σ all ⟨none,.store t x v,ty,pos,after,none⟩ (Qda σ r dα (xs.set k y) (V.names.namesL cs)):=OpS.stE k y hx hoff hr hk hv hvc ht hg hf h1 hn
end
section
variable {fn:Func} {Bz:Bs} {S1:Nat→Prop} {w1:World} {hk1:Keep Bz.S0 Bz.w w1} {hs1: ∀ b,Bz.S0 b→S1 b} {hd1: ∀ b,S1 b→b<w1.heap.size} {res:List Re} {σ:St} {k:List It}
theorem Dq3.{u} {α:Sort u} {a b:α} (h:a=b:=by dsimp only[ti_1,ti_2,ti_3,ti_4,ti_5,ti_6,ti_7,ti_8,ti_9,Ydc,Ydb,Yda,Yc9,Yc8,Yc7,Yc6,Yc5,Yc4,Yc3,Yc2,Yc1,Yc0,Ycz,Ycy,Ycx,Ycw,Ycv,Ycu,Yct,Ycs,Ycr,Ycq,Ycp,Yco,Ycn,Ycm,Ycl,Yck,Ycj,Yci,Ych,Ycg,Ycf,Yce,Ycd,Ycc,Ycb,Yca,Yb9,Yb8,Yb7,Yb6,Yb5,Yb4,Yb3,Yb2,Yb1,Yb0,Ybz,Yby,Ybx,Ybw,Ybv,Ybu,Ybt,Ybs,Ybr,Ybq,Ybp,Ybo,Ybn,Ybm,Ybl,Ybk,Ybj,Ybi,Ybh,Ybg,Ybf,Ybe,Ybd,Ybc,Ybb,Yba,Ya9,Ya8,Ya7,Ya6,Ya5,Ya4,Ya3,Ya2,Ya1,Ya0,Yaz,Yay,Yax,Qyl,Qyk,Qyj,Qyi,Qyh,Qyg,Qyf,Qye,Qyd,Qyc,Qyb,Qya,Qx9,Qx8,Qx7,Qx6,Qqn,Qx5,Qx4,Qx3,Qx2,Qx1,Qx0,Qxz,Qxy,Qxx,Qxw,Qxv,Qxu,Qxt,Qxs,Qxr,Qxq,Qxp,Qxo,Qxn,Qxm,Qxl,Qxk,Qxj,Qxi,Qxh,Qxg,Qxf,Qxe,Qxd,Qxc,Qxb,Qxa,Qw9,Qw8,Qw7,Qw6,Qw5,Qw4,Qw3,Qw2,Qw1,Qw0,Qwz,Qwy,Qwx,Qww,Qwv,Qwu,Qwt,Qws,Qwr,Qwq,Qwp,Qwo,Qwn,Qwm,Qwl,Qwk,Qwj,Qwi,Qwh,Qwg,Qwf,Qwe,Qwd,Qwc,Qwb,Qwa,Qv9,Qv8,Qv7,Qv6,Qv5,Qv4,Qv3,Qv2,Qv1,Qv0,Qvz,Qvy,Qvx,Qvw,Qvv,Qvu,Qvt,Qvs,Qvr,Qvq,Qvp,Qvo,Qvn,Qvm,Qvl,Qvk,Qvj,Qvi,Qvh,Qvg,Qvf,Qve,Qvd,Qvc,Qvb,Qva,Qu9,Qu8,Qu7,Qu6,Qu5,Qu4,Qu3,Qu2,Qu1,Qu0,Quz,Quy,Qux,Quw,Quv,Quu,Qut,Qus,Qur,Quq,Qup,Quo,Qun,Qum,Qul,Quk,Quj,Qui,Quh,Qug,Quf,Que,Qud,Quc,Qub,Qua,Qt9,Qt8,Qt7,Qt6,Qt5,Qt4,Qt3,Qt2,Qt1,Qt0,Qtz,Qty,Qtx,Qtw,Qtv,Qtu,Qtt,Qts,Qtr,Qtq,Qtp,Qto,Qtn,Qtm,Qtl,Qtk,Qtj,Qti,Qth,Qtg,Qtf,Qte,Qtd,Qtc,Qtb,rvsV,rvV,ldV,ldE,ldC,tuAt,lkE,Qa9,lk,cond,Nat.beq,Nat.pred,Nat.ble,List.length,List.length_cons,List.length_nil,List.take,List.drop,List.take_succ_cons,List.drop_zero,List.take_zero,Nat.reduceAdd]):a=b:=h
theorem rz {w:World} {hG:Gw w} {hk1:Keep (Old w) w w1} {hs1: ∀ b,Old w b→S1 b} {rs:List ResultVar} {vs:List V} {res':List Re} (hq:res=res') (hr:(cx fn (Bs.old w hG) S1 w1 hk1 hs1 hd1).fn.results.toList=rs:=by rfl) (hl:Nat.ble rs.length 4=true:=by rfl) (hv:rvsV ti σ.ρ σ.E rs=some vs:=by exact Dq3) (hn:(Qpd vs res').Nodup:=by dsimp only[Qpd,agC,V.names.namesL,List.append_nil,List.nil_append,List.cons_append,List.map];decide) (ho:Yj2 σ.E vs res':=by dsimp only[Yj2,Re.ok,Qzn,Qm4,En.payO,lkE,cond,Nat.beq,FkO,agC,List.map,Str.fk,id];repeat' (first | assumption | rfl | exact trivial | apply And.intro | omega)):Run (cx fn (Bs.old w hG) S1 w1 hk1 hs1 hd1) res σ (.code .ret::k):=Run.ret hr hl hv (by rw[hq];exact ho) (by rw[hq];exact hn) (fun _ _ h=>h)
end
theorem bt {α:Type} {b:Bool} {x y:α} (h:b=true):(bif b then x else y)=x:=by rw[h];rfl
theorem bf {α:Type} {b:Bool} {x y:α} (h:b=false):(bif b then x else y)=y:=by rw[h];rfl
theorem su {f is:List Nat} {σ σ2:St} (h:Sub f is σ σ2:=by dsimp only[Sub,SubR,SubE,V.ren,renL,En.ren,nthE,nthF,lk,cond,Nat.beq,Nat.pred,List.length,List.length_nil,Nat.reduceAdd,List.getElem?_cons_zero,List.getElem?_cons_succ];(repeat' apply And.intro)<;>first | rfl | exact trivial | (rw[List.length_set])):Sub f is σ σ2:=h
theorem gdt {p:Prop} (h:p:=by dsimp only[ElOk,Qzn,Qm4,En.payO,lkE,cond,Nat.beq,FkO,agC,List.map,Str.fk,id,List.take,List.drop,List.take_succ_cons,List.drop_succ_cons,List.take_zero,List.drop_zero];repeat' (first | assumption | rfl | exact trivial | apply And.intro | omega)):p:=h
theorem bifI {b:Bool} {x y:Int} (hx:I64 x) (hy:I64 y):I64 (bif b then x else y):=by cases b<;>assumption
theorem bifS {b:Bool} {x y:ByteArray} (hx:x.size≤maxLen) (hy:y.size≤maxLen):(bif b then x else y).size≤maxLen:=by cases b<;>assumption
theorem bts (a:Array UInt8):(⟨a⟩:ByteArray).size=a.size:=rfl
theorem szt {p:Prop} (h:p:=by first | assumption | omega | (simp only[ByteArray.size_append,bts,List.size_toArray,List.length_cons,List.length_nil];omega)):p:=h
theorem en {f:FuncId} {fn:Func} {code:Code} {n:Nat} {args:List Arg} {res:List Re} {σ:St} {H:Prop} (hf:Tryz.prog.funcs[f]?=some fn) (hn:fn.ntmps=n) (h: ∀ w (hG:Gw w),H→Run (cx fn (Bs.old w hG) (Old w) w (Keep.refl _ _) (fun _ h=>h) (fun _ h=>h)) res σ [.code code]) (hb:fn.body=some code:=by rfl) (hl:Nat.ble args.length n=true:=by rfl) (hi:ini n args=σ:=by exact Dq1) (hgd:Qpv args=H:=by dsimp only[Qpv]):CTs f args res:=
 CT.of Ymm hf hb hn hl (by rw[hi,hgd];exact h)
theorem enM {G0:Prop} {f:FuncId} {fn:Func} {code:Code} {n mk m0 nn:Nat} {E0 F0 E1:List (Nat×En)} {args r:List V} (hf:Tryz.prog.funcs[f]?=some fn) (hn:fn.ntmps=n) (h: ∀ S w p hG hb hg,Run (cx fn (Bs.mut S w hG hb hg p mk E1 nn r G0) S w (Keep.refl _ _) (fun _ h=>h) hb) [] ⟨n,m0,Qln 0 args,E0++F0++Qqx p 0 mk⟩ [.code code]) (hb:fn.body=some code:=by rfl) (hl:Nat.ble args.length n=true:=by rfl) (hmk:Nat.ble mk m0=true:=by rfl) (hE:Yev E0=true:=by rfl):CTMs f mk m0 E0 F0 args E1 nn r G0:=
 CTM.of Ymm hf hb hn hl hmk hE fun S w p hG hb hg=>h S w p hG hb hg
theorem rzM {G0 G1:Prop} {fn:Func} {S:Nat→Prop} {w:World} {hG: ∀ w',Keep S w w'→Gw w'} {hb: ∀ b,S b→b<w.heap.size} {hg: ∀ g∈gls,S g} {p:Nat→Loc} {mk nn:Nat} {E1 E1':List (Nat×En)} {r r':List V} {S1:Nat→Prop} {w1:World} {hk1:Keep S w w1} {hs1: ∀ b,S b→S1 b} {hd1: ∀ b,S1 b→b<w1.heap.size} {res:List Re} {σ:St} {k:List It} {rs:List ResultVar} {vs:List V} (f is:List Nat) (hg1:G1) (hG1:G0=G1) (hE:E1=E1') (hr':r=r') (hr:fn.results.toList=rs:=by rfl) (hl:Nat.ble rs.length 4=true:=by rfl) (hv:rvsV ti σ.ρ σ.E rs=some vs:=by exact Dq3)
  (hs:SubE f σ.E is (E1'++Qqx p 0 mk):=by first | exact trivial | (dsimp only[SubE,V.ren,renL,En.ren,nthE,nthF,lk,cond,Nat.beq,Nat.pred,List.length,List.length_nil,Nat.reduceAdd,List.getElem?_cons_zero,List.getElem?_cons_succ,Qqx,borL,borN,List.cons_append,List.nil_append,List.append_nil];(repeat' apply And.intro)<;>first | rfl | exact trivial)) (hlen:Nat.beq f.length (mk+nn)=true:=by rfl) (hn:is.Nodup:=by decide) (hres:renL f r'=some vs:=by rfl):Run (cx fn (Bs.mut S w hG hb hg p mk E1 nn r G0) S1 w1 hk1 hs1 hd1) res σ (.code .ret::k):=by
 subst hE
 subst hr'
 exact Run.retM hr hl hv (hG1▸hg1) (fun _ _ _ h=>h) hs1 hk1 hb f is hlen hs hn hres
theorem Yqm {i:Nat} (h:i+2≤9223372036854775807):i64.wrap ((i:Int)+2)=((i+2:Nat):Int):=by
 rw[IntWalk.i64_in _ (by omega)];omega
theorem Qcv {i:Nat} (h:i+1≤9223372036854775807):i64.wrap ((i:Int)+1)=((i+1:Nat):Int):=by
 rw[IntWalk.i64_in _ (by omega)];omega
end
section
section
variable {fn:Func} {Bz:Bs} {S1:Nat→Prop} {w1:World} {hk1:Keep Bz.S0 Bz.w w1} {hs1: ∀ b,Bz.S0 b→S1 b} {hd1: ∀ b,S1 b→b<w1.heap.size} {res:List Re} {σ σ':St} {k k':List It}
theorem adu (n:Nat) (h:Run (cx fn Bz S1 w1 hk1 hs1 hd1) res σ' k') (hs:advN ti zr n (some (σ,k))=some (σ',k'):=by dsimp only[undef,ncV,szA,cvV,rnR,rnE,V.rn,rnL,En.rn,Qgn,memN,Qda,an,stK,cdK,opK,gdK,nvK,Qpj,Qpb,blK,bsK,stW,stV,ptK,litD,litC,pkV,wrV,binV,unV,ldV,faW,faV,agO,blV,exV,mfV,lenV,caV,Q18,Q0u,stO',sdV,Qa9,grdO,gBV,gPw,gPk,gGo,gK,gK1,gK2,tkK,tk1,rvsV,rvV,Nat.reduceAdd,Nat.reduceSub,Nat.reduceMul,advN,adv1,stO,litV,Qsq,Qne,pv,ev,evs,lk,lkE,setE,putE,put,cond,ldC,ldE,nthN,tuAt,bin,bi,bs,bb,ikq,TI.cells,V.cells,V.one,oneL,Qpx,grd,nthO,beqB,gB,wnt,gOp,adG,adG1,Q0a,Qfp,evG,V.side,V.strip,Qch,Qdg,Qeh,Qc9,Qjb,Qfx,Qg9,Qi2,Qnv,Qj1,Qma,ini,Qln,opn,nsl,adD,Qkw,Str.fk,ti_1,ti_2,ti_3,ti_4,ti_5,ti_6,ti_7,ti_8,ti_9,Ydc,Ydb,Yda,Yc9,Yc8,Yc7,Yc6,Yc5,Yc4,Yc3,Yc2,Yc1,Yc0,Ycz,Ycy,Ycx,Ycw,Ycv,Ycu,Yct,Ycs,Ycr,Ycq,Ycp,Yco,Ycn,Ycm,Ycl,Yck,Ycj,Yci,Ych,Ycg,Ycf,Yce,Ycd,Ycc,Ycb,Yca,Yb9,Yb8,Yb7,Yb6,Yb5,Yb4,Yb3,Yb2,Yb1,Yb0,Ybz,Yby,Ybx,Ybw,Ybv,Ybu,Ybt,Ybs,Ybr,Ybq,Ybp,Ybo,Ybn,Ybm,Ybl,Ybk,Ybj,Ybi,Ybh,Ybg,Ybf,Ybe,Ybd,Ybc,Ybb,Yba,Ya9,Ya8,Ya7,Ya6,Ya5,Ya4,Ya3,Ya2,Ya1,Ya0,Yaz,Yay,Yax,Qyl,Qyk,Qyj,Qyi,Qyh,Qyg,Qyf,Qye,Qyd,Qyc,Qyb,Qya,Qx9,Qx8,Qx7,Qx6,Qqn,Qx5,Qx4,Qx3,Qx2,Qx1,Qx0,Qxz,Qxy,Qxx,Qxw,Qxv,Qxu,Qxt,Qxs,Qxr,Qxq,Qxp,Qxo,Qxn,Qxm,Qxl,Qxk,Qxj,Qxi,Qxh,Qxg,Qxf,Qxe,Qxd,Qxc,Qxb,Qxa,Qw9,Qw8,Qw7,Qw6,Qw5,Qw4,Qw3,Qw2,Qw1,Qw0,Qwz,Qwy,Qwx,Qww,Qwv,Qwu,Qwt,Qws,Qwr,Qwq,Qwp,Qwo,Qwn,Qwm,Qwl,Qwk,Qwj,Qwi,Qwh,Qwg,Qwf,Qwe,Qwd,Qwc,Qwb,Qwa,Qv9,Qv8,Qv7,Qv6,Qv5,Qv4,Qv3,Qv2,Qv1,Qv0,Qvz,Qvy,Qvx,Qvw,Qvv,Qvu,Qvt,Qvs,Qvr,Qvq,Qvp,Qvo,Qvn,Qvm,Qvl,Qvk,Qvj,Qvi,Qvh,Qvg,Qvf,Qve,Qvd,Qvc,Qvb,Qva,Qu9,Qu8,Qu7,Qu6,Qu5,Qu4,Qu3,Qu2,Qu1,Qu0,Quz,Quy,Qux,Quw,Quv,Quu,Qut,Qus,Qur,Quq,Qup,Quo,Qun,Qum,Qul,Quk,Quj,Qui,Quh,Qug,Quf,Que,Qud,Quc,Qub,Qua,Qt9,Qt8,Qt7,Qt6,Qt5,Qt4,Qt3,Qt2,Qt1,Qt0,Qtz,Qty,Qtx,Qtw,Qtv,Qtu,Qtt,Qts,Qtr,Qtq,Qtp,Qto,Qtn,Qtm,Qtl,Qtk,Qtj,Qti,Qth,Qtg,Qtf,Qte,Qtd,Qtc,Qtb,zr_1,zr_2,zr_3,zr_4,zr_5,zr_6,zr_7,zr_8,zr_9,Yja,Yi9,Yi8,Yi7,Yi6,Yi5,Yi4,Yi3,Yi2,Yi1,Yi0,Yiz,Yiy,Yix,Yiw,Yiv,Yiu,Yit,Yis,Yir,Yiq,Yip,Yio,Yin,Yim,Yil,Yik,Yij,Yii,Yih,Yig,Yif,Yie,Yid,Yic,Yib,Yia,Yh9,Yh8,Yh7,Yh6,Yh5,Yh4,Yh3,Yh2,Yh1,Yh0,Yhz,Yhy,Yhx,Yhw,Yhv,Yhu,Yht,Yhs,Yhr,Yhq,Yhp,Yho,Yhn,Yhm,Yhl,Yhk,Yhj,Yhi,Yhh,Yhg,Yhf,Yhe,Yhd,Yhc,Yhb,Yha,Yg9,Yg8,Yg7,Yg6,Yg5,Yg4,Yg3,Yg2,Yg1,Yg0,Ygz,Ygy,Ygx,Ygw,Ygv,Q8h,Q8g,Q8f,Q8e,Q8d,Q8c,Q8b,Q8a,Q79,Q78,Q77,Q76,Q75,Q74,Q73,Q72,Q71,Q70,Q7z,Q7y,Q7x,Q7w,Q7v,Q7u,Q7t,Q7s,Q7r,Q7q,Q7p,Q7o,Q7n,Q7m,Q7l,Q7k,Q7j,Q7i,Q7h,Q7g,Q7f,Q7e,Q7d,Q7c,Q7b,Q7a,Q69,Q68,Q67,Q66,Q65,Q64,Q63,Q62,Q61,Q60,Q6z,Q6y,Q6x,Q6w,Q6v,Q6u,Q6t,Q6s,Q6r,Q6q,Q6p,Q6o,Q6n,Q6m,Q6l,Q6k,Q6j,Q6i,Q6h,Q6g,Q6f,Q6e,Q6d,Q6c,Q6b,Q6a,Q59,Q58,Q57,Q56,Q55,Q54,Q53,Q52,Q51,Q50,Q5z,Q5y,Q5x,Q5w,Q5v,Q5u,Q5t,Q5s,Q5r,Q5q,Q5p,Q5o,Q5n,Q5m,Q5l,Q5k,Q5j,Q5i,Q5h,Q5g,Q5f,Q5e,Q5d,Q5c,Q5b,Q5a,Q49,Q48,Q47,Q46,Q45,Q44,Q43,Q42,Q41,Q40,Q4z,Q4y,Q4x,Q4w,Q4v,Q4u,Q4t,Q4s,Q4r,Q4q,Q4p,Q4o,Q4n,Q4m,Q4l,Q4k,Q4j,Q4i,Q4h,Q4g,Q4f,Q4e,Q4d,Q4c,Q4b,Q4a,Q39,Q38,Q37,Q36,Q35,Q34,Q33,Q32,Q31,Q30,Q3z,Q3y,Q3x,Q3w,Q3v,Q3u,Q3t,Q3s,Q3r,Q3q,Q3p,Q3o,Q3n,Q3m,Q3l,Q3k,Q3j,Q3i,Q3h,Q3g,Q3f,Q3e,Q3d,Q3c,Q3b,Q3a,Nat.blt,Nat.succ_eq_add_one,Nat.ble,Nat.beq,Nat.pred,Nat.add_zero,Nat.zero_add,Nat.add_eq,List.toList_toArray,List.length,List.length_cons,List.length_nil,List.take,List.drop,List.append_nil,List.nil_append,List.cons_append,List.map,List.take_succ_cons,List.take_zero,List.take_nil,List.drop_succ_cons,List.drop_zero,List.drop_nil,List.size_toArray,List.getD,id,Op.operands,Call.operands,Value.cells,Array.size_empty]):Run (cx fn Bz S1 w1 hk1 hs1 hd1) res σ k:=Run.advN n hs h
end
end
section
def Fk.same {α:Type} (x y:α):Fk α→Prop
 | .int g=>g y=g x
 | .byte g=>g y=g x
 | .bool g=>g y=g x
 | .str g=>g y=g x
 | .sl _ _ g=>g y=g x
def Fk.scal {α:Type} (y:α) (u:Value):Fk α→Prop
 | .int g=>u= .int .i64 (g y)∧I64 (g y)
 | .byte g=>u= .int .u8 (g y).toNat
 | .bool g=>u= .bool (g y)
 | .str g=>u= .string (g y)∧(g y).size≤maxLen
 | .sl _ _ _=>False
def FkSm {α:Type} (x y:α):List (Fk α)→Prop
 | []=>True
 | f::fs=>f.same x y∧FkSm x y fs
def FkUp {α:Type} (x y:α) (u:Value):List (Fk α)→Nat→Prop
 | [],_=>False
 | f::fs,j=>bif Nat.beq j 0 then f.scal y u∧FkSm x y fs else f.same x y∧FkUp x y u fs (Nat.pred j)
section
variable {α:Type} {x y:α} {u:Value} {w:World}
theorem Fk.own_sm {f:Fk α} (h:f.same x y) {v:Value} {F:List Nat} (ho:f.own w x v F):f.own w y v F:=by
 cases f<;>simp only[Fk.same] at h<;>simp only[Fk.own] at ho ⊢ <;> rw[h]<;>exact ho
theorem Yo7: ∀ {fs:List (Fk α)} {cs:List Value} {F:List Nat},FkSm x y fs→OwL w x fs cs F→OwL w y fs cs F
 | [],_,_,_,h=>h
 | f::fs,_,_,h,⟨v,r,G,H,e1,e2,hv,hr⟩=>⟨v,r,G,H,e1,e2,Fk.own_sm h.1 hv,Yo7 h.2 hr⟩
theorem Yo6: ∀ {fs:List (Fk α)} {cs:List Value} {F:List Nat} {j:Nat},FkUp x y u fs j→OwL w x fs cs F→OwL w y fs (cs.set j u) F
 | [],_,_,_,h,_=>h.elim
 | f :: fs, cs, F, j, h, ⟨v, r, G, H, e1, e2, hv, hr⟩ => by
  subst e1
  subst e2
  simp only[FkUp] at h
  cases j with
  | zero =>
   have h':f.scal y u∧FkSm x y fs:=h
   refine⟨u,r,G,H,rfl,rfl,?_,Yo7 h'.2 hr⟩
   have h1:=h'.1
   cases f<;>simp only[Fk.scal] at h1<;>simp only[Fk.own] at hv ⊢
   ·exact⟨h1,hv.2⟩
   ·exact⟨h1,hv.2⟩
   ·exact⟨h1,hv.2⟩
   ·exact⟨h1,hv.2⟩
  | succ j =>
   have h':f.same x y∧FkUp x y u fs j:=h
   exact⟨v,r.set j u,G,H,rfl,rfl,Fk.own_sm h'.1 hv,Yo6 h'.2 hr⟩
theorem Yfy: ∀ {fs:List (Fk α)} {j:Nat},FkUp x y u fs j→u.oneCell'=true∧u.cells= #[u]∧j<fs.length
 | [],_,h=>h.elim
 | f :: fs, j, h => by
  simp only[FkUp] at h
  cases j with
  | zero =>
   have h1:f.scal y u:=(show f.scal y u∧FkSm x y fs from h).1
   refine⟨?_,?_,Nat.succ_pos _⟩<;>cases f<;>simp only[Fk.scal] at h1
   ·rw[h1.1];rfl
   ·rw[h1];rfl
   ·rw[h1];rfl
   ·rw[h1.1];rfl
   ·rw[h1.1];rfl
   ·rw[h1];rfl
   ·rw[h1];rfl
   ·rw[h1.1];rfl
  | succ j =>
   obtain⟨h1,h2,h3⟩:=Yfy (show f.same x y∧FkUp x y u fs j from h).2
   exact⟨h1,h2,Nat.succ_lt_succ h3⟩
theorem Q82: ∀ {fs:List (Fk α)} {cs:List Value} {F:List Nat},OwL w x fs cs F→cs.length=fs.length
 | [],_,_,h=>by rw[h.1];rfl
 | f::fs,_,_,⟨v,r,G,H,e1,e2,hv,hr⟩=>by rw[e1,List.length_cons,List.length_cons,Q82 hr]
end
theorem Ylu {l : List Value} {k sz j : Nat} {u : Value} (hj : j < sz) (i : Nat) : Fw.cut sz (l.set (k * sz + j) u) i = if i = k then (Fw.cut sz l k).set j u else Fw.cut sz l i := by
 unfold Fw.cut
 apply List.ext_getElem?
 intro n
 by_cases e:i=k
 ·subst e
  rw[if_pos rfl,List.getElem?_take,List.getElem?_set]
  by_cases hn:n<sz
  ·rw[if_pos hn,List.getElem?_drop,List.getElem?_set,List.getElem?_take,if_pos hn,List.getElem?_drop]
   by_cases hjn:j=n
   ·subst hjn
    rw[if_pos rfl,if_pos rfl]
    by_cases hl:i*sz+j<l.length
    ·rw[if_pos hl,if_pos (by rw[List.length_take,List.length_drop];omega)]
    ·rw[if_neg hl,if_neg (by rw[List.length_take,List.length_drop];omega)]
   ·rw[if_neg (by omega),if_neg hjn]
  ·rw[if_neg hn,if_neg (by omega),List.getElem?_take,if_neg hn]
 ·rw[if_neg e,List.getElem?_take,List.getElem?_take]
  by_cases hn:n<sz
  ·rw[if_pos hn,if_pos hn,List.getElem?_drop,List.getElem?_drop,List.getElem?_set,if_neg]
   intro h
   rcases Nat.lt_or_gt_of_ne e with h1 | h1
   ·have:=Nat.mul_le_mul_right sz (show i+1≤k by omega)
    rw[Nat.succ_mul] at this
    omega
   ·have:=Nat.mul_le_mul_right sz (show k+1≤i by omega)
    rw[Nat.succ_mul] at this
    omega
  ·rw[if_neg hn,if_neg hn]
theorem put1 {arr:Array Value} {off:Nat} {u:Value} (h:off<arr.size):Qg3 arr off 1 [u]=(arr.toList.set off u).toArray:=by
 unfold Qg3
 rw[List.set_eq_take_append_cons_drop,if_pos (by rw[Array.length_toList];exact h),List.append_assoc]
 rfl
section
variable {c:Cx} {σ:St} {all:Array Oper} {ty:TypeId} {pos:String} {after:Array Edge} {d:Nat}
theorem OpS.stF {α:Type} {dα:Dat α} [s:@Str α dα] [Inhabited α] {t:Nat} {x v:Operand} {r off:Nat} {xs:List α} (k j:Nat) (y:α) {u:Value} (hx:ev σ.ρ x=some (.pt r off)) (hoff:off=k*Dat.sz α+j) (hr:lkE σ.E r=some (.own α dα xs)) (hk:k<xs.length)
  (hv:ev σ.ρ v=some (.v u)) (ht:(c.ti t).cells=some 1) (hu:FkUp (nth xs k) y u s.fk j):
  OpS c σ all ⟨none,.store t x v,ty,pos,after,none⟩ ⟨σ.n,σ.m,σ.ρ,putE r (r,.own α dα (xs.set k y)) σ.E⟩:=
 OpS.of fun θ a w h K Q hK => by
  subst hoff
  obtain⟨S,w1,hh⟩:=h.heap
  obtain⟨l,hl,hown⟩:=hh.own hr
  obtain⟨h1,hcells,hj⟩:=Yfy hu
  have hve:=h.env.con hv
  simp only[V.con,Option.some.injEq] at hve
  rcases hown with ⟨e1,e2,_⟩ | ⟨g,cap,arr,T,Fs,e1,e2,e3,e4,e5,e6,e7,e8⟩
  ·rw[e2] at hk;exact absurd hk (by simp)
  obtain⟨A,cap',F⟩:=l
  injection e1 with e1a e1b e1c
  simp only at e1a e1c e6
  subst e1a
  subst e1c
  subst e6
  have hnk:xs[k]?=some (nth xs k):=by
   unfold nth
   rw[List.getD_eq_getElem?_getD,List.getElem?_eq_getElem hk]
   rfl
  obtain⟨Gk,hGk,hok⟩:=e8 k _ hnk
  have hjs:j<Dat.sz α:=by
   have e:=Q82 (s.oop hok)
   have:=Dat.rd_len (Dat.own_rd (B:=fun _=>True) hok fun _ _=>trivial)
   omega
  have hle:k*Dat.sz α+Dat.sz α≤arr.size:=by
   have h1:(k+1)*Dat.sz α≤cap'*Dat.sz α:=Nat.mul_le_mul_right _ (by omega)
   rw[Nat.succ_mul] at h1
   omega
  have hxe:=h.env.con hx
  simp only[V.con,hl,Option.some.injEq] at hxe
  have e:(⟨g,0,none⟩:Addr).add (k*Dat.sz α+j)=⟨g,k*Dat.sz α+j,none⟩:=by unfold Addr.add;split<;>simp_all
  have hst:=run_storeCells_at c.P g (k*Dat.sz α+j) T [u] 0 arr w e2 (by rw[List.length_singleton];omega) (fun x hx=>by rw[List.mem_singleton.1 hx];exact h1)
  have hsz: ∀ w,(sizeOf t).run c.P w= .ok 1 w:=fun w=>TI.cells_size (c.tiok t) ht w
  have hrun:(execOp a.eval ⟨none,.store t x v,ty,pos,after,none⟩).run c.P w= .ok .skip (w.setRow g (Qg3 arr (k*Dat.sz α+j) 1 [u])):=by
   have hs:(a.eval v).cells.size=1:=by rw[←hve,hcells];rfl
   simp only[execOp,←hxe,Instr.storeAt,Instr.sureAddr,storeVar,Sem.run_bind,Sem.run_pure,Result.andThen_ok,hsz,hs,ne_eq,not_true_eq_false,if_false,e]
   rw[←hve,hcells,show(#[u]:Array Value).toList=[u] from rfl,hst]
   simp only[Nat.add_zero,List.length_singleton,Result.andThen_ok,Qg3]
  unfold Oper.wp
  rw[hrun,put1 (by omega)]
  have hck:((En.own α dα xs).ck θ r).F=g::Fs.flatten:=Qai hl
  have hother: ∀ b,b≠g→(w.setRow g (arr.toList.set (k*Dat.sz α+j) u).toArray).heap[b]?=w.heap[b]?:=fun b hb=>setRow_other w g b _ hb
  refine hK [] _ _ ⟨by rw[List.append_nil];exact h.len,by rw[List.append_nil];exact h.env,S,w1,?_⟩
  rw[List.append_nil]
  have hnd:=hh.sh.nd (k:=(Qm3 hr).choose) (c:=(En.own α dα xs).ck θ r) (by rw[List.getElem?_map,(Qm3 hr).choose_spec.1];rfl)
  rw[hck] at hnd
  have hgF:g ∉ Fs.flatten:=(List.nodup_cons.1 hnd).1
  refine hh.turn hr (p:=(r,.own α dα (xs.set k y))) rfl rfl rfl (by simp) (fun b _ hb=>hother b fun e=>hb (by rw[hck,e];exact List.mem_cons_self)) ?_ ?_ ?_ trivial
  ·intro w2 hw2
   have hF':((En.own α dα (xs.set k y)).ck θ r).F=g::Fs.flatten:=Qai hl
   refine⟨_,hl,Qgs.2 (.inr ⟨g,cap',(arr.toList.set (k*Dat.sz α+j) u).toArray,T,Fs,rfl,?_,by rw[List.length_set];exact e3,e4,by rw[List.size_toArray,List.length_set,Array.length_toList];exact e5,rfl,by rw[List.length_set];exact e7,fun i x hi=>?_⟩)⟩
   ·exact(hw2 g (by rw[hF'];exact List.mem_cons_self)).trans (setRow_heap w g arr _ T _ e2)
   ·have hsame : ∀ G, Fs[i]? = some G → ∀ b ∈ G, w2.heap[b]? = w.heap[b]? := fun G hG b hb => by
     have hbf:b∈Fs.flatten:=List.mem_flatten.2 ⟨G,List.mem_of_getElem? hG,hb⟩
     exact(hw2 b (by rw[hF'];exact List.mem_cons_of_mem _ hbf)).trans (hother b fun e=>hgF (e▸hbf))
    rw[show((arr.toList.set (k*Dat.sz α+j) u).toArray.toList)=arr.toList.set (k*Dat.sz α+j) u from rfl,Ylu hjs]
    rw[List.getElem?_set] at hi
    by_cases e:k=i
    ·subst e
     rw[if_pos rfl,if_pos hk] at hi
     cases hi
     rw[if_pos rfl]
     exact⟨Gk,hGk,Dat.own_same (s.omk (Yo6 hu (s.oop hok))) (hsame Gk hGk)⟩
    ·rw[if_neg e] at hi
     rw[if_neg (fun h=>e h.symm)]
     obtain⟨G,hG,ho⟩:=e8 i x hi
     exact⟨G,hG,Dat.own_same ho (hsame G hG)⟩
  ·intro b hb
   have hb':b∈g::Fs.flatten:=by
    have:((r,En.own α dα (xs.set k y)).2.ck θ (r,En.own α dα (xs.set k y)).1).F=g::Fs.flatten:=Qai hl
    rwa [this] at hb
   refine⟨.inl (by rw[hck];exact hb'),?_⟩
   rw[size_setRow]
   exact(hh.sh.ge _ (List.mem_map.2 ⟨_,Qej hr,rfl⟩) b (by rw[hck];exact hb')).2
  ·show(locF θ r).Nodup
   rw[Qai hl]
   exact hnd
end
end
section
theorem Run.midO {c:Cx} {res:List Re} {σ:St} {l:List Oper} {all:Array Oper} {k:List It} (σ2:St) (h:Run c res σ (.ops l all :: .goal (At c σ2)::k)) (hk:Run c res σ2 k):Run c res σ (.ops l all::k):=by
 intro θ a w hR
 rw[Qoc]
 refine Qov (Mid:=At c σ2) l l.length a w ?_ ?_
 ·rw[List.take_length]
  exact h θ a w hR
 ·rw[List.drop_length]
  rintro a w ⟨θ',hR'⟩
  exact hk θ' a w hR'
theorem Run.bc {c:Cx} {res:List Re} {σ:St} {k:List It} (t:Nat) {b:Bool} (hl:lk σ.ρ t=some (.v (.bool b))) (ht:b=true→Run c res ⟨σ.n,σ.m,(t,.v (.bool true))::σ.ρ,σ.E⟩ k) (hf:b=false→Run c res ⟨σ.n,σ.m,(t,.v (.bool false))::σ.ρ,σ.E⟩ k):Run c res σ k:=by
 intro θ a w hR
 have key : ∀ b', b = b' → R c θ ⟨σ.n, σ.m, (t, .v (.bool b')) :: σ.ρ, σ.E⟩ a w := fun b' hb => by
  subst hb
  refine⟨hR.len,⟨hR.env.size,hR.env.defers,fun t' v hv=>?_⟩,hR.heap⟩
  simp only[lk] at hv
  by_cases e:Nat.beq t t'=true
  ·rw[e] at hv
   obtain rfl:=Nat.eq_of_beq_eq_true e
   cases hv
   exact hR.env.get t _ hl
  ·rw[Bool.not_eq_true] at e
   rw[e] at hv
   exact hR.env.get t' v hv
 cases hb:b with
 | true=>exact ht hb θ a w (key _ hb)
 | false=>exact hf hb θ a w (key _ hb)
section
variable {P:Program} {n:Nat} {ρ:List (Nat×Value)} {a:Act} {w:World} {ty:TypeId}
theorem Yue (hE:Env n ρ a) {x y:Operand} {ts:Array TypeId} {k q:IntKind} {i j:Int} (hx:ev? ρ x=some (.int k i)) (hy:ev? ρ y=some (.int q j)):
    Qcg P a w (.call { callee:= .builtin .min,args:= #[x,y],argTypes:=ts }) ty (.int k (min i j)):=by
  intro _ _ _ _
  have e:(if j<i then j else i)=min i j:=by split<;>omega
  simp[execOp,resolve,hE.eval hx,hE.eval hy,invoke,builtin,Builtin.min_,Builtin.min2,e]
theorem Yuf (hE:Env n ρ a) {x y:Operand} {ts:Array TypeId} {k q:IntKind} {i j:Int} (hx:ev? ρ x=some (.int k i)) (hy:ev? ρ y=some (.int q j)):
    Qcg P a w (.call { callee:= .builtin .max,args:= #[x,y],argTypes:=ts }) ty (.int k (max i j)):=by
  intro _ _ _ _
  have e:(if i<j then j else i)=max i j:=by split<;>omega
  simp[execOp,resolve,hE.eval hx,hE.eval hy,invoke,builtin,Builtin.max_,Builtin.max2,e]
def ltB (x y:ByteArray):Bool:=Op.bytesLess x.toList y.toList
theorem Qs6 (hE:Env n ρ a) {x y:Operand} {t t':Nat} {i j:ByteArray} (hx:ev? ρ x=some (.string i)) (hy:ev? ρ y=some (.string j)):
  Qcg P a w (.binOp .lss t x y t') ty (.bool (ltB i j)):=by
 intro _ _ _ _
 simp only[execOp,hE.eval hx,hE.eval hy,eqGuard_at_string,binOp,Op.stringOp,Qmf,Sem.run_bind,Sem.run_pure,Result.andThen_ok,ltB]
theorem Qs8 (hE:Env n ρ a) {x y:Operand} {t t':Nat} {i j:ByteArray} (hx:ev? ρ x=some (.string i)) (hy:ev? ρ y=some (.string j)):
  Qcg P a w (.binOp .leq t x y t') ty (.bool (ltB i j||decide (i=j))):=by
 intro _ _ _ _
 simp only[execOp,hE.eval hx,hE.eval hy,eqGuard_at_string,binOp,Op.stringOp,Qmf,Sem.run_bind,Sem.run_pure,Result.andThen_ok,ltB]
theorem Qs9 (hE:Env n ρ a) {x y:Operand} {t t':Nat} {i j:ByteArray} (hx:ev? ρ x=some (.string i)) (hy:ev? ρ y=some (.string j)):
  Qcg P a w (.binOp .gtr t x y t') ty (.bool (!(ltB i j||decide (i=j)))):=by
 intro _ _ _ _
 simp only[execOp,hE.eval hx,hE.eval hy,eqGuard_at_string,binOp,Op.stringOp,Qmf,Sem.run_bind,Sem.run_pure,Result.andThen_ok,ltB]
theorem Qta (hE:Env n ρ a) {x y:Operand} {t t':Nat} {i j:ByteArray} (hx:ev? ρ x=some (.string i)) (hy:ev? ρ y=some (.string j)):
  Qcg P a w (.binOp .geq t x y t') ty (.bool (!(ltB i j))):=by
 intro _ _ _ _
 simp only[execOp,hE.eval hx,hE.eval hy,eqGuard_at_string,binOp,Op.stringOp,Qmf,Sem.run_bind,Sem.run_pure,Result.andThen_ok,ltB]
end
section
variable {c:Cx} {σ:St} {all:Array Oper} {ty:TypeId} {pos:String} {after:Array Edge} {d:Nat}
theorem OpS.min2 {x y:Operand} {ts:Array TypeId} {k q:IntKind} {i j:Int} (hx:ev σ.ρ x=some (.v (.int k i))) (hy:ev σ.ρ y=some (.v (.int q j))) (hd:Nat.blt d σ.n=true):
    OpS c σ all ⟨some d,.call { callee:= .builtin .min,args:= #[x,y],argTypes:=ts },ty,pos,after,none⟩ (put d (.v (.int k (min i j))) σ):=
  OpS.of fun θ a w h K Q hK => by
    unfold Oper.wp
    rw[Yue (P:=c.P) (w:=w) (ty:=ty) h.env.env (h.env.isv hx) (h.env.isv hy)]
    exact hK [] _ _ (h.put hd rfl).app0
theorem OpS.max2 {x y:Operand} {ts:Array TypeId} {k q:IntKind} {i j:Int} (hx:ev σ.ρ x=some (.v (.int k i))) (hy:ev σ.ρ y=some (.v (.int q j))) (hd:Nat.blt d σ.n=true):
    OpS c σ all ⟨some d,.call { callee:= .builtin .max,args:= #[x,y],argTypes:=ts },ty,pos,after,none⟩ (put d (.v (.int k (max i j))) σ):=
  OpS.of fun θ a w h K Q hK => by
    unfold Oper.wp
    rw[Yuf (P:=c.P) (w:=w) (ty:=ty) h.env.env (h.env.isv hx) (h.env.isv hy)]
    exact hK [] _ _ (h.put hd rfl).app0
def cmpB:BinOp→ByteArray→ByteArray→Option Bool
 | .lss,i,j=>some (ltB i j)
 | .leq,i,j=>some (ltB i j||decide (i=j))
 | .gtr,i,j=>some (!(ltB i j||decide (i=j)))
 | .geq,i,j=>some (!(ltB i j))
 | _,_,_=>none
theorem OpS.scmp {o:BinOp} {t t':Nat} {x y:Operand} {i j:ByteArray} {b:Bool} (hx:ev σ.ρ x=some (.v (.string i))) (hy:ev σ.ρ y=some (.v (.string j))) (hc:cmpB o i j=some b) (hd:Nat.blt d σ.n=true):
  OpS c σ all ⟨some d,.binOp o t x y t',ty,pos,after,none⟩ (put d (.v (.bool b)) σ):=
 OpS.of fun θ a w h K Q hK => by
  have hyy:Qcg c.P a w (.binOp o t x y t') ty (.bool b):=by
   cases o<;>simp only[cmpB] at hc<;>cases hc
   ·exact Qs6 h.env.env (h.env.isv hx) (h.env.isv hy)
   ·exact Qs8 h.env.env (h.env.isv hx) (h.env.isv hy)
   ·exact Qs9 h.env.env (h.env.isv hx) (h.env.isv hy)
   ·exact Qta h.env.env (h.env.isv hx) (h.env.isv hy)
  unfold Oper.wp
  rw[hyy]
  exact hK [] _ _ (h.put hd rfl).app0
end
end
section
section
variable {fn:Func} {Bz:Bs} {S1:Nat→Prop} {w1:World} {hk1:Keep Bz.S0 Bz.w w1} {hs1: ∀ b,Bz.S0 b→S1 b} {hd1: ∀ b,S1 b→b<w1.heap.size} {res:List Re} {k:List It} {σ σ':St} {all:Array Oper} {ty:TypeId} {pos:String} {after:Array Edge} {d:Nat}
theorem sF {α:Type} {dα:Dat α} [s:@Str α dα] [Inhabited α] {t:Nat} {x v:Operand} {r off:Nat} {xs:List α} {u:Value} (kk j:Nat) (y:α) (hu:FkUp (nth xs kk) y u s.fk j) (hk:kk<xs.length) (hx:ev σ.ρ x=some (.pt r off):=by exact Dq0) (hr:lkE σ.E r=some (.own α dα xs):=by exact Dq0) (hv:ev σ.ρ v=some (.v u):=by exact Dq0) (hoff:off=kk*Dat.sz α+j:=by rfl) (ht:(ti t).cells=some 1:=by rfl):
  OpS (cx fn Bz S1 w1 hk1 hs1 hd1) σ all ⟨none,.store t x v,ty,pos,after,none⟩ ⟨σ.n,σ.m,σ.ρ,putE r (r,.own α dα (xs.set kk y)) σ.E⟩:=OpS.stF kk j y hx hoff hr hk hv ht hu
theorem bN {x y:Operand} {ts:Array TypeId} {k q:IntKind} {i j:Int} (hx:ev σ.ρ x=some (.v (.int k i)):=by exact Dq0) (hy:ev σ.ρ y=some (.v (.int q j)):=by exact Dq0) (hd:Nat.blt d σ.n=true:=by rfl):
    OpS (cx fn Bz S1 w1 hk1 hs1 hd1) σ all ⟨some d,.call { callee:= .builtin .min,args:= #[x,y],argTypes:=ts },ty,pos,after,none⟩ (put d (.v (.int k (min i j))) σ):=OpS.min2 hx hy hd
theorem bX {x y:Operand} {ts:Array TypeId} {k q:IntKind} {i j:Int} (hx:ev σ.ρ x=some (.v (.int k i)):=by exact Dq0) (hy:ev σ.ρ y=some (.v (.int q j)):=by exact Dq0) (hd:Nat.blt d σ.n=true:=by rfl):
    OpS (cx fn Bz S1 w1 hk1 hs1 hd1) σ all ⟨some d,.call { callee:= .builtin .max,args:= #[x,y],argTypes:=ts },ty,pos,after,none⟩ (put d (.v (.int k (max i j))) σ):=OpS.max2 hx hy hd
theorem sQ {o:BinOp} {t t':Nat} {x y:Operand} {i j:ByteArray} {b:Bool} (hx:ev σ.ρ x=some (.v (.string i)):=by exact Dq0) (hy:ev σ.ρ y=some (.v (.string j)):=by exact Dq0) (hc:cmpB o i j=some b:=by rfl) (hd:Nat.blt d σ.n=true:=by rfl):
  OpS (cx fn Bz S1 w1 hk1 hs1 hd1) σ all ⟨some d,.binOp o t x y t',ty,pos,after,none⟩ (put d (.v (.bool b)) σ):=OpS.scmp hx hy hc hd
theorem bc (t:Nat) {b:Bool} (ht:b=true→Run (cx fn Bz S1 w1 hk1 hs1 hd1) res ⟨σ.n,σ.m,(t,.v (.bool true))::σ.ρ,σ.E⟩ k) (hf:b=false→Run (cx fn Bz S1 w1 hk1 hs1 hd1) res ⟨σ.n,σ.m,(t,.v (.bool false))::σ.ρ,σ.E⟩ k) (hl:lk σ.ρ t=some (.v (.bool b)):=by exact Dq0):Run (cx fn Bz S1 w1 hk1 hs1 hd1) res σ k:=Run.bc t hl ht hf
end
end
section
theorem Ygq {f:List Nat} {E:List (Nat×En)}: ∀ {js:List Nat} {E2:List (Nat×En)},SubE f E js E2→ ∀ e∈E2,∃ q e',f[e.1]?=some q∧e.2.ren f=some e'∧(q,e')∈E
 | [],[],_,_,h=>by cases h
 | [],_::_,h,_,_=>h.elim
 | _::_,[],h,_,_=>h.elim
 | i :: is, (r, e) :: E2, h, x, hx => by
  obtain⟨h1,h2⟩:=h
  rcases List.mem_cons.1 hx with rfl | hx
  ·split at h1
   ·rename_i q e' hq he
    exact⟨q,e',Q0e hq,he,List.mem_of_getElem? (Qky h1)⟩
   ·exact h1.elim
  ·exact Ygq h2 x hx
theorem renθ_pre {f:List Nat} {m0:Nat} {θ0 η:List Loc} (hl:θ0.length=m0) (h0:f.take m0=List.range m0):renθ f (θ0++η)=θ0++renθ (f.drop m0) (θ0++η):=by
 conv=>lhs;rw[←List.take_append_drop m0 f]
 unfold renθ
 rw[List.map_append,h0]
 congr 1
 subst hl
 apply List.ext_getElem?
 intro i
 rw[List.getElem?_map]
 rcases Nat.lt_or_ge i θ0.length with h | h
 ·rw[List.getElem?_range h,Option.map_some,List.getD_eq_getElem?_getD,List.getElem?_append_left h,List.getElem?_eq_getElem h]
  rfl
 ·rw[List.getElem?_eq_none (by rw[List.length_range];exact h),List.getElem?_eq_none h]
  rfl
theorem RunD.sub {c:Cx} {K:Act→World→Prop} {E0:List (Nat×En)} {m0:Nat} {ops:Array Oper} {n:Nat} {M:List (Nat×En)} {listed:Array Bool} {σ σ2:St} (f is js:List Nat) (hs:Sub f is σ σ2) (hn:is.Nodup) (h0:f.take m0=List.range m0) (hM:SubE f M js M) (h:RunD c K E0 m0 ops n M listed σ2):RunD c K E0 m0 ops n M listed σ:=by
 intro θ0 η a w hl hR hS hB0 hF
 have hR2:=hR.sub hs hn
 rw[renθ_pre hl h0] at hR2
 refine h θ0 _ a w hl hR2 hS hB0 fun e he=>⟨?_,(hF e he).2⟩
 obtain⟨q,e',hq,hr,hmem⟩:=Ygq hM e he
 have:=En.ren_ok hq hr (hF _ hmem).1
 rw[renθ_pre hl h0] at this
 exact this
def Yaf (c:Cx) (K:Act→World→Prop) (E0:List (Nat×En)) (m0:Nat) (ops:Array Oper) (n:Nat) (M:List (Nat×En)) (listed:Array Bool) (σ:St):List Nat→Prop
 | []=>True
 | i::is=>Qzo c K E0 m0 ops n M listed σ i∧Yaf c K E0 m0 ops n M listed σ is
theorem Yaf.all {c:Cx} {K:Act→World→Prop} {E0:List (Nat×En)} {m0:Nat} {ops:Array Oper} {n:Nat} {M:List (Nat×En)} {listed:Array Bool} {σ:St}: ∀ {L:List Nat},Yaf c K E0 m0 ops n M listed σ L→ ∀ i∈L,Qzo c K E0 m0 ops n M listed σ i
 | [],_,_,h=>by cases h
 | j :: L, h, i, hi => by
  rcases List.mem_cons.1 hi with rfl | hi
  ·exact h.1
  ·exact Yaf.all h.2 i hi
end
section
theorem RunD.lit {c:Cx} {K:Act→World→Prop} {E0:List (Nat×En)} {m0:Nat} {ops:Array Oper} {N:Nat} {M:List (Nat×En)} {listed:Array Bool} {σ:St} (r:Nat) {α:Type} {d:Dat α} [s:@Str α d] (ys:List α) {cs:List V} {T n:Nat} (he:lkE σ.E r=some (.lit cs T n)) (hl:ys.length=n) (hm:Nat.ble n 1000=true) (hn:V.names.namesL cs=[]) (ho:ElOk σ.E (Dat.sz α) d s.fk ys cs) (h:RunD c K E0 m0 ops N M listed ⟨σ.n,σ.m,σ.ρ,putE r (r,.own α d ys) σ.E⟩):RunD c K E0 m0 ops N M listed σ:=by
 intro θ0 η a w hl0 hR hS hB0 hM
 obtain⟨S,w1,hh⟩:=hR.heap
 exact h θ0 η a w hl0 ⟨hR.len,hR.env,S,w1,hh.lit he s hl (by have:=Nat.le_of_ble_eq_true hm;unfold maxLen;omega) hn ho⟩ hS hB0 hM
end
section
section
variable {fn:Func} {Bz:Bs} {S1:Nat→Prop} {w1:World} {hk1:Keep Bz.S0 Bz.w w1} {hs1: ∀ b,Bz.S0 b→S1 b} {hd1: ∀ b,S1 b→b<w1.heap.size} {K:Act→World→Prop} {E0:List (Nat×En)} {m0:Nat} {ops:Array Oper} {n:Nat} {M:List (Nat×En)} {listed:Array Bool} {σ σ':St}
theorem dcut {P:Prop} (nn n2:Nat) (is2:List Nat) (σ2:St) (h:P→RunD (cx fn Bz S1 w1 hk1 hs1 hd1) K E0 m0 ops n2 M (Qkw (Array.replicate nn false) is2) σ2) (hk:(P→RunD (cx fn Bz S1 w1 hk1 hs1 hd1) K E0 m0 ops n2 M (Qkw (Array.replicate nn false) is2) σ2)→RunD (cx fn Bz S1 w1 hk1 hs1 hd1) K E0 m0 ops n M listed σ):RunD (cx fn Bz S1 w1 hk1 hs1 hd1) K E0 m0 ops n M listed σ:=hk h
theorem dAt {listed2:Array Bool} {σ2:St} (f is js:List Nat) (r:RunD (cx fn Bz S1 w1 hk1 hs1 hd1) K E0 m0 ops n M listed2 σ2) (hs:Sub f is σ σ2) (hl:listed=listed2:=by kernel_rfl) (hn:is.Nodup:=by decide) (h0:f.take m0=List.range m0:=by rfl) (hM:SubE f M js M:=by dsimp only[SubE,V.ren,renL,En.ren,nthE,nthF,lk,cond,Nat.beq,Nat.pred];(repeat' apply And.intro)<;>first | rfl | exact trivial):RunD (cx fn Bz S1 w1 hk1 hs1 hd1) K E0 m0 ops n M listed σ:=by
 subst hl
 exact RunD.sub f is js hs hn h0 hM r
theorem oL (L:List Nat) {n':Nat} (h:Yaf (cx fn Bz S1 w1 hk1 hs1 hd1) K E0 m0 ops n M listed σ L) (hn:n'=n+1:=by rfl) (hr:Region.ready .any ops listed=L:=by kernel_rfl) (hL:L≠[]:=by simp):RunD (cx fn Bz S1 w1 hk1 hs1 hd1) K E0 m0 ops n' M listed σ:=by
 subst hn
 exact RunD.alts hr hL (Yaf.all h)
theorem liD (r:Nat) {α:Type} {d:Dat α} [s:@Str α d] (ys:List α) {cs:List V} {T n0:Nat} {E':List (Nat×En)} (h:RunD (cx fn Bz S1 w1 hk1 hs1 hd1) K E0 m0 ops n M listed ⟨σ.n,σ.m,σ.ρ,E'⟩) (he:lkE σ.E r=some (.lit cs T n0):=by exact Dq0) (ho:ElOk σ.E (Dat.sz α) d s.fk ys cs:=by dsimp only[ElOk,Qzn,Qm4,En.payO,lkE,cond,Nat.beq,FkO,agC,List.map,Str.fk,id,List.take,List.drop,List.take_succ_cons,List.drop_succ_cons,List.take_zero,List.drop_zero];repeat' (first | assumption | exact gi _ | exact gs _ | rfl | exact trivial | apply And.intro | omega)) (hl:ys.length=n0:=by rfl) (hm:Nat.ble n0 1000=true:=by rfl) (hn:V.names.namesL cs=[]:=by rfl) (hs:putE r (r,.own α d ys) σ.E=E':=by exact Dq2):RunD (cx fn Bz S1 w1 hk1 hs1 hd1) K E0 m0 ops n M listed σ:=RunD.lit r ys he hl hm hn ho (by rw[hs];exact h)
theorem d2 {i:Nat} {is:List Nat} (h1:Qzo (cx fn Bz S1 w1 hk1 hs1 hd1) K E0 m0 ops n M listed σ i) (h2:Yaf (cx fn Bz S1 w1 hk1 hs1 hd1) K E0 m0 ops n M listed σ is):Yaf (cx fn Bz S1 w1 hk1 hs1 hd1) K E0 m0 ops n M listed σ (i::is):=⟨h1,h2⟩
theorem d0:Yaf (cx fn Bz S1 w1 hk1 hs1 hd1) K E0 m0 ops n M listed σ []:=trivial
end
section
variable {fn:Func} {Bz:Bs} {S1:Nat→Prop} {w1:World} {hk1:Keep Bz.S0 Bz.w w1} {hs1: ∀ b,Bz.S0 b→S1 b} {hd1: ∀ b,S1 b→b<w1.heap.size} {σ σ':St} {all:Array Oper} {ty:TypeId} {pos:String} {after:Array Edge} {d:Nat}
end
theorem gnil {α:Type} {d:Dat α}:(@instDatList α d).good []:=⟨Nat.zero_le _,fun _ h=>by cases h⟩
theorem gdz {p:Prop} (h:p:=by dsimp only[Value.cells,List.toList_toArray,List.map];dsimp only[ElOk,Qzn,Qm4,En.payO,lkE,cond,Nat.beq,FkO,agC,List.map,Str.fk,id,List.take,List.drop,List.take_succ_cons,List.drop_succ_cons,List.take_zero,List.drop_zero];repeat' (first | assumption | exact gi _ | exact gs _ | exact gnil | rfl | exact trivial | apply And.intro | omega)):p:=h
end
section
section
variable {c:Cx} {σ:St} {all:Array Oper} {ty:TypeId} {pos:String} {after:Array Edge} {d:Nat}
theorem OpS.scmpG {op:BinOp} {t t':Nat} {x y:Operand} {i1 i2:ByteArray} {b:Bool} {j:Nat} {want B:Bool} (hB:gB σ.ρ all j want=some B) (hx:evG σ.ρ x=some (.v (.string i1))) (hy:evG σ.ρ y=some (.v (.string i2))) (hside:B=true→Qfp B True σ.ρ [x,y]) (hc:cmpB op i1 i2=some b) (hd:Nat.blt d σ.n=true):
    OpS c σ all ⟨some d,.binOp op t x y t',ty,pos,after,some (j,want)⟩ (put d (.gd B (.v (.bool b))) σ):=
  OpS.valG hB (fun hb θ a w h => by
    have h1:=Qgw h.env hb (hside hb) x (by simp) _ hx
    have h2:=Qgw h.env hb (hside hb) y (by simp) _ hy
    have e1:ev? (selfρ a) x=some (.string i1):=by rw[h1.2,←h1.1];rfl
    have e2:ev? (selfρ a) y=some (.string i2):=by rw[h2.2,←h2.1];rfl
    cases op<;>simp only[cmpB] at hc<;>cases hc
    · exact Qs6 h.env.env e1 e2
    · exact Qs8 h.env.env e1 e2
    · exact Qs9 h.env.env e1 e2
    · exact Qta h.env.env e1 e2) hd
end
end
section
section
variable {P:Program} {α:Type} [Dat α] {w:World}
theorem Yms {t ts e ty sz bytes:Nat} {z:Value} (ht:Qd2 P t e sz bytes=true) (hsz:sz=Dat.sz α) (hz: ∀ w,(zeroValue e).run P w= .ok z w) (hzs:z.cells.size=sz) {v:Value} {str:ByteArray} {xs ys:List α} {F:List Nat} (hv:SlO w v xs F) (hF:F.Nodup)
  {news:List Value} {Gs:List (List Nat)} (hts:P.underlying ts=some .string) (hstr:str.size=ys.length) (hfirst: ∀ w,(Builtin.firstCells (Dat.sz α) ys.length (.string str)).run P w= .ok news.toArray w) (hl:news.length=ys.length*Dat.sz α) (h1: ∀ u∈news,u.oneCell'=true) (hy:Qi6 w news ys Gs) (hG:Gs.flatten.Nodup) (hdis: ∀ b∈Gs.flatten,b ∉ F)
  (hb:(xs.length+ys.length)*bytes≤140737488355328) (hm:xs.length+ys.length≤maxLen):
  ∃ v' w' F',(Builtin.append_ #[t,ts] ty #[v,.string str]).run P w= .ok v' w'∧SlO w' v' (xs++ys) F'∧F'.Nodup∧w'.os=w.os∧w'.tape=w.tape∧w'.output=w.output∧w.heap.size≤w'.heap.size∧
   (∀ b,b<w.heap.size→b ∉ F→w'.heap[b]?=w.heap[b]?)∧(∀ b∈F',b∈F∨b∈Gs.flatten∨w.heap.size≤b):=by
 obtain⟨hu,i,hi,his,hib⟩:=Qbd ht
 have hzi:i.zero=some z:=by
  have:=hz w
  simp only[zeroValue,Sem.run_bind,typeInfo,run_program,hi,Sem.run_pure,Result.andThen_ok] at this
  cases hzz:i.zero with
  | none=>rw[hzz] at this;simp at this
  | some z'=>rw[hzz] at this;simp at this;rw[this]
 subst his
 have hszp:0<Dat.sz α:=Dat.sz_pos α
 have grow: ∀ (old:Nat) (olds:List Value) (Fs:List (List Nat)),old<xs.length+ys.length→olds.length=xs.length*Dat.sz α→Qi6 w olds xs Fs→(Fs.flatten++Gs.flatten).Nodup→(∀ b∈Fs.flatten,b∈F)→
   ∀ v' w',v'= .slice (some ⟨w.heap.size,0,none⟩) (xs.length+ys.length) (grownCap w (xs.length+ys.length) old e)→
    w'=w.drew.alloc (.cells (olds.toArray++news.toArray++Builtin.zeroCells z.cells (grownCap w (xs.length+ys.length) old e - (xs.length+ys.length))) e)→
    ∃ F',SlO w' v' (xs++ys) F'∧F'.Nodup∧w'.os=w.os∧w'.tape=w.tape∧w'.output=w.output∧w.heap.size≤w'.heap.size∧
     (∀ b,b<w.heap.size→b ∉ F→w'.heap[b]?=w.heap[b]?)∧(∀ b∈F',b∈F∨b∈Gs.flatten∨w.heap.size≤b):=by
  intro old olds Fs ho hlo hels hnd hsub v' w' ev ew
  subst ev
  subst ew
  have hge:=grownCap_ge w (xs.length+ys.length) old e
  have hcm:=grownCap_le_maxLen w (xs.length+ys.length) old e hm
  have hsame: ∀ (b:Nat),b<w.heap.size→(w.drew.alloc (.cells (olds.toArray++news.toArray++Builtin.zeroCells z.cells (grownCap w (xs.length+ys.length) old e - (xs.length+ys.length))) e)).heap[b]?=w.heap[b]?:=fun b hb=>heap_alloc_old w.drew _ hb
  have hltF:=hels.lt
  have hltG:=hy.lt
  refine⟨w.heap.size::(Fs++Gs).flatten,?_,?_,rfl,rfl,rfl,by simp,fun b hb _=>hsame b hb,?_⟩
  ·refine Qgs.2 (.inr ⟨w.heap.size,_,_,e,Fs++Gs,by rw[List.length_append],heap_alloc_new w.drew _,by rw[List.length_append];exact hge,hcm,?_,rfl,?_⟩)
   ·simp only[Array.size_append,List.size_toArray,size_zeroCells,hzs,hlo,hl,hsz]
    rw[←Nat.add_mul,←Nat.add_mul]
    exact Nat.mul_le_mul_right _ (by omega)
   ·refine(hels.same fun b hb=>hsame b (hltF b hb)).app (hy.same fun b hb=>hsame b (hltG b hb)) (l':=news) ?_ (by omega)
    simp only[Array.toList_append,List.append_assoc]
    rw[←List.append_assoc,List.take_append_of_le_length (by rw[List.length_append,hlo,hl,Nat.add_mul];exact Nat.le_refl _),List.take_of_length_le (by rw[List.length_append,hlo,hl,Nat.add_mul];exact Nat.le_refl _),
     List.take_of_length_le (by rw[hlo];exact Nat.le_refl _)]
  ·rw[List.flatten_append]
   refine List.nodup_cons.2 ⟨fun hb=>?_,hnd⟩
   rcases List.mem_append.1 hb with hb | hb
   ·exact absurd (hltF _ hb) (by omega)
   ·exact absurd (hltG _ hb) (by omega)
  ·intro b hb
   rw[List.flatten_append] at hb
   rcases List.mem_cons.1 hb with rfl | hb
   ·exact .inr (.inr (Nat.le_refl _))
   ·rcases List.mem_append.1 hb with hb | hb
    ·exact .inl (hsub b hb)
    ·exact .inr (.inl hb)
 rcases Qgs.1 hv with ⟨rfl,rfl,rfl⟩ | ⟨g,cap,arr,T,Fs,rfl,hg,hlc,hcm,hsize,rfl,hels⟩
 ·by_cases h0:ys.length=0
  ·have:ys=[]:=List.eq_nil_of_length_eq_zero h0
   subst this
   refine⟨.slice none 0 0,w,[],?_,Qgs.2 (.inl ⟨rfl,rfl,rfl⟩),by simp,rfl,rfl,rfl,Nat.le_refl _,fun _ _ _=>rfl,fun b hb=>by cases hb⟩
   simp only[List.length_nil] at hfirst ⊢
   simp[Builtin.append_,run_underlying hu,run_underlying hts,hstr,sizeOf,typeInfo,hi,Builtin.lenOf,hsz,hfirst]
  ·obtain⟨F',h⟩:=grow 0 [] [] (by simp;omega) (by simp) Qi6.nil (by simpa using hG) (by simp) _ _ rfl rfl
   refine⟨_,_,F',?_,h⟩
   have h63': ¬ (9223372036854775807<(ys.length:Int)):=by simp only[List.length_nil,Nat.zero_add,maxLen] at hm;omega
   have h48': ¬ (281474976710656<Builtin.nextslicecap ys.length 0*i.bytes):=by rw[nextslicecap_zero (by omega),hib];simp only[List.length_nil,Nat.zero_add] at hb;omega
   simp only[List.length_nil,Nat.zero_add,Array.empty_append,List.toArray]
   simp[Builtin.append_,run_underlying hu,run_underlying hts,hstr,sizeOf,typeInfo,hi,hzi,Builtin.lenOf,hsz,hfirst,h0,h63',h48',zeroValue,grownCap,run_firstCells_none,newRow,Question.forced]
 ·have hal:arr.toList.length=arr.size:=Array.length_toList
  by_cases hroom:xs.length+ys.length≤cap
  ·have hcut:(xs.length+ys.length)*Dat.sz α≤arr.size:=Nat.le_trans (Nat.mul_le_mul_right _ hroom) hsize
   rw[Nat.add_mul] at hcut
   have hst:=run_storeCells_at P g (xs.length*Dat.sz α) T news 0 arr w hg (by omega) h1
   simp only[Nat.add_zero] at hst
   have hother: ∀ b,b≠g→(w.setRow g (arr.toList.take (xs.length*Dat.sz α)++news++arr.toList.drop (xs.length*Dat.sz α+news.length)).toArray).heap[b]?=w.heap[b]?:=fun b hb=>setRow_other w g b _ hb
   have hnd:=hF
   rw[List.nodup_cons] at hnd
   refine⟨_,_,g::(Fs++Gs).flatten,?_,Qgs.2 (.inr ⟨g,cap,_,T,Fs++Gs,rfl,setRow_heap w g arr _ T _ hg,by rw[List.length_append];exact hroom,hcm,?_,rfl,?_⟩),?_,rfl,rfl,rfl,by simp,fun b _ hb=>hother b (fun e=>hb (by simp[e])),?_⟩
   ·rw[List.length_append]
    simp[Builtin.append_,run_underlying hu,run_underlying hts,hstr,sizeOf,typeInfo,hi,Builtin.lenOf,hroom,hsz,hfirst,Addr.add_lit,hst]
   ·simp only[List.size_toArray,List.length_append,List.length_take,List.length_drop,hal]
    omega
   ·refine(hels.same fun b hb=>hother b (fun e=>hnd.1 (e▸hb))).app (hy.same fun b hb=>hother b (fun e=>hdis b hb (by simp[e]))) (l':=news) ?_ (by rw[hal];omega)
    rw[List.append_assoc,←List.append_assoc,List.take_append_of_le_length (by rw[List.length_append,List.length_take,hal,hl,Nat.add_mul];omega),List.take_of_length_le (by rw[List.length_append,List.length_take,hal,hl,Nat.add_mul];omega)]
   ·rw[List.flatten_append]
    refine List.nodup_cons.2 ⟨fun hb=>?_,List.nodup_append.2 ⟨hnd.2,hG,fun a ha b hb'=>?_⟩⟩
    ·rcases List.mem_append.1 hb with hb | hb
     ·exact hnd.1 hb
     ·exact hdis g hb (by simp)
    ·rintro rfl
     exact hdis a hb' (List.mem_cons_of_mem _ ha)
   ·intro b hb
    rw[List.flatten_append] at hb
    rcases List.mem_cons.1 hb with rfl | hb
    ·exact .inl (by simp)
    ·rcases List.mem_append.1 hb with hb | hb
     ·exact .inl (List.mem_cons_of_mem _ hb)
     ·exact .inr (.inl hb)
  ·have hnd:=hF
   rw[List.nodup_cons] at hnd
   have hsz':xs.length*Dat.sz α≤arr.size:=Nat.le_trans (Nat.mul_le_mul_right _ hlc) hsize
   have hlo:(arr.toList.take (xs.length*Dat.sz α)).length=xs.length*Dat.sz α:=by rw[List.length_take,hal];omega
   have hels' : Qi6 w (arr.toList.take (xs.length * Dat.sz α)) xs Fs := ⟨hels.1, fun i x hi => by
    obtain⟨G,hG,ho⟩:=hels.2 i x hi
    refine⟨G,hG,?_⟩
    rw[Qna ((List.getElem?_eq_some_iff.1 hi).1)]
    exact ho⟩
   obtain⟨F',h⟩:=grow cap (arr.toList.take (xs.length*Dat.sz α)) Fs (by omega) hlo hels' (List.nodup_append.2 ⟨hnd.2,hG,fun a ha b hb'=>by rintro rfl;exact hdis a hb' (List.mem_cons_of_mem _ ha)⟩) (fun b hb=>List.mem_cons_of_mem _ hb) _ _ rfl rfl
   refine⟨_,_,F',?_,h⟩
   have hrow:Qca w ⟨g,0,none⟩ arr.toList:=Qca.row (by simpa using hg)
   have holds : ∀ j u, (arr.toList.take (xs.length * Dat.sz α))[j]? = some u → w.cell? ((⟨g, 0, none⟩ : Addr).add j) = some u := fun j u hj => by
    rw[List.getElem?_take] at hj
    split at hj
    ·exact hrow j u hj
    ·cases hj
   have hf2:=run_firstCells_some (P:=P) w.drew (Dat.sz α) xs.length ⟨g,0,none⟩ xs.length cap _ hlo holds
   have h63': ¬ (9223372036854775807<((xs.length:Int)+(ys.length:Int))):=by simp only[maxLen] at hm;omega
   have h48': ¬ (281474976710656<Builtin.nextslicecap (xs.length+ys.length) cap*i.bytes):=by have:=growslice_fits (old:=cap) (need:=xs.length+ys.length) (bytes:=i.bytes) (by omega) (by rw[hib];exact hb);omega
   have hng: ¬ (xs.length+ys.length≤cap):=hroom
   simp[Builtin.append_,run_underlying hu,run_underlying hts,hstr,sizeOf,typeInfo,hi,hzi,Builtin.lenOf,hsz,hfirst,hf2,hng,h63',h48',zeroValue,grownCap,newRow,Question.forced]
   congr 2
   apply Array.ext'
   simp[List.append_assoc]
end
section
variable {c:Cx} {σ:St} {all:Array Oper} {ty:TypeId} {pos:String} {after:Array Edge} {d:Nat}
end
end
section
section
variable {fn:Func} {Bz:Bs} {S1:Nat→Prop} {w1:World} {hk1:Keep Bz.S0 Bz.w w1} {hs1: ∀ b,Bz.S0 b→S1 b} {hd1: ∀ b,S1 b→b<w1.heap.size} {σ:St} {all:Array Oper} {ty:TypeId} {pos:String} {after:Array Edge} {d:Nat}
theorem sQG {op:BinOp} {t t':Nat} {x y:Operand} {i1 i2:ByteArray} {b:Bool} {j:Nat} {want B:Bool} (hB:gB σ.ρ all j want=some B:=by exact Dq0) (hx:evG σ.ρ x=some (.v (.string i1)):=by exact Dq0) (hy:evG σ.ρ y=some (.v (.string i2)):=by exact Dq0) (hside:B=true→Qfp B True σ.ρ [x,y]:=by intro h;first | exact trivial | (dsimp only[Qfp,sdV,ev,lk,cond,Nat.beq,V.side,List.toList_toArray];(repeat' apply And.intro)<;>first | exact trivial | exact h | exact fun h=>h | exact(Bool.and_eq_true_iff.1 h).1 | exact(Bool.and_eq_true_iff.1 h).2 | exact fun h=>(Bool.and_eq_true_iff.1 h).1 | exact fun h=>(Bool.and_eq_true_iff.1 h).2 | exact fun h=>(Bool.and_eq_true_iff.1 (Bool.and_eq_true_iff.1 h).1).1 | (intro h;simp_all))) (hc:cmpB op i1 i2=some b:=by rfl) (hd:Nat.blt d σ.n=true:=by rfl):
  OpS (cx fn Bz S1 w1 hk1 hs1 hd1) σ all ⟨some d,.binOp op t x y t',ty,pos,after,some (j,want)⟩ (put d (.gd B (.v (.bool b))) σ):=OpS.scmpG hB hx hy hside hc hd
end
end
section
def flV {α:Type} (x:α):List (Fk α)→List V
 | []=>[]
 | .int g::fs=> .v (.int .i64 (g x))::flV x fs
 | .byte g::fs=> .v (.int .u8 (g x).toNat)::flV x fs
 | .bool g::fs=> .v (.bool (g x))::flV x fs
 | .str g::fs=> .v (.string (g x))::flV x fs
 | .sl _ _ _::fs=>flV x fs
theorem Q0s {α:Type} {w:World} {x:α} {θ:List Loc}: ∀ {fk:List (Fk α)} {cs:List Value} {F:List Nat},Qo9 fk=true→OwL w x fk cs F→conL θ (flV x fk)=some cs
 | [],_,_,_,h=>by rw[h.1];rfl
 | f :: fs, _, _, hf, ⟨v, r, G, H, e1, e2, hv, hr⟩ => by
  subst e1
  cases f with
  | int g=>exact Qgf (congrArg some hv.1.1.symm) (Q0s hf hr)
  | byte g=>exact Qgf (congrArg some hv.1.symm) (Q0s hf hr)
  | bool g=>exact Qgf (congrArg some hv.1.symm) (Q0s hf hr)
  | str g=>exact Qgf (congrArg some hv.1.1.symm) (Q0s hf hr)
  | sl=>cases hf
section
variable {c:Cx} {σ:St} {all:Array Oper} {ty:TypeId} {pos:String} {after:Array Edge} {d:Nat}
theorem OpS.ldO {α:Type} {dα:Dat α} [s:@Str α dα] [Inhabited α] {t:Nat} {x:Operand} {r off:Nat} {xs:List α} {v:V} (k:Nat) (hx:ev σ.ρ x=some (.pt r off)) (hoff:off=k*Dat.sz α) (hr:lkE σ.E r=some (.own α dα xs)) (hk:k<xs.length)
  (hfl:Qo9 s.fk=true) (hv:ldC (c.ti t) 0 (flV (nth xs k) s.fk)=some v) (hd:Nat.blt d σ.n=true):
  OpS c σ all ⟨some d,.load t x,ty,pos,after,none⟩ (put d v σ):=
 OpS.of fun θ a w h K Q hK => by
  subst hoff
  obtain⟨S,w1,hh⟩:=h.heap
  obtain⟨l,hl,hown⟩:=hh.own hr
  rcases hown with ⟨e1,e2,_⟩ | ⟨g,cap,arr,T,Fs,e1,e2,e3,e4,e5,e6,e7,e8⟩
  ·rw[e2] at hk;exact absurd hk (by simp)
  obtain⟨G,hG,ho⟩:=e8 k (nth xs k) (by rw[List.getElem?_eq_getElem hk];simp only[nth,List.getD_eq_getElem?_getD,List.getElem?_eq_getElem hk,Option.getD_some])
  have hcon:conL θ (flV (nth xs k) s.fk)=some (Fw.cut (Dat.sz α) arr.toList k):=Q0s hfl (s.oop ho)
  have hcells:Qca w ((⟨g,0,none⟩:Addr).add (k*Dat.sz α)) (Fw.cut (Dat.sz α) arr.toList k):=(Qca.row (by simpa using e2)).part rfl
  have hxe:=h.env.con hx
  have hA:l.A=some ⟨g,0,none⟩:=by injection e1
  obtain⟨l',A',h1',h2',hp⟩:=Qpc hxe
  rw[hl] at h1';cases h1'
  rw[hA] at h2';cases h2'
  have hx':=h.env.ev1 hx
  rw[hp] at hx'
  have hE:=h.env.env
  have hti:=c.tiok t
  unfold ldC at hv
  have hz0: ∀ A:Addr,(A.add 0)=A:=fun A=>Addr.add_zero' A
  have hx2:ev? (selfρ a) x=some (.pointer (some (((⟨g,0,none⟩:Addr).add (k*Dat.sz α)).add 0))):=by rw[hz0];exact hx'
  split at hv
  ·cases hv
  ·rename_i n offs heq
   rw[heq] at hti
   simp only[TI.chk,Bool.and_eq_true] at hti
   cases hb:Nat.ble (0+n) (flV (nth xs k) s.fk).length with
   | false=>rw[hb] at hv;cases hv
   | true =>
    rw[hb] at hv
    cases hv
    have hlen:=Qgr hcon
    have hle:=Nat.le_of_ble_eq_true hb
    have hy:=Q8k (P:=c.P) (w:=w) (ty:=ty) hE hx2 hcells (t:=t) (k:=n) rfl (by rw[List.length_take,List.length_drop];omega) hti.1
    unfold Oper.wp
    rw[hy]
    refine hK [] _ _ (h.put hd (v:= .ag (((flV (nth xs k) s.fk).drop 0).take n)) ?_).app0
    simp only[V.con,Qmu n (Qmv 0 hcon),Option.map_some]
  ·rename_i hno hst
   obtain⟨u,hu,hcu⟩:=Qoz hcon (Qnx hv)
   have hy:=Qmc (P:=c.P) (w:=w) (ty:=ty) hE hx2 hcells hu (t:=t) (by
    rcases TI.one_of hti with ⟨n,o,e⟩ | e | h
    ·exact absurd e (by intro h;exact hst n o h)
    ·exact absurd e (by intro h;exact hno h)
    ·exact h.1)
   unfold Oper.wp
   rw[hy]
   exact hK [] _ _ (h.put hd hcu).app0
def OpSx (c:Cx) (σ:St) (all:Array Oper) (o:Oper) {ι:Type} (σ':ι→St) (G:ι→Prop):Prop:=
 ∀ θ a w,R c θ σ a w→ ∀ (K:Act→World→Prop) (Q:Exit→Act→World→Prop),(∀ i η a' w',R c (θ++η) (σ' i) a' w'→G i→K a' w')→
  if Region.wanted o (yielded all a.tmps) then o.wp c.P a w K Q else K (a.put o.dst undef) w
theorem Run.opx {res:List Re} {o:Oper} {r:List Oper} {k:List It} {ι:Type} {σ':ι→St} {G:ι→Prop} (ho:OpSx c σ all o σ' G) (h: ∀ i,G i→Run c res (σ' i) (.ops r all::k)):Run c res σ (.ops (o::r) all::k):=by
 intro θ a w hR
 rw[Qoc]
 refine wpList_step fun K hK=>?_
 exact ho θ a w hR K _ fun i η a' w' h' hg=>hK _ _ (h i hg _ a' w' h')
theorem OpS.isNil {α:Type} {dα:Dat α} {t t' e by' r len:Nat} {x:Operand} {xs:List α} (hx:ev σ.ρ x=some (.sl r len)) (hp:payE σ.E r=some ⟨α,dα,xs⟩) (hl:len=xs.length) (ht:c.ti t= .sl e (Dat.sz α) by') (hd:Nat.blt d σ.n=true):
  OpSx c σ all ⟨some d,.binOp .eql t x (.const (.slice none 0 0)) t',ty,pos,after,none⟩ (fun b:Bool=>put d (.v (.bool b)) σ) (fun b=>b=true→xs=[]):=by
 intro θ a w h K Q hK
 rw[if_pos (by simp[Region.wanted])]
 subst hl
 obtain⟨S,w1,hh⟩:=h.heap
 have hA: ∃ l:Loc,θ[r]?=some l∧(l.A=none→xs=[]):=by
  rcases Q0b hp with he | he
  ·obtain⟨l,hl,ho⟩:=hh.own he
   refine⟨l,hl,fun hn=>?_⟩
   rcases ho with ⟨_,e2,_⟩ | ⟨g,cap,arr,T,Fs,e1,_⟩
   ·exact e2
   ·injection e1 with e1;rw[hn] at e1;cases e1
  ·obtain⟨l,hl,A,cap,e1,_,_,e3⟩:=hh.ok _ (Qej he)
   refine⟨l,hl,fun hn=>Classical.byContradiction fun hne=>?_⟩
   obtain⟨ad,had,_⟩:=e3 hne
   injection e1 with e1
   rw[hn] at e1
   subst e1
   cases had
 obtain⟨l,hl,hnil⟩:=hA
 have hc:=h.env.con hx
 simp only[V.con,hl,Option.some.injEq] at hc
 have hu:=(Qbd (c.tsl ht)).1
 have hrun:(execOp a.eval ⟨some d,.binOp .eql t x (.const (.slice none 0 0)) t',ty,pos,after,none⟩).run c.P w= .ok (.value (.bool l.A.isNone)) w:=by
  have h1:=Lib.run_eql_slice_nil w t _ l.A xs.length l.cap 0 0 hu
  have h2:a.eval (.const (.slice none 0 0))= .slice none 0 0:=rfl
  simp only[execOp,←hc,h2,eqGuard_at_slice,Sem.run_bind,Sem.run_pure,Result.andThen_ok,h1]
 unfold Oper.wp
 rw[hrun,Oper.upon_value]
 refine hK l.A.isNone [] _ _ (h.put hd rfl).app0 fun hb=>hnil ?_
 cases hA:l.A with
 | none=>rfl
 | some A=>rw[hA] at hb;cases hb
theorem Qj5: ∀ {k:Nat} {Fs:List (List Nat)},List.Sublist (Fs.take k).flatten Fs.flatten
 | 0,Fs=>by simp
 | k+1,[]=>by simp
 | k + 1, F :: Fs => by
  rw[List.take_succ_cons,List.flatten_cons,List.flatten_cons]
  exact(List.Sublist.refl F).append Qj5
theorem SlO.pre {α:Type} [Dat α] {w:World} {l:Loc} {xs:List α} {k:Nat} (hk:k≤xs.length) (h:SlO w (.slice l.A xs.length l.cap) xs l.F):
  ∃ F',List.Sublist F' l.F∧ ∀ w2:World,(∀ b∈F',w2.heap[b]?=w.heap[b]?)→SlO w2 (.slice l.A (xs.take k).length l.cap) (xs.take k) F':=by
 rcases h with ⟨e1,e2,e3⟩ | ⟨g,cap,arr,T,Fs,e1,e2,e3,e4,e5,e6,e7,e8⟩
 ·subst e2
  injection e1 with h1 h2 h3
  refine⟨[],List.nil_sublist _,fun w2 _=> .inl ⟨?_,by simp,rfl⟩⟩
  rw[h1,h3]
  simp
 ·injection e1 with h1 h2 h3
  refine⟨g::(Fs.take k).flatten,by rw[e6];exact Qj5.cons_cons _,fun w2 hw=> .inr ⟨g,cap,arr,T,Fs.take k,by rw[h1,h3],(hw g (by simp)).trans e2,by rw[List.length_take];omega,e4,e5,rfl,by rw[List.length_take,List.length_take,e7],fun i x hi=>?_⟩⟩
  rw[List.getElem?_take] at hi
  by_cases hik:i<k
  ·rw[if_pos hik] at hi
   obtain⟨G,hG,ho⟩:=e8 i x hi
   have hG':(Fs.take k)[i]?=some G:=by rw[List.getElem?_take,if_pos hik,hG]
   exact⟨G,hG',Dat.own_same ho fun b hb=>hw b (List.mem_cons_of_mem _ (Qh3 hG' hb))⟩
  ·rw[if_neg hik] at hi
   cases hi
theorem OpS.cutO {α:Type} {dα:Dat α} {t e by' r len:Nat} {x y:Operand} {i:Int} {xs:List α} (k:Nat) (hk:k≤xs.length) (hx:ev σ.ρ x=some (.sl r len)) (hy:ev σ.ρ y=some (.v (.int .i64 i))) (hr:lkE σ.E r=some (.own α dα xs)) (hl:len=xs.length) (hi:i=k) (ht:c.ti t= .sl e (Dat.sz α) by') (hd:Nat.blt d σ.n=true):
  OpS c σ all ⟨some d,.slice t x none (some y) none,ty,pos,after,none⟩ ⟨σ.n,σ.m+1,(d,.sl σ.m (xs.take k).length)::σ.ρ,(σ.m,.own α dα (xs.take k))::Qgn [r] σ.E⟩:=
 OpS.of fun θ a w h K Q hK => by
  subst hl
  subst hi
  obtain⟨S,w1,hh⟩:=h.heap
  obtain⟨l,hlo,hown⟩:=hh.own hr
  have hc:=h.env.con hx
  simp only[V.con,hlo,Option.some.injEq] at hc
  have hu:=(Qbd (c.tsl ht)).1
  obtain⟨inf,hin,hsz,_⟩:=(Qbd (c.tsl ht)).2
  have hcap:=(Qs0 (hown.rd (B:=fun _=>True) fun _ _=>trivial)).1
  have hA0:l.A.map (fun b=>b.add 0)=l.A:=by cases l.A<;>simp[Addr.add]
  have hle:k≤l.cap:=by omega
  have elen:(xs.take k).length=k:=by rw[List.length_take];omega
  have hrun:(execOp a.eval ⟨some d,.slice t x none (some y) none,ty,pos,after,none⟩).run c.P w= .ok (.value (.slice l.A k l.cap)) w:=by
   simp[execOp,←hc,h.env.env.eval (h.env.isv hy),Instr.sliceAt,Instr.slice,run_underlying hu,Instr.sliceBounds,Instr.sliceBound,asIntOf,hle,sizeOf,typeInfo,hin,hA0]
  unfold Oper.wp
  rw[hrun,Oper.upon_value]
  obtain⟨F',hF',hS⟩:=SlO.pre hk hown
  let l':Loc:=⟨l.A,l.cap,F'⟩
  have hg':(θ++[l'])[σ.m]?=some l':=by rw[←h.len];exact Qfa
  have hgr:=Qd7 (θ':=[l']) hlo
  have hon:ownN σ.E r:=⟨⟨α,dα,xs⟩,by unfold Qm4;rw[hr];rfl⟩
  have hFt: ∀ b∈l.F,b∈(Qme [r] σ.E).flatMap (fun e=>(e.2.ck (θ++[l']) e.1).F):=fun b hb=>Qny (List.mem_singleton.2 rfl) hon (by rw[Qai hgr];exact hb)
  have hlF:((En.own α dα xs).ck θ r).F=l.F:=Qai hlo
  have hge:=hh.sh.ge _ (List.mem_map.2 ⟨_,Qej hr,rfl⟩)
  have hnd:l.F.Nodup:=by
   obtain⟨i,hi⟩:=List.getElem?_of_mem (List.mem_map.2 ⟨_,Qej hr,rfl⟩:(En.own α dα xs).ck θ r∈σ.E.map fun e=>e.2.ck θ e.1)
   have:=(Qbr.1 hh.sh.apart).1 i _ hi
   rwa [hlF] at this
  have hfuse:=(hh.ext (θ':=[l'])).fuse [r] (p:=(σ.m,En.own α dα (xs.take k))) (w':=w) rfl rfl rfl (Nat.le_refl _) (fun _ _ _=>rfl) ?_ ?_ ?_ trivial
  ·refine hK [l'] _ _ ⟨by rw[List.length_append,h.len];rfl,(h.env.ext (θ':=[l'])).put hd ?_,S,w1,hfuse⟩
   simp only[V.con,hg',elen,l']
  ·intro w2 hw2
   refine⟨l',hg',hS w2 fun b hb=>hw2 b ?_⟩
   show b∈locF _ σ.m
   rw[Qai hg']
   exact hb
  ·intro b hb
   have hb':b∈F':=by
    have:b∈locF (θ++[l']) σ.m:=hb
    rwa [Qai hg'] at this
   exact⟨.inl (hFt b (hF'.subset hb')),(hge b (by rw[hlF];exact hF'.subset hb')).2⟩
  ·show(locF _ σ.m).Nodup
   rw[Qai hg']
   exact hnd.sublist hF'
theorem Qsr {sz k m : Nat} {l ds : List Value} (hd : ds.length = m * sz) (hl : k * sz + m * sz ≤ l.length) (i : Nat) : Fw.cut sz (l.take (k * sz) ++ ds ++ l.drop (k * sz + m * sz)) i = if i < k then Fw.cut sz l i else if i < k + m then Fw.cut sz ds (i - k) else Fw.cut sz l i := by
 have h1:(l.take (k*sz)).length=k*sz:=by rw[List.length_take];omega
 have h2:(l.take (k*sz)++ds).length=(k+m)*sz:=by rw[List.length_append,h1,hd,Nat.add_mul]
 by_cases hi:i<k
 ·rw[if_pos hi,List.append_assoc,Qi0 h1 hi,Qna hi]
 ·rw[if_neg hi]
  by_cases hm:i<k+m
  ·rw[if_pos hm,Qi0 h2 hm,Qj6 h1 (by omega)]
  ·rw[if_neg hm,Qj6 h2 (by omega)]
   unfold Fw.cut
   rw[List.drop_drop,←Nat.add_mul,←Nat.add_mul,show k+m+(i - (k+m))=i by omega]
theorem Ygk {z:Array Value} {n i:Nat} (hz:0<z.size) (hi:i<n):Fw.cut z.size (Builtin.zeroCells z n).toList i=z.toList:=by
 apply List.ext_getElem?
 intro q
 unfold Fw.cut Builtin.zeroCells
 rw[List.getElem?_take]
 by_cases hq:q<z.size
 ·rw[if_pos hq,List.getElem?_drop]
  have hlt:i*z.size+q<n*z.size:=by
   have:=Nat.mul_le_mul_right z.size (show i+1≤n by omega)
   rw[Nat.succ_mul] at this
   omega
  have hmod:(i*z.size+q) % z.size=q:=by rw[Nat.add_comm,Nat.add_mul_mod_self_right,Nat.mod_eq_of_lt hq]
  simp[hlt,hmod,hq]
 ·rw[if_neg hq,List.getElem?_eq_none (by rw[Array.length_toList];omega)]
theorem EnvV.putU {n:Nat} {θ:List Loc} {ρ:List (Nat×V)} {a:Act} (h:EnvV n θ ρ a) {d:Nat} (hd:lk ρ d=none) (x:Value):EnvV n θ ρ (a.put (some d) x):=by
 refine⟨by simp[Act.put,h.size],by simp[Act.put,h.defers],fun t v hv=>?_⟩
 obtain⟨h1,h2⟩:=h.get t v hv
 refine⟨?_,h2⟩
 have hne:d≠t:=fun e=>by rw[←e,hd] at hv;cases hv
 rw[h1]
 simp only[Act.put,Array.getD_eq_getD_getElem?]
 rw[Array.getElem?_setIfInBounds_ne hne]
theorem R.turnO {θ:List Loc} {a:Act} {w w':World} {α:Type} {dα:Dat α} {r:Nat} {l:Loc} {xs zs:List α} {F':List Nat} (h:R c θ σ a w) (hr:lkE σ.E r=some (.own α dα xs)) (hlo:θ[r]?=some l) (hos:w'.os=w.os) (htape:w'.tape=w.tape) (hout:w'.output=w.output) (hsize:w.heap.size≤w'.heap.size)
  (hsame: ∀ b,b<w.heap.size→b ∉ l.F→w'.heap[b]?=w.heap[b]?) (hS: ∀ w2:World,(∀ b∈F',w2.heap[b]?=w'.heap[b]?)→SlO w2 (.slice l.A zs.length l.cap) zs F') (hF: ∀ b∈F',(b∈l.F∨w.heap.size≤b)∧b<w'.heap.size) (hn:F'.Nodup):
  R c (θ++[⟨l.A,l.cap,F'⟩]) (Qda σ r dα zs []) a w':=by
 obtain⟨S,w1,hh⟩:=h.heap
 let l':Loc:=⟨l.A,l.cap,F'⟩
 have hg':(θ++[l'])[σ.m]?=some l':=by rw[←h.len];exact Qfa
 have hgr:=Qd7 (θ':=[l']) hlo
 have hon:ownN σ.E r:=⟨⟨α,dα,xs⟩,by unfold Qm4;rw[hr];rfl⟩
 have hFt: ∀ b∈l.F,b∈(Qme [r] σ.E).flatMap (fun e=>(e.2.ck (θ++[l']) e.1).F):=fun b hb=>Qny (List.mem_singleton.2 rfl) hon (by rw[Qai hgr];exact hb)
 have hfuse:=(hh.ext (θ':=[l'])).fuse [r] (p:=(σ.m,En.own α dα zs)) (w':=w') hos htape hout hsize (fun b hbl hbn=>hsame b hbl fun hb=>hbn (hFt b hb)) ?_ ?_ ?_ trivial
 ·exact⟨by rw[List.length_append,h.len];rfl,(h.env.ext (θ':=[l'])).rn hgr hg' rfl rfl,S,w1,hfuse.rn hgr hg' rfl rfl⟩
 ·intro w2 hw2
  refine⟨l',hg',hS w2 fun b hb=>hw2 b ?_⟩
  show b∈locF _ σ.m
  rw[Qai hg']
  exact hb
 ·intro b hb
  have hb':b∈F':=by
   have:b∈locF (θ++[l']) σ.m:=hb
   rwa [Qai hg'] at this
  exact⟨(hF b hb').1.elim (fun h=> .inl (hFt b h)) .inr,(hF b hb').2⟩
 ·show(locF _ σ.m).Nodup
  rw[Qai hg']
  exact hn
theorem RH.ownF {θ:List Loc} {E:List (Nat×En)} {S:Nat→Prop} {w1 w:World} (hh:RH c θ E S w1 w) {α:Type} {dα:Dat α} {r:Nat} {l:Loc} {xs:List α} (hr:lkE E r=some (.own α dα xs)) (hlo:θ[r]?=some l):l.F.Nodup∧ ∀ b∈l.F,b<w.heap.size:=by
 have hlF:((En.own α dα xs).ck θ r).F=l.F:=Qai hlo
 have hge:=hh.sh.ge _ (List.mem_map.2 ⟨_,Qej hr,rfl⟩)
 refine⟨?_,fun b hb=>(hge b (by rw[hlF];exact hb)).2⟩
 obtain⟨i,hi⟩:=List.getElem?_of_mem (List.mem_map.2 ⟨_,Qej hr,rfl⟩:(En.own α dα xs).ck θ r∈E.map fun e=>e.2.ck θ e.1)
 have:=(Qbr.1 hh.sh.apart).1 i _ hi
 rwa [hlF] at this
theorem Run.clr {res:List Re} {k0:List It} {rest:List Oper} {α:Type} {dα:Dat α} {t e by' r len dd:Nat} {x y:Operand} {i:Int} {xs:List α} {zv:Value} {ty2:TypeId} {pos2:String} {after2:Array Edge} (z:α) (k:Nat) (hk:k≤xs.length) (h:Run c res (Qda σ r dα (xs.take k++List.replicate (xs.length - k) z) []) (.ops rest all::k0))
    (hx:ev σ.ρ x=some (.sl r len)) (hy:ev σ.ρ y=some (.v (.int .i64 i))) (hr:lkE σ.E r=some (.own α dα xs)) (hl:len=xs.length) (hi:i=k) (ht:c.ti t= .sl e (Dat.sz α) by') (hz:c.zr e=some zv) (hzs:zv.cells.size=Dat.sz α) (hz1: ∀ u∈zv.cells.toList,u.oneCell'=true) (hzo: ∀ w,Dat.own w zv.cells.toList z []) (hnd:lk σ.ρ dd=none) (hdn:Nat.blt dd σ.n=true):
    Run c res σ (.ops (⟨some dd,.slice t x (some y) none none,ty,pos,after,none⟩::⟨none,.call { callee:= .builtin .clear,args:= #[.tmp dd],argTypes:= #[t] },ty2,pos2,after2,none⟩::rest) all::k0):=by
  intro θ a w hR
  subst hl
  subst hi
  rw[Qoc]
  refine wpList_step fun K hK=>?_
  rw[if_pos (by simp[Region.wanted])]
  obtain⟨S,w1,hh⟩:=hR.heap
  obtain⟨l,hlo,hown⟩:=hh.own hr
  obtain⟨hnF,hltF⟩:=hh.ownF hr hlo
  have hc:=hR.env.con hx
  simp only[V.con,hlo,Option.some.injEq] at hc
  have hu:=(Qbd (c.tsl ht)).1
  obtain⟨inf,hin,hsz,_⟩:=(Qbd (c.tsl ht)).2
  have hcap:=(Qs0 (hown.rd (B:=fun _=>True) fun _ _=>trivial)).1
  obtain⟨v1,hv1⟩: ∃ v1:Value,v1= .slice (if l.cap=k then l.A else l.A.map (·.add (k*Dat.sz α))) (xs.length - k) (l.cap - k):=⟨_,rfl⟩
  have hrun:(execOp a.eval ⟨some dd,.slice t x (some y) none none,ty,pos,after,none⟩).run c.P w= .ok (.value v1) w:=by
    rw[hv1]
    simp[execOp,←hc,hR.env.env.eval (hR.env.isv hy),Instr.sliceAt,Instr.slice,run_underlying hu,Instr.sliceBounds,Instr.sliceBound,asIntOf,hk,sizeOf,typeInfo,hin,hsz]
  unfold Oper.wp
  rw[hrun,Oper.upon_value]
  refine hK _ _ ?_
  have hR2:R c θ σ (a.put (some dd) v1) w:=⟨hR.len,hR.env.putU hnd v1,hR.heap⟩
  have hev:(a.put (some dd) v1).eval (.tmp dd)=v1:=by
    have hd':dd<a.tmps.size:=by rw[hR.env.size];simpa using hdn
    simp[Act.put,Act.eval,hd']
  refine wpList_step fun K2 hK2=>?_
  rw[if_pos (by simp[Region.wanted])]
  have hend: ∀ w',(Builtin.clear_ #[t] ty2 #[v1]).run c.P w= .ok (.tuple #[]) w'→(R c (θ++[⟨l.A,l.cap,l.F⟩]) (Qda σ r dα (xs.take k++List.replicate (xs.length - k) z) []) (a.put (some dd) v1) w' ∨ ∃ F',R c (θ++[⟨l.A,l.cap,F'⟩]) (Qda σ r dα (xs.take k++List.replicate (xs.length - k) z) []) (a.put (some dd) v1) w')→
      Oper.wp c.P ⟨none,.call { callee:= .builtin .clear,args:= #[.tmp dd],argTypes:= #[t] },ty2,pos2,after2,none⟩ (a.put (some dd) v1) w K2 (kQ c res k0):=by
    intro w' hw hRR
    have hex:(execOp (a.put (some dd) v1).eval ⟨none,.call { callee:= .builtin .clear,args:= #[.tmp dd],argTypes:= #[t] },ty2,pos2,after2,none⟩).run c.P w= .ok (.value (.tuple #[])) w':=by
      simp only[execOp,resolve,invoke,builtin,Sem.run_bind,Sem.run_pure,Result.andThen_ok,List.map_toArray,List.map_cons,List.map_nil,hev,hw]
    unfold Oper.wp
    rw[hex,Oper.upon_value]
    rcases hRR with hRR | ⟨F',hRR⟩
    · exact hK2 _ _ (h _ _ _ hRR)
    · exact hK2 _ _ (h _ _ _ hRR)
  have hclr0: ∀ A c',(Builtin.clear_ #[t] ty2 #[.slice A 0 c']).run c.P w= .ok (.tuple #[]) w:=by
    intro A c'
    cases A<;>simp[Builtin.clear_,run_underlying hu]
  by_cases hkn:xs.length=k
  ·
    refine hend w ?_ (.inl ?_)
    · rw [hv1, show xs.length - k = 0 by omega]
      exact hclr0 _ _
    · have e0 : xs.take k ++ List.replicate (xs.length - k) z = xs := by rw [hkn, Nat.sub_self, List.replicate_zero, List.append_nil, List.take_of_length_le (by omega)]
      rw[e0]
      exact hR2.turnO hr hlo rfl rfl rfl (Nat.le_refl _) (fun _ _ _=>rfl) (fun w2 h2=>hown.same h2) (fun b hb=>⟨.inl hb,hltF b hb⟩) hnF
  rcases hown with ⟨e1,e2,_⟩ | ⟨g,cap,arr,T,Fs,e1,e2,e3,e4,e5,e6,e7,e8⟩
  · rw[e2] at hk hkn;simp at hk hkn;omega
  have hlen:xs.length=k+(xs.length - k):=by omega
  obtain⟨m,hm⟩: ∃ m,m=xs.length - k:=⟨_,rfl⟩
  have hA:l.A=some ⟨g,0,none⟩:=by injection e1
  have hcp:l.cap=cap:=by injection e1
  have hle:k*Dat.sz α+m*Dat.sz α≤arr.size:=by
    have:=Nat.mul_le_mul_right (Dat.sz α) (show k+m≤cap by omega)
    rw[Nat.add_mul] at this
    omega
  have hzl:(Builtin.zeroCells zv.cells m).toList.length=m*Dat.sz α:=by rw[Array.length_toList,size_zeroCells,hzs]
  have hadd:(⟨g,0,none⟩:Addr).add (k*Dat.sz α)=⟨g,k*Dat.sz α,none⟩:=Qo0 _ _
  have hst := run_storeCells_at c.P g (k * Dat.sz α) T (Builtin.zeroCells zv.cells m).toList 0 arr w e2 (by omega) (fun u hu => by
    obtain⟨j,hj⟩:=List.getElem?_of_mem hu
    have hj':=(List.getElem?_eq_some_iff.1 hj).1
    rw[hzl] at hj'
    have hsp:=Dat.sz_pos α
    have hq:j / Dat.sz α<m:=(Nat.div_lt_iff_lt_mul hsp).2 hj'
    have hct:=Ygk (z:=zv.cells) (n:=m) (i:=j / Dat.sz α) (by omega) hq
    rw[hzs] at hct
    have hmem:u∈zv.cells.toList:=by
      rw[←hct]
      unfold Fw.cut
      refine List.mem_of_getElem? (i:=j % Dat.sz α) ?_
      rw[List.getElem?_take,if_pos (Nat.mod_lt _ hsp),List.getElem?_drop,Nat.mul_comm,Nat.div_add_mod]
      exact hj
    exact hz1 u hmem)
  refine hend (w.setRow g (arr.toList.take (k*Dat.sz α)++(Builtin.zeroCells zv.cells m).toList++arr.toList.drop (k*Dat.sz α+m*Dat.sz α)).toArray) ?_ (.inr ⟨g::(Fs.take k++List.replicate m []).flatten,?_⟩)
  · rw [hv1, hA, if_neg (by omega), Option.map_some, hadd, ← hm]
    have hzz: ∀ w,(zeroValue e).run c.P w= .ok zv w:=fun w=>c.zok e zv hz w
    rw[Nat.add_zero,hzl] at hst
    obtain⟨m',rfl⟩: ∃ m',m=m'+1:=⟨m - 1,by omega⟩
    simp only[Builtin.clear_,List.size_toArray,List.length_cons,List.length_nil,Sem.run_bind,Sem.run_pure,Result.andThen_ok,run_underlying hu,hzz,hst,Nat.zero_add,Nat.zero_lt_one,getElem?_pos,List.getElem_toArray,List.getElem_cons_zero]
  · have hAl : (⟨g, 0, none⟩ : Addr) = ⟨g, 0, none⟩ := rfl
    have hg0:g<w.heap.size:=(Array.getElem?_eq_some_iff.1 e2).1
    obtain⟨arr',harr⟩: ∃ arr':Array Value,arr'=(arr.toList.take (k*Dat.sz α)++(Builtin.zeroCells zv.cells m).toList++arr.toList.drop (k*Dat.sz α+m*Dat.sz α)).toArray:=⟨_,rfl⟩
    rw[←harr]
    have hsz':arr'.size=arr.size:=by
      rw[harr]
      simp only[List.size_toArray,List.length_append,List.length_take,List.length_drop,hzl,Array.length_toList]
      omega
    have hrow:=setRow_heap w g arr arr' T (0,0) e2
    have hother: ∀ b,b≠g→(w.setRow g arr').heap[b]?=w.heap[b]?:=fun b hb=>setRow_other w g b _ hb
    have hfl:(Fs.take k++List.replicate m []).flatten=(Fs.take k).flatten:=by
      rw[List.flatten_append]
      have: ∀ n,(List.replicate n ([]:List Nat)).flatten=[]:=by
        intro n
        induction n with
        | zero=>rfl
        | succ n ih=>rw[List.replicate_succ,List.flatten_cons,ih];rfl
      rw[this,List.append_nil]
    have hsub:List.Sublist (g::(Fs.take k++List.replicate m []).flatten) l.F:=by
      rw[hfl,e6]
      exact Qj5.cons_cons _
    have hlz:(xs.take k++List.replicate (xs.length - k) z).length=xs.length:=by rw[List.length_append,List.length_take,List.length_replicate];omega
    have hgn:g ∉ (Fs.take k).flatten:=by
      have:=hnF.sublist hsub
      rw[hfl] at this
      exact(List.nodup_cons.1 this).1
    refine hR2.turnO hr hlo rfl rfl rfl (by simp) (fun b hb hbF=>hother b fun eb=>hbF (by rw[e6,eb];exact List.mem_cons_self)) (fun w2 h2=>?_) (fun b hb=>⟨.inl (hsub.subset hb),by have:=hltF b (hsub.subset hb);simpa using this⟩) (hnF.sublist hsub)
    rw[hA,hcp]
    refine Qgs.2 (.inr ⟨g,cap,arr',T,Fs.take k++List.replicate m [],rfl,(h2 g List.mem_cons_self).trans hrow,by rw[hlz];exact e3,e4,by rw[hsz'];exact e5,rfl,?_,fun i x hi=>?_⟩)
    · rw [hlz, List.length_append, List.length_take, List.length_replicate, e7]
      omega
    · have hix : i < xs.length := by rw [← hlz]; exact (List.getElem?_eq_some_iff.1 hi).1
      rw[harr]
      show ∃ G,_∧Dat.own w2 (Fw.cut (Dat.sz α) (arr.toList.take (k*Dat.sz α)++(Builtin.zeroCells zv.cells m).toList++arr.toList.drop (k*Dat.sz α+m*Dat.sz α)) i) x G
      rw[Qsr hzl (by rw[Array.length_toList];exact hle)]
      have hl1:(xs.take k).length=k:=by rw[List.length_take];omega
      have hl2:(Fs.take k).length=k:=by rw[List.length_take];omega
      by_cases hik:i<k
      · rw [if_pos hik]
        rw[List.getElem?_append_left (by omega),List.getElem?_take,if_pos hik] at hi
        obtain⟨G,hG,ho⟩:=e8 i x hi
        have hG':(Fs.take k)[i]?=some G:=by rw[List.getElem?_take,if_pos hik,hG]
        refine⟨G,by rw[List.getElem?_append_left (by omega)];exact hG',Dat.own_same ho fun b hb=>?_⟩
        have hbm:=Qh3 hG' hb
        exact(h2 b (List.mem_cons_of_mem _ (by rw[hfl];exact hbm))).trans (hother b fun eb=>hgn (by rw[←eb];exact hbm))
      · rw [if_neg hik, if_pos (by omega)]
        rw[List.getElem?_append_right (by omega),hl1,List.getElem?_replicate] at hi
        split at hi
        · cases hi
          refine⟨[],by rw[List.getElem?_append_right (by omega),hl2,List.getElem?_replicate,if_pos (by omega)],?_⟩
          have hct:=Ygk (z:=zv.cells) (n:=m) (i:=i - k) (by rw[hzs];exact Dat.sz_pos α) (by omega)
          rw[hzs] at hct
          rw[hct]
          exact hzo w2
        · cases hi
end
end
section
def insL {α:Type} (xs:List α) (k:Nat) (c:α):List α:=xs.take k++c::xs.drop k
theorem Qqe {α:Type} {xs:List α} {k:Nat} {c:α} (hk:k≤xs.length):(insL xs k c).length=xs.length+1:=by
 unfold insL
 rw[List.length_append,List.length_take,List.length_cons,List.length_drop]
 omega
section
variable {α:Type} [dα:Dat α]
def FlE (l:List Value) (xs:List α):Prop:= ∀ i x,xs[i]?=some x→ ∀ w,Dat.own w (Fw.cut (Dat.sz α) l i) x []
theorem Ymx (s:Str α) (hf:Qo9 s.fk=true) {w w':World} {cs:List Value} {x:α} {G:List Nat} (h:Dat.own w cs x G):Dat.own w' cs x []:=Yge s hf (Dat.own_rd (B:=fun _=>True) h fun _ _=>trivial)
theorem Qkx: ∀ n,(List.replicate n ([]:List Nat)).flatten=[]:=by
 intro n
 induction n with
 | zero=>rfl
 | succ n ih=>rw[List.replicate_succ,List.flatten_cons,ih];rfl
theorem FlE.slo {w:World} {g cap n:Nat} {arr:Array Value} {T:TypeId} {xs:List α} (h:FlE arr.toList xs) (hg:w.heap[g]?=some (.cells arr T (0,0))) (hn:n=xs.length) (h1:n≤cap) (h2:cap≤maxLen) (h3:cap*Dat.sz α≤arr.size):SlO w (.slice (some ⟨g,0,none⟩) n cap) xs [g]:=by
 subst hn
 refine Qgs.2 (.inr ⟨g,cap,arr,T,List.replicate xs.length [],rfl,hg,h1,h2,h3,by rw[Qkx],by rw[List.length_replicate],fun i x hi=>⟨[],?_,h i x hi w⟩⟩)
 rw[List.getElem?_replicate,if_pos (List.getElem?_eq_some_iff.1 hi).1]
theorem SlO.fl (s:Str α) (hf:Qo9 s.fk=true) {w:World} {v:Value} {xs:List α} {F:List Nat} (h:SlO w v xs F):(v= .slice none 0 0∧xs=[]) ∨
  ∃ (g cap:Nat) (arr:Array Value) (T:TypeId),v= .slice (some ⟨g,0,none⟩) xs.length cap∧w.heap[g]?=some (.cells arr T (0,0))∧xs.length≤cap∧cap≤maxLen∧cap*Dat.sz α≤arr.size∧g∈F∧FlE arr.toList xs:=by
 rcases h with ⟨e1,e2,_⟩ | ⟨g,cap,arr,T,Fs,e1,e2,e3,e4,e5,e6,e7,e8⟩
 ·exact .inl ⟨e1,e2⟩
 ·refine .inr ⟨g,cap,arr,T,e1,e2,e3,e4,e5,by rw[e6];exact List.mem_cons_self,fun i x hi w'=>?_⟩
  obtain⟨G,_,ho⟩:=e8 i x hi
  exact Ymx s hf ho
theorem FlE.ins {l l2 ec:List Value} {xs:List α} {k:Nat} {c:α} (h:FlE l xs) (hk:k≤xs.length) (hc: ∀ w,Dat.own w ec c []) (h2: ∀ i,i<xs.length+1→Fw.cut (Dat.sz α) l2 i=if i<k then Fw.cut (Dat.sz α) l i else if i=k then ec else Fw.cut (Dat.sz α) l (i - 1)):FlE l2 (insL xs k c):=by
 intro i x hi w
 have hlt:=(List.getElem?_eq_some_iff.1 hi).1
 rw[Qqe hk] at hlt
 rw[h2 i hlt]
 unfold insL at hi
 have h1:(xs.take k).length=k:=by rw[List.length_take];omega
 by_cases h3:i<k
 ·rw[if_pos h3]
  rw[List.getElem?_append_left (by omega),List.getElem?_take,if_pos h3] at hi
  exact h i x hi w
 ·rw[if_neg h3]
  rw[List.getElem?_append_right (by omega),h1] at hi
  by_cases h4:i=k
  ·rw[if_pos h4]
   rw[h4,Nat.sub_self,List.getElem?_cons_zero] at hi
   cases hi
   exact hc w
  ·rw[if_neg h4]
   rw[show i - k=(i - k - 1)+1 by omega,List.getElem?_cons_succ,List.getElem?_drop,show k+(i - k - 1)=i - 1 by omega] at hi
   exact h (i - 1) x hi w
theorem FlE.one {l:List Value} {xs:List α} (h:FlE l xs) (w:World): ∀ u∈l.take (xs.length*Dat.sz α),u.oneCell'=true:=by
 intro u hu
 obtain⟨j,hj⟩:=List.getElem?_of_mem hu
 have hsp:=Dat.sz_pos α
 rw[List.getElem?_take] at hj
 split at hj
 ·rename_i hlt
  have hq:j / Dat.sz α<xs.length:=(Nat.div_lt_iff_lt_mul hsp).2 hlt
  refine Dat.rd_one (Dat.own_rd (B:=fun _=>True) (h _ _ (List.getElem?_eq_getElem hq) w) fun _ _=>trivial) u ?_
  unfold Fw.cut
  refine List.mem_of_getElem? (i:=j % Dat.sz α) ?_
  rw[List.getElem?_take,if_pos (Nat.mod_lt _ hsp),List.getElem?_drop,Nat.mul_comm,Nat.div_add_mod]
  exact hj
 ·cases hj
def midC (sz k m:Nat) (l:List Value):List Value:=(l.drop (k*sz)).take (m*sz)
theorem Yf3 {sz k m:Nat} {l:List Value} (h:k*sz+m*sz≤l.length):(midC sz k m l).length=m*sz:=by unfold midC;rw[List.length_take,List.length_drop];omega
theorem Yf2 {sz k n:Nat} {l:List Value} (hk:k≤n) {u:Value} (h:u∈midC sz k (n - k) l):u∈l.take (n*sz):=by
 unfold midC at h
 rw[show(n - k)*sz=n*sz - k*sz by rw[Nat.sub_mul],←List.drop_take] at h
 exact List.mem_of_mem_drop h
theorem Yf4 {sz k m i:Nat} {l:List Value} (hi:i<m):Fw.cut sz (midC sz k m l) i=Fw.cut sz l (k+i):=by
 unfold midC
 rw[Qna hi]
 unfold Fw.cut
 rw[List.drop_drop,←Nat.add_mul]
end
section
variable {P:Program} {w:World} {t e ty sz by':Nat}
theorem Q9b (ht:Qd2 P t e sz by'=true) {g o dLen dCap sLen sCap m:Nat} {S:Addr} {news:List Value} {arr:Array Value} {T:TypeId} (hm:Nat.min sLen dLen=m) (hl:news.length=m*sz) (hsrc: ∀ j u,news[j]?=some u→w.cell? (S.add j)=some u) (hg:w.heap[g]?=some (.cells arr T (0,0))) (hle:o+m*sz≤arr.size) (h1: ∀ u∈news,u.oneCell'=true):
  (Builtin.copy_ #[t,t] ty #[.slice (some ⟨g,o,none⟩) dLen dCap,.slice (some S) sLen sCap]).run P w= .ok (goInt m) (w.setRow g (arr.toList.take o++news++arr.toList.drop (o+m*sz)).toArray):=by
 obtain⟨hu,i,hi,his,_⟩:=Qbd ht
 have hfirst:=run_firstCells_some (P:=P) w sz m S sLen sCap news hl hsrc
 have hst:=run_storeCells_at P g o T news 0 arr w hg (by omega) h1
 rw[Nat.add_zero,hl] at hst
 subst his
 simp[Builtin.copy_,run_underlying hu,Builtin.lenOf,sizeOf,typeInfo,hi,hm,hfirst,hst]
end
def InsQ {α:Type} [Dat α] (ys:List α) (F:List Nat) (w:World) (e:Ending) (w':World):Prop:= ∃ v' F',e= .returned v'∧SlO w' v' ys F'∧F'.Nodup∧w'.os=w.os∧w'.tape=w.tape∧w'.output=w.output∧w.heap.size≤w'.heap.size∧(∀ b,b<w.heap.size→b ∉ F→w'.heap[b]?=w.heap[b]?)∧ ∀ b∈F',b∈F∨w.heap.size≤b
theorem CTM.row2 {P:Program} {G:World→Prop} {gs:List Nat} {f:FuncId} {α:Type} {dα:Dat α} {xs ys zs:List α} {k:Int}
  (h: ∀ (w:World) (v v2:Value) (F F2:List Nat),SlO w v xs F→F.Nodup→SlO w v2 ys F2→(∀ b∈F2,b ∉ F)→Calls P f #[v,.int .i64 k,v2] w (InsQ zs F w)):
  CTM P G gs f 0 2 [(0,.own α dα xs),(1,.own α dα ys)] [] [.sl 0 xs.length,.v (.int .i64 k),.sl 1 ys.length] [(0,.own α dα zs)] 1 [.sl 0 zs.length] True:=by
 intro S w p us hG hgs hsh _ hargs
 have hus:us=[.slice (p 0).A xs.length (p 0).cap,.int .i64 k,.slice (p 1).A ys.length (p 1).cap]:=by
  have:conL (thz p 2) [.sl 0 xs.length,.v (.int .i64 k),.sl 1 ys.length]=some [.slice (p 0).A xs.length (p 0).cap,.int .i64 k,.slice (p 1).A ys.length (p 1).cap]:=by
   simp only[conL,V.con,Qhh (p:=p) (n:=2) (k:=0) (by omega),Qhh (p:=p) (n:=2) (k:=1) (by omega)]
  rw[this] at hargs
  exact(Option.some.inj hargs).symm
 subst hus
 have g0:=Qhh (p:=p) (n:=2) (k:=0) (by omega)
 have g1:=Qhh (p:=p) (n:=2) (k:=1) (by omega)
 have e0:(([(0,.own α dα xs),(1,.own α dα ys)]:List (Nat×En)).map fun e=>e.2.ck (thz p 2) e.1)[0]?=some ((En.own α dα xs).ck (thz p 2) 0):=rfl
 have e1:(([(0,.own α dα xs),(1,.own α dα ys)]:List (Nat×En)).map fun e=>e.2.ck (thz p 2) e.1)[1]?=some ((En.own α dα ys).ck (thz p 2) 1):=rfl
 obtain⟨l0,hl0,s0⟩:=hsh.get e0
 obtain⟨l1,hl1,s1⟩:=hsh.get e1
 rw[g0] at hl0;cases hl0
 rw[g1] at hl1;cases hl1
 have f0:((En.own α dα xs).ck (thz p 2) 0).F=(p 0).F:=Qai g0
 have f1:((En.own α dα ys).ck (thz p 2) 1).F=(p 1).F:=Qai g1
 have hnd:=hsh.nd e0
 rw[f0] at hnd
 have hdj:=hsh.dj e1 e0 (by omega)
 rw[f0,f1] at hdj
 have hge:=hsh.ge _ (List.mem_of_getElem? e0)
 rw[f0] at hge
 refine(h w _ _ _ _ s0 hnd s1 hdj).mono fun e w' hq=>?_
 obtain⟨v',F',rfl,r1,r2,r3,r4,r5,r6,r7,r8⟩:=hq
 obtain⟨l',hv',hF'⟩:=Qz8 r1
 have gl:(thz p 0++[l'])[0]?=some l':=rfl
 refine⟨_,rfl,trivial,[l'],[v'],rfl,?_,rfl,?_⟩
 ·simp only[conL,V.con,gl,hv']
 ·have hk:Keep S w w':=⟨r3,r4,r5,r6,fun b hb=>r7 b (hsh.dom b hb) fun hbF=>(hge b hbF).1 hb⟩
  have hlF:((En.own α dα zs).ck (thz p 0++[l']) 0).F=F':=(Qai gl).trans hF'
  refine⟨hk,hsh.dom,fun c hc=>?_,fun c hc b hb=>?_,?_⟩
  ·obtain rfl:=List.mem_singleton.1 hc
   intro w2 hw2
   refine⟨l',gl,?_⟩
   rw[←hv',hF']
   exact r1.same fun b hb=>hw2 b (by rw[hlF];exact hb)
  ·obtain rfl:=List.mem_singleton.1 hc
   have hb':b∈F':=by rw[←hlF];exact hb
   refine⟨fun hS=>?_,r1.lt b hb'⟩
   rcases r8 b hb' with hbF | hbs
   ·exact(hge b hbF).1 hS
   ·have:=hsh.dom b hS
    omega
  ·show(List.flatMap (·.F) [(En.own α dα zs).ck (thz p 0++[l']) 0]).Nodup
   rw[List.flatMap_cons,List.flatMap_nil,List.append_nil,hlF]
   exact r2
end
end Go.Proofs.YtppialklomgajaaGreatDoor.Fw
