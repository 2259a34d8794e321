/-
  The texts Fw, Data, Own, Glob, Focus, Am, Am2, Am3, Am4, Am5, Am6, Am7, Am8 of this proof, one behind the other: what each proves stands at its head. No condition.
-/
import Derived.WalkKit
import Derived.ProofKit
import Derived.Deep.Quiet
import Derived.Handy
import Derived.Deep.LoopGhost
import Derived.Deep.Slices
import Derived.Laws.StructEq
import Derived.OrdersHeld
import Derived.OpenShut
import Derived.FnData
import Derived.ChangeArms
import Derived.ChangeOld
import Derived.Carry
import Derived.Great.FillDense
set_option linter.unusedVariables false
set_option linter.unusedSimpArgs false
set_option maxRecDepth 100000
namespace Go.Proofs.YtppialklomgajaaGreatDoor.Fw
open Go.RowKit
open List (append_nil length_append length_nil length_cons mem_singleton append_assoc length_take getElem?_eq_getElem mem_of_getElem? flatMap_cons mem_cons_of_mem map_cons length_drop getElem?_take mem_flatMap getElem?_drop getElem?_map length_singleton)
section
def lk?:List (Nat×Value)→Nat→Option Value
 | [],_=>none
 | (t,v)::r,k=>bif Nat.beq t k then some v else lk? r k
def ev? (ρ:List (Nat×Value)):Operand→Option Value
 | .tmp t=>lk? ρ t
 | .const v=>some v
 | .global g=>some (.pointer (some ⟨g,0,none⟩))
 | .func f=>some (.func (.func f) #[] #[])
structure Env (n:Nat) (ρ:List (Nat×Value)) (a:Act):Prop where
 size:a.tmps.size=n
 defers:a.defers=[]
 get: ∀ t v,lk? ρ t=some v→a.tmps.getD t undef=v
theorem Env.eval {n:Nat} {ρ:List (Nat×Value)} {a:Act} (h:Env n ρ a) {x:Operand} {v:Value} (hx:ev? ρ x=some v):a.eval x=v:=by
 cases x with
 | tmp t=>exact h.get t v hx
 | const c=>simp only[ev?,Option.some.injEq] at hx;exact hx
 | global g=>simp only[ev?,Option.some.injEq] at hx;exact hx
 | func f=>simp only[ev?,Option.some.injEq] at hx;exact hx
theorem Env.put {n:Nat} {ρ:List (Nat×Value)} {a:Act} (h:Env n ρ a) {d:Nat} (hd:Nat.blt d n=true) (v:Value):Env n ((d,v)::ρ) (a.put (some d) v):=by
 have hd':d<a.tmps.size:=by rw[h.size];simpa using hd
 refine⟨by simp[Act.put,h.size],by simp[Act.put,h.defers],fun t u hu=>?_⟩
 simp only[lk?] at hu
 by_cases e:d=t
 ·subst e
  simp at hu
  subst hu
  simp[Act.put,hd']
 ·have:Nat.beq d t=false:=by
   cases hb:Nat.beq d t
   ·rfl
   ·exact absurd (Nat.eq_of_beq_eq_true hb) e
  rw[this] at hu
  have:=h.get t u hu
  simp only[Act.put,Array.getD_eq_getD_getElem?] at *
  rw[Array.getElem?_setIfInBounds_ne e]
  exact this
theorem Env.put_none {n:Nat} {ρ:List (Nat×Value)} {a:Act} (h:Env n ρ a) (v:Value):Env n ρ (a.put none v):=h
def sub (ρ:List (Nat×Value)):List (Nat×Value)→Prop
 | []=>True
 | (t,v)::r=>lk? ρ t=some v∧sub ρ r
theorem Q74 {ρ:List (Nat×Value)}: ∀ {ρ':List (Nat×Value)},sub ρ ρ'→ ∀ t v,lk? ρ' t=some v→lk? ρ t=some v
 | [],_,_,_,h=>by simp[lk?] at h
 | (t', v') :: r, hs, t, v, h => by
  simp only[lk?] at h
  by_cases e:Nat.beq t' t=true
  ·rw[e] at h
   simp only[cond_true,Option.some.injEq] at h
   obtain rfl:=Nat.eq_of_beq_eq_true e
   subst h
   exact hs.1
  ·rw[Bool.not_eq_true] at e
   rw[e] at h
   exact Q74 hs.2 t v h
theorem Env.weaken {n:Nat} {ρ ρ':List (Nat×Value)} {a:Act} (h:Env n ρ a) (hs:sub ρ ρ'):Env n ρ' a:=
 ⟨h.size,h.defers,fun t v hv=>h.get t v (Q74 hs t v hv)⟩
def Q99:Nat→List Value→List (Nat×Value)
 | _,[]=>[]
 | i,v::r=>(i,v)::Q99 (i+1) r
theorem Q20: ∀ (vs:List Value) (i t:Nat) (v:Value),lk? (Q99 i vs) t=some v→i≤t∧vs[t - i]?=some v
 | [],_,_,_,h=>by simp[Q99,lk?] at h
 | u :: r, i, t, v, h => by
  simp only[Q99,lk?] at h
  by_cases e:Nat.beq i t=true
  ·rw[e] at h
   obtain rfl:=Nat.eq_of_beq_eq_true e
   simpa using h
  ·rw[Bool.not_eq_true] at e
   rw[e] at h
   obtain⟨h1,h2⟩:=Q20 r (i+1) t v h
   refine⟨by omega,?_⟩
   rw[show t - i=(t - (i+1))+1 by omega]
   simpa using h2
theorem enter {P:Program} {f:FuncId} {fn:Func} {c:Code} {n:Nat} {vs:List Value} {w:World} {R:Ending→World→Prop}
  (hf:P.funcs[f]?=some fn) (hb:fn.body=some c) (hn:fn.ntmps=n) (hl:vs.length≤n)
  (h: ∀ a,Env n (Q99 0 vs) a→c.wp P (bodyPost P fn R) a w):Calls P f vs.toArray w R:=by
 refine calls_of_wp hf hb ?_
 refine h _ ⟨?_,rfl,fun t v hv=>?_⟩
 ·simp[hn];omega
 ·obtain⟨_,h2⟩:=Q20 vs 0 t v hv
  simp only[Nat.sub_zero] at h2
  obtain⟨hlt,_⟩:=List.getElem?_eq_some_iff.1 h2
  simp[Array.getD_eq_getD_getElem?,Array.getElem?_append_left (show t<vs.toArray.size by simpa using hlt),h2]
def Qil (P:Program) (t n:Nat):Bool:=
 (match P.underlying t with | some (.struct _) | some (.array _ _)=>true | _=>false)&&(match P.info? t with | some i=>Nat.beq i.size n | none=>false)
def Qlc (P:Program) (t:Nat):Bool:=
 (match P.underlying t with | some (.struct _) | some (.array _ _)=>false | some _=>true | none=>false)&&(match P.info? t with | some i=>Nat.beq i.size 1 | none=>false)
def Qth (P:Program) (s f off:Nat):Bool:=
  match P.underlying s with
  | some (.struct fs) => (match fs[f]? with
    | some fd=>Nat.beq fd.offset off&&(match P.info? fd.type with | some i=>!(Nat.beq i.size 0) | none=>false)
    | none=>false)
  | _=>false
def Qa6 (P:Program) (s f off fd sz:Nat):Bool:=
  match P.underlying s with
  | some (.struct fs) => (match fs[f]? with
    | some d=>Nat.beq d.offset off&&(Nat.beq d.type fd&&Nat.beq (P.cellsOf fd) sz)
    | none=>false)
  | _=>false
theorem Qq5 {P:Program} {s f off fd sz:Nat} (h:Qa6 P s f off fd sz=true): ∃ fs d,P.underlying s=some (.struct fs)∧fs[f]?=some d∧d.offset=off∧d.type=fd∧P.cellsOf fd=sz:=by
 unfold Qa6 at h
 cases hu:P.underlying s with
 | none=>simp[hu] at h
 | some d =>
  cases d with
  | struct fs =>
   rw[hu] at h
   simp only at h
   cases hf:fs[f]? with
   | none=>simp[hf] at h
   | some d =>
    rw[hf] at h
    simp only[Bool.and_eq_true] at h
    exact⟨fs,d,rfl,hf,Nat.eq_of_beq_eq_true h.1,Nat.eq_of_beq_eq_true h.2.1,Nat.eq_of_beq_eq_true h.2.2⟩
  | _=>simp[hu] at h
def Qeh (P:Program) (t e sz bytes:Nat):Bool:=
 (match P.underlying t with | some (.slice e')=>Nat.beq e' e | _=>false)&&(match P.info? e with | some i=>Nat.beq i.size sz&&Nat.beq i.bytes bytes | none=>false)
theorem Qp6 {P:Program} {t n:Nat} (h:Qil P t n=true) (w:World):(isAgg t).run P w= .ok true w∧(sizeOf t).run P w= .ok n w:=by
 unfold Qil at h
 simp only[Bool.and_eq_true] at h
 obtain⟨h1,h2⟩:=h
 constructor
 ·cases hu:P.underlying t with
  | none=>simp[hu] at h1
  | some d =>
   unfold isAgg
   rw[Sem.run_bind,run_underlying hu w]
   cases d<;>simp_all
 ·cases hi:P.info? t with
  | none=>simp[hi] at h2
  | some i =>
   rw[hi] at h2
   have:=Nat.eq_of_beq_eq_true h2
   simp[sizeOf,typeInfo,hi,this]
theorem Qp5 {P:Program} {t:Nat} (h:Qlc P t=true) (w:World):(isAgg t).run P w= .ok false w∧(sizeOf t).run P w= .ok 1 w:=by
 unfold Qlc at h
 simp only[Bool.and_eq_true] at h
 obtain⟨h1,h2⟩:=h
 constructor
 ·cases hu:P.underlying t with
  | none=>simp[hu] at h1
  | some d =>
   unfold isAgg
   rw[Sem.run_bind,run_underlying hu w]
   cases d<;>simp_all
 ·cases hi:P.info? t with
  | none=>simp[hi] at h2
  | some i =>
   rw[hi] at h2
   have:=Nat.eq_of_beq_eq_true h2
   simp[sizeOf,typeInfo,hi,this]
theorem Qtg {P:Program} {s f off:Nat} (h:Qth P s f off=true): ∃ fs fd,P.underlying s=some (.struct fs)∧fs[f]?=some fd∧fd.offset=off∧ ∃ i,P.info? fd.type=some i∧i.size≠0:=by
 unfold Qth at h
 cases hu:P.underlying s with
 | none=>simp[hu] at h
 | some d =>
  cases d with
  | struct fs =>
   rw[hu] at h
   simp only at h
   cases hf:fs[f]? with
   | none=>simp[hf] at h
   | some fd =>
    rw[hf] at h
    simp only[Bool.and_eq_true] at h
    obtain⟨h1,h2⟩:=h
    cases hi:P.info? fd.type with
    | none=>simp[hi] at h2
    | some i =>
     rw[hi] at h2
     simp only[Bool.not_eq_true'] at h2
     exact⟨fs,fd,rfl,hf,Nat.eq_of_beq_eq_true h1,i,hi,fun e=>by rw[e] at h2;simp at h2⟩
  | _=>simp[hu] at h
theorem Qbd {P:Program} {t e sz bytes:Nat} (h:Qeh P t e sz bytes=true):P.underlying t=some (.slice e)∧ ∃ i,P.info? e=some i∧i.size=sz∧i.bytes=bytes:=by
 unfold Qeh at h
 simp only[Bool.and_eq_true] at h
 obtain⟨h1,h2⟩:=h
 constructor
 ·cases hu:P.underlying t with
  | none=>simp[hu] at h1
  | some d =>
   cases d with
   | slice e'=>rw[hu] at h1;rw[Nat.eq_of_beq_eq_true h1]
   | _=>simp[hu] at h1
 ·cases hi:P.info? e with
  | none=>simp[hi] at h2
  | some i =>
   rw[hi] at h2
   simp only[Bool.and_eq_true] at h2
   exact⟨i,rfl,Nat.eq_of_beq_eq_true h2.1,Nat.eq_of_beq_eq_true h2.2⟩
theorem Qns (a:Addr) (i j:Nat):(a.add i).add j=a.add (i+j):=by
 unfold Addr.add
 by_cases hi:i=0<;>by_cases hj:j=0<;>simp[hi,hj,Nat.add_assoc]
theorem Qms (a:Addr) (n:Nat):(a.add n).block=a.block:=by unfold Addr.add;split<;>rfl
def Qcf (w:World) (a:Addr) (cs:List Value):Prop:= ∀ j v,cs[j]?=some v→w.cell? (a.add j)=some v
theorem Qcf.cell {w:World} {a:Addr} {cs:List Value} (h:Qcf w a cs) {off:Nat} {v:Value} (hv:cs[off]?=some v):w.cell? (a.add off)=some v:=h off v hv
theorem Qcf.part {w:World} {a:Addr} {cs ds:List Value} (h:Qcf w a cs) {off n:Nat} (hd:(cs.drop off).take n=ds):Qcf w (a.add off) ds:=by
 intro j v hv
 rw[Qns]
 subst hd
 rw[getElem?_take] at hv
 split at hv
 ·rw[getElem?_drop] at hv
  exact h _ v hv
 ·cases hv
structure Keep (S:Nat→Prop) (w w':World):Prop where
 os:w'.os=w.os
 tape:w'.tape=w.tape
 output:w'.output=w.output
 size:w.heap.size≤w'.heap.size
 block: ∀ b,S b→w'.heap[b]?=w.heap[b]?
abbrev Old (w:World):Nat→Prop:=fun b=>b<w.heap.size
theorem Keep.refl (S:Nat→Prop) (w:World):Keep S w w:=⟨rfl,rfl,rfl,Nat.le_refl _,fun _ _=>rfl⟩
theorem Keep.trans {S:Nat→Prop} {a b c:World} (h:Keep S a b) (k:Keep S b c):Keep S a c:=
 ⟨k.os.trans h.os,k.tape.trans h.tape,k.output.trans h.output,Nat.le_trans h.size k.size,fun i hi=>(k.block i hi).trans (h.block i hi)⟩
theorem Keep.mono {S S':Nat→Prop} {w w':World} (h:Keep S w w') (hS: ∀ b,S' b→S b):Keep S' w w':=⟨h.os,h.tape,h.output,h.size,fun b hb=>h.block b (hS b hb)⟩
theorem Keep.of_below {S:Nat→Prop} {B:Nat} {w w':World} (h:Below B w w') (hS: ∀ b,S b→b<B):Keep S w w':=⟨h.os,h.tape,h.output,h.size,fun b hb=>h.block b (hS b hb)⟩
theorem Keep.below {w w':World} (h:Keep (Old w) w w'):Below w.heap.size w w':=⟨h.os,h.tape,h.output,h.size,fun b hb=>h.block b hb⟩
theorem Qcf.keep {S:Nat→Prop} {w w':World} {a:Addr} {cs:List Value} (h:Qcf w a cs) (hb:Keep S w w') (ha:S a.block):Qcf w' a cs:=by
 intro j v hv
 rw[←h j v hv]
 exact World.cell?_of_block (hb.block _ (by rw[Qms];exact ha))
theorem Qcf.row {w:World} {b:Nat} {cs:List Value} {T:TypeId} {fr:Nat×Nat} (h:w.heap[b]?=some (.cells cs.toArray T fr)):Qcf w ⟨b,0,none⟩ cs:=by
 intro j v hv
 have e:(⟨b,0,none⟩:Addr).add j=⟨b,j,none⟩:=by unfold Addr.add;split<;>simp_all
 rw[e,cell_of_row w b j _ T fr h]
 simpa using hv
def Qb7 (P:Program) (a:Act) (w:World) (op:Op) (ty:TypeId) (v:Value):Prop:=
 ∀ (dst:Option Tmp) (pos:String) (after:Array Edge) (g:Option (Nat×Bool)),(execOp a.eval ⟨dst,op,ty,pos,after,g⟩).run P w= .ok (.value v) w
section
variable {P:Program} {n:Nat} {ρ:List (Nat×Value)} {a:Act} {w:World} {ty:TypeId}
theorem Qez (hE:Env n ρ a) {x:Operand} {v:Value} (hx:ev? ρ x=some v):Qb7 P a w (.move x) ty v:=by
 intro _ _ _ _
 simp[execOp,hE.eval hx]
theorem Qdd (hE:Env n ρ a) {x:Operand} {v:Value} (hx:ev? ρ x=some v):Qb7 P a w (.assign x) ty v:=by
 intro _ _ _ _
 simp[execOp,hE.eval hx]
theorem Qxv (hE:Env n ρ a) {x:Operand} {A:Option Addr} {len cap:Nat} (hx:ev? ρ x=some (.slice A len cap)) {t e sz bytes:Nat} (ht:Qeh P t e sz bytes=true):
    Qb7 P a w (.call { callee:= .builtin .len,args:= #[x],argTypes:= #[t] }) ty (.int .i64 len):=by
  intro _ _ _ _
  simp[execOp,resolve,hE.eval hx,invoke,builtin,Builtin.len_,run_underlying (Qbd ht).1,goInt]
theorem Qm0 (hE:Env n ρ a) {x:Operand} {s:ByteArray} (hx:ev? ρ x=some (.string s)) {t:Nat} (ht:P.underlying t=some .string):
    Qb7 P a w (.call { callee:= .builtin .len,args:= #[x],argTypes:= #[t] }) ty (.int .i64 s.size):=by
  intro _ _ _ _
  simp[execOp,resolve,hE.eval hx,invoke,builtin,Builtin.len_,run_underlying ht,goInt]
theorem Qjw (hE:Env n ρ a) {x y:Operand} {t t':Nat} {op:BinOp} {k:IntKind} {i j:Int} {v:Value} (hx:ev? ρ x=some (.int k i)) (hy:ev? ρ y=some (.int k j))
  (hr:(binOp op t (.int k i) (.int k j)).run P w= .ok v w):Qb7 P a w (.binOp op t x y t') ty v:=by
 intro _ _ _ _
 simp only[execOp,hE.eval hx,hE.eval hy,Sem.run_bind,eqGuard_at_int,Sem.run_pure,Result.andThen_ok,hr]
theorem Ydg (hE:Env n ρ a) {x y:Operand} {t t':Nat} {k:IntKind} {i j:Int} (hx:ev? ρ x=some (.int k i)) (hy:ev? ρ y=some (.int k j)):
  Qb7 P a w (.binOp .add t x y t') ty (.int k (k.wrap (i+j))):=Qjw hE hx hy (by rw[binOp_add];rfl)
theorem Yhq (hE:Env n ρ a) {x y:Operand} {t t':Nat} {k:IntKind} {i j:Int} (hx:ev? ρ x=some (.int k i)) (hy:ev? ρ y=some (.int k j)):
  Qb7 P a w (.binOp .sub t x y t') ty (.int k (k.wrap (i - j))):=Qjw hE hx hy (by rw[binOp_sub];rfl)
theorem Ymd (hE:Env n ρ a) {x y:Operand} {t t':Nat} {k:IntKind} {i j:Int} (hx:ev? ρ x=some (.int k i)) (hy:ev? ρ y=some (.int k j)):
  Qb7 P a w (.binOp .mul t x y t') ty (.int k (k.wrap (i*j))):=Qjw hE hx hy (by rw[binOp_mul];rfl)
theorem Q7z (hE:Env n ρ a) {x y:Operand} {t t':Nat} {i j m:Int} (hx:ev? ρ x=some (.int .i64 i)) (hy:ev? ρ y=some (.int .i64 j)) (hm:i+j=m) (h1: -9223372036854775808≤m) (h2:m≤9223372036854775807):
  Qb7 P a w (.binOp .add t x y t') ty (.int .i64 m):=by
 have e:IntKind.i64.wrap (i+j)=m:=by rw[hm];exact IntWalk.i64_in _ (by omega)
 have:=Ydg (P:=P) (w:=w) (ty:=ty) (t:=t) (t':=t') hE hx hy
 rwa [e] at this
theorem Ygi (hE:Env n ρ a) {x y:Operand} {t t':Nat} {k:IntKind} {i j:Int} (hx:ev? ρ x=some (.int k i)) (hy:ev? ρ y=some (.int k j)) (hj:j≠0):
  Qb7 P a w (.binOp .quo t x y t') ty (.int k (k.wrap (i.tdiv j))):=Qjw hE hx hy (by rw[binOp_quo];simp[Op.intDiv,hj])
theorem Ydf (hE:Env n ρ a) {x y:Operand} {t t':Nat} {k:IntKind} {i j:Int} (hx:ev? ρ x=some (.int k i)) (hy:ev? ρ y=some (.int k j)) (hj:j≠0):
  Qb7 P a w (.binOp .rem t x y t') ty (.int k (i.tmod j)):=Qjw hE hx hy (by rw[binOp_rem];simp[Op.intDiv,hj])
theorem Ya5 (hE:Env n ρ a) {x y:Operand} {t t':Nat} {k:IntKind} {i j:Int} (hx:ev? ρ x=some (.int k i)) (hy:ev? ρ y=some (.int k j)):
  Qb7 P a w (.binOp .lss t x y t') ty (.bool (decide (i<j))):=Qjw hE hx hy (by rw[binOp_lss];rfl)
theorem Ygj (hE:Env n ρ a) {x y:Operand} {t t':Nat} {k:IntKind} {i j:Int} (hx:ev? ρ x=some (.int k i)) (hy:ev? ρ y=some (.int k j)):
  Qb7 P a w (.binOp .leq t x y t') ty (.bool (decide (i≤j))):=Qjw hE hx hy (by rw[binOp_leq];rfl)
theorem Ymg (hE:Env n ρ a) {x y:Operand} {t t':Nat} {k:IntKind} {i j:Int} (hx:ev? ρ x=some (.int k i)) (hy:ev? ρ y=some (.int k j)):
  Qb7 P a w (.binOp .gtr t x y t') ty (.bool (decide (i>j))):=Qjw hE hx hy (by rw[binOp_gtr];rfl)
theorem Ygk (hE:Env n ρ a) {x y:Operand} {t t':Nat} {k:IntKind} {i j:Int} (hx:ev? ρ x=some (.int k i)) (hy:ev? ρ y=some (.int k j)):
  Qb7 P a w (.binOp .geq t x y t') ty (.bool (decide (i≥j))):=Qjw hE hx hy (by rw[binOp_geq];rfl)
theorem Ygm (hE:Env n ρ a) {x y:Operand} {t t':Nat} {k:IntKind} {i j:Int} (hx:ev? ρ x=some (.int k i)) (hy:ev? ρ y=some (.int k j)):
  Qb7 P a w (.binOp .eql t x y t') ty (.bool (decide (i=j))):=Qjw hE hx hy (by rw[binOp_eql];rfl)
theorem Yhs (hE:Env n ρ a) {x y:Operand} {t t':Nat} {k:IntKind} {i j:Int} (hx:ev? ρ x=some (.int k i)) (hy:ev? ρ y=some (.int k j)):
  Qb7 P a w (.binOp .neq t x y t') ty (.bool (!decide (i=j))):=Qjw hE hx hy (by rw[binOp_neq];rfl)
theorem Q93 (hE:Env n ρ a) {x y:Operand} {t t':Nat} {i j:Bool} (hx:ev? ρ x=some (.bool i)) (hy:ev? ρ y=some (.bool j)) (ht:P.underlying t=some .bool):
  Qb7 P a w (.binOp .eql t x y t') ty (.bool (decide (i=j))):=by
 intro _ _ _ _
 simp[execOp,hE.eval hx,hE.eval hy,eqGuard_at_bool,binOp,run_equal_bool w t i j ht]
 cases i<;>cases j<;>rfl
theorem Q92 (hE:Env n ρ a) {x y:Operand} {t t':Nat} {i j:Bool} (hx:ev? ρ x=some (.bool i)) (hy:ev? ρ y=some (.bool j)) (ht:P.underlying t=some .bool):
  Qb7 P a w (.binOp .neq t x y t') ty (.bool (!decide (i=j))):=by
 intro _ _ _ _
 simp[execOp,hE.eval hx,hE.eval hy,eqGuard_at_bool,binOp,run_equal_bool w t i j ht]
 cases i<;>cases j<;>rfl
theorem Qnw (s t:ByteArray):(s.toList==t.toList)=decide (s=t):=by
 have h:(s.toList=t.toList)↔s=t:=by
  constructor
  ·intro h
   rw[ByteArray.toList_eq,ByteArray.toList_eq] at h
   exact ByteArray.ext (Array.toList_inj.1 h)
  ·intro h;rw[h]
 rw[Bool.eq_iff_iff]
 simp[h]
theorem Q4n (hE:Env n ρ a) {x y:Operand} {t t':Nat} {i j:ByteArray} (hx:ev? ρ x=some (.string i)) (hy:ev? ρ y=some (.string j)):
  Qb7 P a w (.binOp .eql t x y t') ty (.bool (decide (i=j))):=by
 intro _ _ _ _
 simp only[execOp,hE.eval hx,hE.eval hy,eqGuard_at_string,binOp,Op.stringOp,Qnw,Sem.run_bind,Sem.run_pure,Result.andThen_ok]
theorem Q4m (hE:Env n ρ a) {x y:Operand} {t t':Nat} {i j:ByteArray} (hx:ev? ρ x=some (.string i)) (hy:ev? ρ y=some (.string j)):
  Qb7 P a w (.binOp .neq t x y t') ty (.bool (!decide (i=j))):=by
 intro _ _ _ _
 simp only[execOp,hE.eval hx,hE.eval hy,eqGuard_at_string,binOp,Op.stringOp,Qnw,Sem.run_bind,Sem.run_pure,Result.andThen_ok]
theorem Ya8 (hE:Env n ρ a) {x y:Operand} {t t':Nat} {i j:ByteArray} (hx:ev? ρ x=some (.string i)) (hy:ev? ρ y=some (.string j)) (hs:i.size+j.size≤9223372036854775807):
  Qb7 P a w (.binOp .add t x y t') ty (.string (i++j)):=by
 intro _ _ _ _
 have: ¬ ((i.size+j.size:Nat):Int)>IntKind.i64.max:=by rw[IntKind.max_i64];omega
 simp only[execOp,hE.eval hx,hE.eval hy,eqGuard_at_string,binOp,Op.stringOp,Sem.run_bind,Sem.run_pure,Result.andThen_ok,this,if_false]
theorem Yhr (hE:Env n ρ a) {x:Operand} {t:Nat} {b:Bool} (hx:ev? ρ x=some (.bool b)):Qb7 P a w (.unOp .not t x) ty (.bool (!b)):=by
 intro _ _ _ _
 simp[execOp,hE.eval hx,Op.unary]
theorem Q6s (hE:Env n ρ a) {x:Operand} {s f off o1 o2:Nat} {ad:Addr} (hx:ev? ρ x=some (.pointer (some (ad.add o1)))) (hc:Qth P s f off=true) (ho:Nat.add o1 off=o2):
  Qb7 P a w (.fieldAddr s x f) ty (.pointer (some (ad.add o2))):=by
 intro _ _ _ _
 obtain⟨fs,fd,hu,hf,hoff,i,hi,hn⟩:=Qtg hc
 have hs:(sizeOf fd.type).run P w= .ok i.size w:=by simp[sizeOf,typeInfo,hi]
 subst ho
 simp[execOp,hE.eval hx,Instr.fieldAt,run_underlying hu,hf,Instr.sureAddr,fieldPlace,hs,hn,hoff,Qns]
theorem Qpt {t:Nat} {ad:Addr} {v:Value} (hc:w.cell? ad=some v) (ht:Qlc P t=true):(loadVar t ad).run P w= .ok v w:=by
 simp[loadVar,(Qp5 ht w).1,hc]
theorem Qpu {t k:Nat} {ad:Addr} {cs:List Value} (hc:Qcf w ad cs) (ht:Qil P t k=true) (hk:cs.length=k):(loadVar t ad).run P w= .ok (.agg cs.toArray) w:=by
 have hl:=run_loadCells_list (P:=P) w ad cs (fun j v hv=>hc j v hv)
 rw[hk] at hl
 simp[loadVar,(Qp6 ht w).1,(Qp6 ht w).2,hl]
theorem Qnt (hE:Env n ρ a) {x:Operand} {t off:Nat} {ad:Addr} {cs:List Value} {v:Value} (hx:ev? ρ x=some (.pointer (some (ad.add off)))) (hc:Qcf w ad cs) (hv:cs[off]?=some v) (ht:Qlc P t=true):
  Qb7 P a w (.load t x) ty v:=by
 intro _ _ _ _
 simp[execOp,hE.eval hx,Instr.loadAt,Instr.sureAddr,Qpt (hc.cell hv) ht]
theorem Q2b (hE:Env n ρ a) {x:Operand} {t off k:Nat} {ad:Addr} {cs ds:List Value} (hx:ev? ρ x=some (.pointer (some (ad.add off)))) (hc:Qcf w ad cs) (hd:(cs.drop off).take k=ds) (hk:ds.length=k)
  (ht:Qil P t k=true):Qb7 P a w (.load t x) ty (.agg ds.toArray):=by
 intro _ _ _ _
 simp[execOp,hE.eval hx,Instr.loadAt,Instr.sureAddr,Qpu (hc.part hd) ht hk]
theorem Qkf (hE:Env n ρ a) {x y:Operand} {t e sz bytes len cap:Nat} {A:Addr} {i:Int} (hx:ev? ρ x=some (.slice (some A) len cap)) (hy:ev? ρ y=some (.int .i64 i)) (h0:0≤i) (h1:i<len)
  (ht:Qeh P t e sz bytes=true):Qb7 P a w (.indexAddr t x y) ty (.pointer (some ((A.add (i.toNat*sz)).add 0))):=by
 intro _ _ _ _
 obtain⟨hu,inf,hi,hs,_⟩:=Qbd ht
 have hz:(sizeOf e).run P w= .ok sz w:=by simp[sizeOf,typeInfo,hi,hs]
 simp[execOp,hE.eval hx,hE.eval hy,Instr.indexAt,asIntOf,run_underlying hu,h0,h1,hz,Qns]
theorem Ya6 (hE:Env n ρ a) {x:Operand} {i:Nat} {vs:List Value} {v:Value} (hx:ev? ρ x=some (.tuple vs.toArray)) (hv:vs[i]?=some v):Qb7 P a w (.extract x i) ty v:=by
 intro _ _ _ _
 simp[execOp,hE.eval hx,Instr.extract,hv]
end
theorem Qxo {P:Program} {n:Nat} {ρ:List (Nat×Value)} {a:Act} {w:World} {ty:TypeId} (hE:Env n ρ a) {c x y:Operand} {b:Bool} (hc:ev? ρ c=some (.bool b)) (hb:b=true) {v:Value} (hx:ev? ρ x=some v):Qb7 P a w (.pick c x y) ty v:=by
 intro _ _ _ _
 simp[execOp,hE.eval hc,hE.eval hx,hb,asBool]
theorem Qxp {P:Program} {n:Nat} {ρ:List (Nat×Value)} {a:Act} {w:World} {ty:TypeId} (hE:Env n ρ a) {c x y:Operand} {b:Bool} (hc:ev? ρ c=some (.bool b)) (hb:b=false) {v:Value} (hy:ev? ρ y=some v):Qb7 P a w (.pick c x y) ty v:=by
 intro _ _ _ _
 simp[execOp,hE.eval hc,hE.eval hy,hb,asBool]
theorem Oper.wp_mono' {P:Program} {o:Oper} {a:Act} {w:World} {K K':Act→World→Prop} {Mid:Act→World→Prop} {Q:Exit→Act→World→Prop} (h: ∀ a w,K a w→K' a w) (hh:o.wp P a w K (Exit.then Mid Q)):o.wp P a w K' Q:=by
 unfold Oper.wp at *
 generalize (execOp a.eval o).run P w=r at *
 cases r with
 | ok nx w' =>
  cases nx<;>simp only[Oper.upon] at hh ⊢
  case value=>exact h _ _ hh
  case skip=>exact h _ _ hh
  case defer=>exact h _ _ hh
  case row=>exact hh.mono fun _ _ q=>h _ _ q
  case enter=>
   refine hh.mono fun e w2 q=>?_
   cases e<;>first | exact h _ _ q | exact q
 | halt x w'=>cases x<;>simp only[Oper.upon] at hh ⊢;exact hh
section
variable {P:Program} {ops:Array Oper} {Q:Exit→Act→World→Prop} {n:Nat} {ρ:List (Nat×Value)} {a:Act} {w:World} {rest:List Oper} {d:Nat} {op:Op} {ty:TypeId} {pos:String} {after:Array Edge}
theorem Qa1 (hE:Env n ρ a) {v:Value} (hy:Qb7 P a w op ty v) (hd:Nat.blt d n=true) (k: ∀ a,Env n ((d,v)::ρ) a→wpList P ops Q rest a w):
  wpList P ops Q (⟨some d,op,ty,pos,after,none⟩::rest) a w:=by
 refine wpList_plain rfl fun K hK=>?_
 unfold Oper.wp
 rw[hy]
 exact hK _ _ (k _ (hE.put hd v))
theorem Q19 {l:List Oper} (hE:Env n ρ a) {j t:Nat} {b:Bool} {o:Oper} (ho:l[j]?=some o) (hd:o.dst=some t) (ht:lk? ρ t=some (.bool b)):yielded l.toArray a.tmps j=some b:=by
 have h:=hE.get t _ ht
 unfold yielded
 simp only[List.getElem?_toArray,ho,Option.bind_some,hd]
 rw[Array.getD_eq_getD_getElem?] at h
 cases hg:a.tmps[t]? with
 | none=>rw[hg] at h;simp[undef] at h
 | some u=>rw[hg] at h;simp at h;subst h;rfl
theorem Q2e {l:List Oper} (hE:Env n ρ a) {j t:Nat} {want b:Bool} {dst:Option Tmp} {o:Oper} (ho:l[j]?=some o) (hd:o.dst=some t) (ht:lk? ρ t=some (.bool b)) (hb:b=want)
  (k:wpList P l.toArray Q (⟨dst,op,ty,pos,after,none⟩::rest) a w):wpList P l.toArray Q (⟨dst,op,ty,pos,after,some (j,want)⟩::rest) a w:=by
 subst hb
 have h:=Q19 hE ho hd ht
 unfold wpList at *
 simp only[Region.wanted,h,beq_self_eq_true,if_true] at *
 exact k
theorem Qty {l:List Oper} (hE:Env n ρ a) {j t:Nat} {want b:Bool} {o:Oper} (ho:l[j]?=some o) (hd:o.dst=some t) (ht:lk? ρ t=some (.bool b)) (hb:b=!want) (hdn:Nat.blt d n=true)
  (k: ∀ a,Env n ((d,undef)::ρ) a→wpList P l.toArray Q rest a w):wpList P l.toArray Q (⟨some d,op,ty,pos,after,some (j,want)⟩::rest) a w:=by
 subst hb
 have h:=Q19 hE ho hd ht
 unfold wpList
 have hne: ¬ (some (!want)==some want)=true:=by cases want<;>simp
 simp only[Region.wanted,h,hne]
 exact k _ (hE.put hdn undef)
theorem Qqh {Mid:Act→World→Prop}: ∀ (l:List Oper) (k:Nat) (a:Act) (w:World),wpList P ops (Exit.then Mid Q) (l.take k) a w→(∀ a w,Mid a w→wpList P ops Q (l.drop k) a w)→wpList P ops Q l a w
 | l,0,a,w,h,h2=>h2 a w h
 | [],_+1,a,w,h,h2=>h2 a w h
 | o :: l, k + 1, a, w, h, h2 => by
  unfold wpList at h ⊢
  simp only[List.take_succ_cons] at h
  split at h
  ·rename_i hw
   rw[if_pos hw]
   rcases h with h | ⟨h,hq⟩
   ·exact .inl (Oper.wp_mono' (fun a w h=>Qqh l k a w h h2) h)
   ·exact .inr ⟨h,hq⟩
  ·rename_i hw
   rw[if_neg hw]
   exact Qqh l k _ _ h h2
theorem Ye0 {l:List Oper} (k:Nat) (Mid:Act→World→Prop) (h1:wpList P ops (Exit.then Mid Q) (l.take k) a w) (h2: ∀ a w,Mid a w→wpList P ops Q (l.drop k) a w):wpList P ops Q l a w:=
 Qqh l k a w h1 h2
theorem Qxw (hE:Env n ρ a) {f:FuncId} {fn:Func} {xs:Array Operand} {ts:Array TypeId} {vs:List Value} {R:Ending→World→Prop}
    (hf:P.funcs[f]?=some fn) (hb:fn.body.isNone=false) (hn:(fn.name == "runtime.NumGoroutine")=false) (hx:xs.toList.map (ev? ρ)=vs.map some) (hc:Calls P f vs.toArray w R) (hd:Nat.blt d n=true)
    (hR: ∀ e w',R e w'→ ∃ v,e= .returned v)
    (k: ∀ v w',R (.returned v) w'→ ∀ a,Env n ((d,v)::ρ) a→wpList P ops Q rest a w'):
    wpList P ops Q (⟨some d,.call { callee:= .value (.func f),args:=xs,argTypes:=ts },ty,pos,after,none⟩::rest) a w:=by
  refine wpList_plain rfl fun K hK=>?_
  have hm:xs.map a.eval=vs.toArray:=by
    have:xs.toList.map a.eval=vs:=by
      clear hc hK k hR
      generalize xs.toList=l at hx ⊢
      induction l generalizing vs with
      | nil => cases vs with
        | nil=>rfl
        | cons=>simp at hx
      | cons x l ih => cases vs with
        | nil=>simp at hx
        | cons v vs =>
          simp only[map_cons,List.cons.injEq] at hx
          rw[map_cons,hE.eval hx.1,ih hx.2]
    apply Array.toList_inj.1
    rw[Array.toList_map,this]
  unfold Oper.wp
  have:(execOp a.eval ⟨some d,.call { callee:= .value (.func f),args:=xs,argTypes:=ts },ty,pos,after,none⟩).run P w= .ok (.enter f vs.toArray) w:=by
    have hn': ¬ fn.name= "runtime.NumGoroutine" := by simpa using hn
    have hb': ¬ fn.body=none:=by intro e;rw[e] at hb;cases hb
    simp[execOp,resolve,hm,Act.eval,Deferred.ofValue,invoke,callFunc,hf,hn',hb']
  rw[this,Oper.upon_enter]
  refine hc.mono fun e w' hr=>?_
  obtain⟨v,rfl⟩:=hR e w' hr
  exact hK _ _ (k v w' hr _ (hE.put hd v))
end
section
variable {P:Program} {Q:Exit→Act→World→Prop} {a:Act} {w:World} {id:Nat} {l:List Oper} {x y:Code}
theorem Qjt {n:Nat} {ρ:List (Nat×Value)} (hE:Env n ρ a) {c:Operand} {b:Bool} (hc:ev? ρ c=some (.bool b)) (ht:b=true→x.wp P Q a w) (hf:b=false→y.wp P Q a w):(Code.cond c x y).wp P Q a w:=
 wp_cond_split (hE.eval hc) ht hf
end
def I64 (x:Int):Prop:= -9223372036854775808≤x∧x≤9223372036854775807
class Dat (α:Type) where
 sz:Nat
 sz_pos':0<sz
 rd:(Nat→Prop)→World→List Value→α→Prop
 rd_len: ∀ {B:Nat→Prop} {w cs x},rd B w cs x→cs.length=sz
 rd_mono: ∀ {B B':Nat→Prop} {w cs x},(∀ b,B b→B' b)→rd B w cs x→rd B' w cs x
 rd_below: ∀ {B:Nat→Prop} {w w' cs x},Keep B w w'→rd B w cs x→rd B w' cs x
 own:World→List Value→α→List Nat→Prop
 own_rd: ∀ {B:Nat→Prop} {w cs x F},own w cs x F→(∀ b∈F,B b)→rd B w cs x
 own_same: ∀ {w w' cs x F},own w cs x F→(∀ b∈F,w'.heap[b]?=w.heap[b]?)→own w' cs x F
 own_lt: ∀ {w cs x F},own w cs x F→ ∀ b∈F,b<w.heap.size
 good:α→Prop
 rd_good: ∀ {B:Nat→Prop} {w cs x},rd B w cs x→good x
 small:Nat→α→Prop
 rd_one: ∀ {B:Nat→Prop} {w cs x},rd B w cs x→ ∀ u∈cs,u.oneCell'=true
abbrev Dat.flat {α:Type} (n:Nat) (hp:0<n) (enc:α→List Value) (good:α→Prop) (hn: ∀ x,(enc x).length=n) (sm:Nat→α→Prop) (h1: ∀ x,∀ u∈enc x,u.oneCell'=true):Dat α where
 sz:=n
 sz_pos':=hp
 rd _ _ cs x:=cs=enc x∧good x
 rd_len h:=by rw[h.1];exact hn _
 rd_mono _ h:=h
 rd_below _ h:=h
 own _ cs x F:=(cs=enc x∧good x)∧F=[]
 own_rd h _:=h.1
 own_same h _:=h
 own_lt h:=by rw[h.2];intro b hb;cases hb
 good:=good
 rd_good h:=h.2
 small:=sm
 rd_one h:=by rw[h.1];exact h1 _
theorem Dat.sz_pos (α:Type) [Dat α]:0<Dat.sz α:=Dat.sz_pos'
instance:Dat Int:=Dat.flat 1 (by decide) (fun x=>[.int .i64 x]) I64 (fun _=>rfl) (fun _ _=>True) (fun _ _ h=>by simp at h;rw[h];rfl)
instance:Dat Bool:=Dat.flat 1 (by decide) (fun x=>[.bool x]) (fun _=>True) (fun _=>rfl) (fun _ _=>True) (fun _ _ h=>by simp at h;rw[h];rfl)
instance:Dat ByteArray:=Dat.flat 1 (by decide) (fun x=>[.string x]) (fun s=>s.size≤maxLen) (fun _=>rfl) (fun n s=>s.size≤n) (fun _ _ h=>by simp at h;rw[h];rfl)
instance:Dat UInt8:=Dat.flat 1 (by decide) (fun x=>[.int .u8 x.toNat]) (fun _=>True) (fun _=>rfl) (fun _ _=>True) (fun _ _ h=>by simp at h;rw[h];rfl)
instance {α β:Type} [Dat α] [Dat β]:Dat (α×β) where
 sz:=Dat.sz α+Dat.sz β
 sz_pos':=Nat.add_pos_left Dat.sz_pos' _
 rd B w cs x:= ∃ c d,cs=c++d∧Dat.rd B w c x.1∧Dat.rd B w d x.2
 rd_len:=by rintro B w cs x ⟨c,d,rfl,h1,h2⟩;rw[List.length_append,Dat.rd_len h1,Dat.rd_len h2]
 rd_mono:=by rintro B B' w cs x h ⟨c,d,rfl,h1,h2⟩;exact⟨c,d,rfl,Dat.rd_mono h h1,Dat.rd_mono h h2⟩
 rd_below:=by rintro B w w' cs x h ⟨c,d,rfl,h1,h2⟩;exact⟨c,d,rfl,Dat.rd_below h h1,Dat.rd_below h h2⟩
 own w cs x F:= ∃ c d G H,cs=c++d∧F=G++H∧Dat.own w c x.1 G∧Dat.own w d x.2 H
 own_rd:=by
  rintro B w cs x F ⟨c,d,G,H,rfl,rfl,h1,h2⟩ hF
  exact⟨c,d,rfl,Dat.own_rd h1 fun b hb=>hF b (List.mem_append_left _ hb),Dat.own_rd h2 fun b hb=>hF b (List.mem_append_right _ hb)⟩
 own_same:=by
  rintro w w' cs x F ⟨c,d,G,H,rfl,rfl,h1,h2⟩ hF
  exact⟨c,d,G,H,rfl,rfl,Dat.own_same h1 fun b hb=>hF b (List.mem_append_left _ hb),Dat.own_same h2 fun b hb=>hF b (List.mem_append_right _ hb)⟩
 own_lt:=by
  rintro w cs x F ⟨c,d,G,H,rfl,rfl,h1,h2⟩ b hb
  rcases List.mem_append.1 hb with hb | hb
  ·exact Dat.own_lt h1 b hb
  ·exact Dat.own_lt h2 b hb
 good x:=Dat.good x.1∧Dat.good x.2
 rd_good:=by rintro B w cs x ⟨c,d,rfl,h1,h2⟩;exact⟨Dat.rd_good h1,Dat.rd_good h2⟩
 small n x:=Dat.small n x.1∧Dat.small n x.2
 rd_one:=by rintro B w cs x ⟨c,d,rfl,h1,h2⟩ u hu;exact(List.mem_append.1 hu).elim (Dat.rd_one h1 u) (Dat.rd_one h2 u)
abbrev Dat.pull {σ τ:Type} [Dat τ] (f:σ→τ):Dat σ where
 sz:=Dat.sz τ
 sz_pos':=Dat.sz_pos'
 rd B w cs x:=Dat.rd B w cs (f x)
 rd_len:=Dat.rd_len
 rd_mono:=Dat.rd_mono
 rd_below:=Dat.rd_below
 own w cs x F:=Dat.own w cs (f x) F
 own_rd:=Dat.own_rd
 own_same:=Dat.own_same
 own_lt:=Dat.own_lt
 good x:=Dat.good (f x)
 rd_good:=Dat.rd_good
 small n x:=Dat.small n (f x)
 rd_one:=Dat.rd_one
def SlR {α:Type} [Dat α] (B:Nat→Prop) (w:World) (v:Value) (xs:List α):Prop:=
 ∃ (A:Option Addr) (cap:Nat),v= .slice A xs.length cap∧xs.length≤cap∧cap≤maxLen∧
  (xs≠[]→ ∃ ad,A=some ad∧B ad.block∧ ∀ i x,xs[i]?=some x→ ∃ cs,Dat.rd B w cs x∧Qcf w (ad.add (i*Dat.sz α)) cs)
def SlO {α:Type} [Dat α] (w:World) (v:Value) (xs:List α) (F:List Nat):Prop:=
 (v= .slice none 0 0∧xs=[]∧F=[]) ∨
 ∃ (g cap:Nat) (arr:Array Value) (T:TypeId) (Fs:List (List Nat)),v= .slice (some ⟨g,0,none⟩) xs.length cap∧w.heap[g]?=some (.cells arr T (0,0))∧xs.length≤cap∧cap≤maxLen∧cap*Dat.sz α≤arr.size∧
  F=g::Fs.flatten∧Fs.length=xs.length∧ ∀ i x,xs[i]?=some x→ ∃ G,Fs[i]?=some G∧Dat.own w ((arr.toList.drop (i*Dat.sz α)).take (Dat.sz α)) x G
theorem SlR.mono {α:Type} [Dat α] {B B':Nat→Prop} {w:World} {v:Value} {xs:List α} (hB: ∀ b,B b→B' b) (h:SlR B w v xs):SlR B' w v xs:=by
 obtain⟨A,cap,rfl,h1,h2,h3⟩:=h
 refine⟨A,cap,rfl,h1,h2,fun hn=>?_⟩
 obtain⟨ad,rfl,hb,hc⟩:=h3 hn
 exact⟨ad,rfl,hB _ hb,fun i x hx=>let ⟨cs,hr,hcs⟩:=hc i x hx;⟨cs,Dat.rd_mono hB hr,hcs⟩⟩
theorem SlR.below {α:Type} [Dat α] {B:Nat→Prop} {w w':World} {v:Value} {xs:List α} (hb:Keep B w w') (h:SlR B w v xs):SlR B w' v xs:=by
 obtain⟨A,cap,rfl,h1,h2,h3⟩:=h
 refine⟨A,cap,rfl,h1,h2,fun hn=>?_⟩
 obtain⟨ad,rfl,hlt,hc⟩:=h3 hn
 exact⟨ad,rfl,hlt,fun i x hx=>let ⟨cs,hr,hcs⟩:=hc i x hx;⟨cs,Dat.rd_below hb hr,hcs.keep hb (by rw[Qms];exact hlt)⟩⟩
theorem Qi4 {Fs:List (List Nat)} {i:Nat} {G:List Nat} (h:Fs[i]?=some G) {b:Nat} (hb:b∈G):b∈Fs.flatten:=
 List.mem_flatten.2 ⟨G,mem_of_getElem? h,hb⟩
theorem SlO.rd {α:Type} [Dat α] {B:Nat→Prop} {w:World} {v:Value} {xs:List α} {F:List Nat} (h:SlO w v xs F) (hF: ∀ b∈F,B b):SlR B w v xs:=by
 rcases h with ⟨rfl,rfl,rfl⟩ | ⟨g,cap,arr,T,Fs,rfl,hg,h1,h2,h3,rfl,hl,hx⟩
 ·exact⟨none,0,rfl,by simp,by simp[maxLen],fun h=>absurd rfl h⟩
 ·refine⟨_,cap,rfl,h1,h2,fun _=>⟨_,rfl,hF g (by simp),fun i x hi=>?_⟩⟩
  obtain⟨G,hG,ho⟩:=hx i x hi
  refine⟨_,Dat.own_rd ho fun b hb=>hF b (mem_cons_of_mem _ (Qi4 hG hb)),?_⟩
  have hrow:Qcf w ⟨g,0,none⟩ arr.toList:=Qcf.row (by simpa using hg)
  exact hrow.part rfl
theorem SlO.same {α:Type} [Dat α] {w w':World} {v:Value} {xs:List α} {F:List Nat} (h:SlO w v xs F) (hF: ∀ b∈F,w'.heap[b]?=w.heap[b]?):SlO w' v xs F:=by
 rcases h with h | ⟨g,cap,arr,T,Fs,rfl,hg,h1,h2,h3,rfl,hl,hx⟩
 ·exact .inl h
 ·refine .inr ⟨g,cap,arr,T,Fs,rfl,(hF g (by simp)).trans hg,h1,h2,h3,rfl,hl,fun i x hi=>?_⟩
  obtain⟨G,hG,ho⟩:=hx i x hi
  exact⟨G,hG,Dat.own_same ho fun b hb=>hF b (mem_cons_of_mem _ (Qi4 hG hb))⟩
theorem SlO.lt {α:Type} [Dat α] {w:World} {v:Value} {xs:List α} {F:List Nat} (h:SlO w v xs F): ∀ b∈F,b<w.heap.size:=by
 rcases h with ⟨_,_,rfl⟩ | ⟨g,cap,arr,T,Fs,rfl,hg,h1,h2,h3,rfl,hl,hx⟩
 ·intro b hb;cases hb
 ·intro b hb
  rcases List.mem_cons.1 hb with rfl | hb
  ·exact(Array.getElem?_eq_some_iff.1 hg).1
  ·obtain⟨G,hG,hbG⟩:=List.mem_flatten.1 hb
   obtain⟨i,hi⟩:=List.getElem?_of_mem hG
   have hil:i<xs.length:=by rw[←hl];exact(List.getElem?_eq_some_iff.1 hi).1
   obtain⟨G',hG',ho⟩:=hx i xs[i] (getElem?_eq_getElem hil)
   rw[hi] at hG'
   cases hG'
   exact Dat.own_lt ho b hbG
instance {α:Type} [Dat α]:Dat (List α) where
 sz:=1
 sz_pos':=by decide
 rd B w cs xs:= ∃ v,cs=[v]∧SlR B w v xs
 rd_len:=by rintro B w cs x ⟨v,rfl,_⟩;rfl
 rd_mono:=by rintro B B' w cs x h ⟨v,rfl,hv⟩;exact⟨v,rfl,hv.mono h⟩
 rd_below:=by rintro B w w' cs x h ⟨v,rfl,hv⟩;exact⟨v,rfl,hv.below h⟩
 own w cs xs F:= ∃ v,cs=[v]∧SlO w v xs F
 own_rd:=by rintro B w cs x F ⟨v,rfl,hv⟩ hF;exact⟨v,rfl,hv.rd hF⟩
 own_same:=by rintro w w' cs x F ⟨v,rfl,hv⟩ hF;exact⟨v,rfl,hv.same hF⟩
 own_lt:=by rintro w cs x F ⟨v,rfl,hv⟩;exact hv.lt
 good xs:=xs.length≤9223372036854775807∧ ∀ x∈xs,Dat.good x
 rd_good:=by
  rintro B w cs xs ⟨v,rfl,A,cap,_,hl1,hl2,h⟩
  refine⟨by unfold maxLen at hl2;omega,fun x hx=>?_⟩
  obtain⟨ad,_,_,hc⟩:=h (by intro e;rw[e] at hx;cases hx)
  obtain⟨i,hi⟩:=List.getElem?_of_mem hx
  obtain⟨cs,hr,_⟩:=hc i x hi
  exact Dat.rd_good hr
 small n xs:=xs.length≤n∧ ∀ x∈xs,Dat.small n x
 rd_one:=by
  rintro B w cs xs ⟨v,rfl,A,cap,rfl,_⟩ u hu
  simp at hu
  rw[hu]
  rfl
section
variable {α:Type} [Dat α] {B:Nat→Prop} {w:World} {v:Value} {xs:List α}
theorem SlR.form (h:SlR B w v xs): ∃ (A:Option Addr) (cap:Nat),v= .slice A xs.length cap∧xs.length≤9223372036854775807:=by
 obtain⟨A,cap,rfl,h1,h2,_⟩:=h
 exact⟨A,cap,rfl,by unfold maxLen at h2;omega⟩
def nth {α:Type} [Inhabited α] (xs:List α) (k:Nat):α:=xs.getD k default
theorem Qcv [Inhabited α] {N:Nat} (h:Dat.small N xs) {k:Nat} (hk:k<xs.length):Dat.small N (nth xs k):=by
 simp only[nth,List.getD_eq_getElem?_getD,getElem?_eq_getElem hk,Option.getD_some]
 exact h.2 _ (List.getElem_mem hk)
theorem Qai [Inhabited α] (h:Dat.good xs) {k:Nat} (hk:k<xs.length):Dat.good (nth xs k):=by
 simp only[nth,List.getD_eq_getElem?_getD,getElem?_eq_getElem hk,Option.getD_some]
 exact h.2 _ (List.getElem_mem hk)
theorem SlR.elem [Inhabited α] {A:Option Addr} {len cap:Nat} (h:SlR B w (.slice A len cap) xs) {k:Nat} (hk:k<xs.length):
  ∃ ad cs,A=some ad∧len=xs.length∧Dat.rd B w cs (nth xs k)∧Qcf w (ad.add (k*Dat.sz α)) cs∧B ad.block:=by
 obtain⟨A',cap',he,h1,h2,h3⟩:=h
 simp only[Value.slice.injEq] at he
 obtain⟨rfl,rfl,rfl⟩:=he
 obtain⟨ad,rfl,hb,hc⟩:=h3 (by intro e;rw[e] at hk;simp at hk)
 obtain⟨cs,hr,hcs⟩:=hc k xs[k] (getElem?_eq_getElem hk)
 refine⟨ad,cs,rfl,rfl,?_,hcs,hb⟩
 simp only[nth,List.getD_eq_getElem?_getD,getElem?_eq_getElem hk,Option.getD_some]
 exact hr
end
structure Ck where
 F:List Nat
 p:World→Prop
def Ck.ok (c:Ck) (w:World):Prop:= ∀ w',(∀ b∈c.F,w'.heap[b]?=w.heap[b]?)→c.p w'
theorem Ck.ok.here {c:Ck} {w:World} (h:c.ok w):c.p w:=h w fun _ _=>rfl
theorem Ck.ok.same {c:Ck} {w w':World} (h:c.ok w) (hs: ∀ b∈c.F,w'.heap[b]?=w.heap[b]?):c.ok w':=fun w2 h2=>h w2 fun b hb=>(h2 b hb).trans (hs b hb)
def Ck.var (b:Nat) (cs:List Value) (T:TypeId):Ck:=⟨[b],fun w=>w.heap[b]?=some (.cells cs.toArray T (0,0))⟩
def Ck.own {α:Type} [Dat α] (cs:List Value) (x:α) (F:List Nat):Ck:=⟨F,fun w=>Dat.own w cs x F⟩
structure SH (S:Nat→Prop) (w0 w:World) (L:List Ck):Prop where
 keep:Keep S w0 w
 dom: ∀ b,S b→b<w0.heap.size
 ok: ∀ c∈L,c.ok w
 ge: ∀ c∈L,∀ b∈c.F,¬ S b∧b<w.heap.size
 apart:(L.flatMap (·.F)).Nodup
section
variable {S:Nat→Prop} {w0 w w':World} {L:List Ck}
theorem SH.start (w:World):SH (Old w) w w []:=⟨Keep.refl _ _,fun _ h=>h,fun _ h=>(by cases h),fun _ h=>(by cases h),by simp⟩
theorem SH.below (h:SH (Old w0) w0 w L):Below w0.heap.size w0 w:=h.keep.below
theorem SH.size (h:SH S w0 w L):w0.heap.size≤w.heap.size:=h.keep.size
theorem SH.same (h:SH S w0 w L) (hb:Below w.heap.size w w'):SH S w0 w' L:=
 ⟨h.keep.trans (Keep.of_below hb fun b hb=>by have:=h.dom b hb;have:=h.size;omega),h.dom,fun c hc=>(h.ok c hc).same fun b hbF=>hb.block b (h.ge c hc b hbF).2,fun c hc b hbF=>⟨(h.ge c hc b hbF).1,by have:=(h.ge c hc b hbF).2;have:=hb.size;omega⟩,h.apart⟩
theorem SH.call (h:SH S w0 w L) (hb:Below w.heap.size w w') {c:Ck} (hok:c.ok w') (hge: ∀ b∈c.F,w.heap.size≤b∧b<w'.heap.size) (hn:c.F.Nodup):SH S w0 w' (c::L):=by
 have hs:=h.same hb
 refine⟨hs.keep,h.dom,fun x hx=>?_,fun x hx b hbF=>?_,?_⟩
 ·rcases List.mem_cons.1 hx with rfl | hx
  ·exact hok
  ·exact hs.ok x hx
 ·rcases List.mem_cons.1 hx with rfl | hx
  ·exact⟨fun hSb=>by have:=h.dom b hSb;have:=(hge b hbF).1;have:=h.size;omega,(hge b hbF).2⟩
  ·exact hs.ge x hx b hbF
 ·rw[flatMap_cons]
  refine List.nodup_append.2 ⟨hn,hs.apart,fun x hx y hy=>?_⟩
  rintro rfl
  obtain⟨c',hc',hx'⟩:=mem_flatMap.1 hy
  have h1:=(hge x hx).1
  have h2:=(h.ge c' hc' x hx').2
  omega
theorem SH.alloc (h:SH S w0 w L) (cs:List Value) (T:TypeId):SH S w0 (w.alloc (.cells cs.toArray T)) (Ck.var w.heap.size cs T::L):=by
 refine h.call ((Below.refl _ _).alloc (Nat.le_refl _) _) (c:=Ck.var w.heap.size cs T) ?_ ?_ ?_
 ·intro w2 h2
  exact(h2 w.heap.size (by simp[Ck.var])).trans (heap_alloc_new w _)
 ·intro b hb
  simp only[Ck.var,mem_singleton] at hb
  subst hb
  simp
 ·simp[Ck.var]
theorem SH.drew (h:SH S w0 w L):SH S w0 w.drew L:=⟨⟨h.keep.os,h.keep.tape,h.keep.output,h.keep.size,h.keep.block⟩,h.dom,h.ok,h.ge,h.apart⟩
theorem SH.get (h:SH S w0 w L) {k:Nat} {c:Ck} (hk:L[k]?=some c):c.p w:=(h.ok c (mem_of_getElem? hk)).here
theorem SH.cells (h:SH S w0 w L) {k b:Nat} {cs:List Value} {T:TypeId} (hk:L[k]?=some (Ck.var b cs T)):Qcf w ⟨b,0,none⟩ cs:=Qcf.row (h.get hk)
theorem Qbs {L:List Ck}:(L.flatMap (·.F)).Nodup↔(∀ (i:Nat) c,L[i]?=some c→c.F.Nodup)∧ ∀ (i j:Nat) c d,L[i]?=some c→L[j]?=some d→i≠j→ ∀ b∈c.F,b ∉ d.F:=by
 induction L with
 | nil=>simp
 | cons x L ih =>
  rw[flatMap_cons,List.nodup_append,ih]
  constructor
  ·rintro ⟨h1,⟨h2,h3⟩,h4⟩
   refine⟨fun i c hi=>?_,fun i j c d hi hj hij b hb hbd=>?_⟩
   ·cases i with
    | zero=>simp at hi;subst hi;exact h1
    | succ i=>exact h2 i c (by simpa using hi)
   ·cases i with
    | zero =>
     cases j with
     | zero=>exact hij rfl
     | succ j =>
      simp at hi hj
      subst hi
      exact h4 b hb b (mem_flatMap.2 ⟨d,mem_of_getElem? hj,hbd⟩) rfl
    | succ i =>
     cases j with
     | zero =>
      simp at hi hj
      subst hj
      exact h4 b hbd b (mem_flatMap.2 ⟨c,mem_of_getElem? hi,hb⟩) rfl
     | succ j=>exact h3 i j c d (by simpa using hi) (by simpa using hj) (by omega) b hb hbd
  ·rintro ⟨h1,h2⟩
   refine⟨h1 0 x rfl,⟨fun i c hi=>h1 (i+1) c (by simpa using hi),fun i j c d hi hj hij=>h2 (i+1) (j+1) c d (by simpa using hi) (by simpa using hj) (by omega)⟩,?_⟩
   rintro b hb b' hb' rfl
   obtain⟨d,hd,hbd⟩:=mem_flatMap.1 hb'
   obtain⟨j,hj⟩:=List.getElem?_of_mem hd
   exact h2 0 (j+1) x d rfl (by simpa using hj) (by omega) b hb hbd
theorem SH.turn (h:SH S w0 w L) {k:Nat} {c c':Ck} (hk:L[k]?=some c) (hos:w'.os=w.os) (htape:w'.tape=w.tape) (hout:w'.output=w.output) (hsize:w.heap.size≤w'.heap.size)
  (hsame: ∀ b,b<w.heap.size→b ∉ c.F→w'.heap[b]?=w.heap[b]?) (hok:c'.ok w') (hF: ∀ b∈c'.F,(b∈c.F∨w.heap.size≤b)∧b<w'.heap.size) (hn:c'.F.Nodup):SH S w0 w' (L.set k c'):=by
 have hkl:k<L.length:=(List.getElem?_eq_some_iff.1 hk).1
 have hcm:=mem_of_getElem? hk
 have hap:=Qbs.1 h.apart
 have hget: ∀ (i:Nat) d,(L.set k c')[i]?=some d→(i=k∧d=c')∨(i≠k∧L[i]?=some d):=by
  intro i d hi
  rw[List.getElem?_set] at hi
  by_cases e:k=i
  ·subst e
   simp[hkl] at hi
   exact .inl ⟨rfl,hi.symm⟩
  ·rw[if_neg e] at hi
   exact .inr ⟨fun e'=>e e'.symm,hi⟩
 have hother: ∀ (i:Nat) d,i≠k→L[i]?=some d→ ∀ b∈d.F,w'.heap[b]?=w.heap[b]?:=fun i d hik hi b hb=>
  hsame b (h.ge d (mem_of_getElem? hi) b hb).2 (hap.2 i k d c hi hk hik b hb)
 refine⟨?_,h.dom,?_,?_,?_⟩
 ·exact h.keep.trans ⟨hos,htape,hout,hsize,fun b hb=>hsame b (by have:=h.dom b hb;have:=h.size;omega) fun hbF=>(h.ge c hcm b hbF).1 hb⟩
 ·intro d hd
  obtain⟨i,hi⟩:=List.getElem?_of_mem hd
  rcases hget i d hi with ⟨_,rfl⟩ | ⟨hik,hi⟩
  ·exact hok
  ·exact(h.ok d (mem_of_getElem? hi)).same (hother i d hik hi)
 ·intro d hd b hb
  obtain⟨i,hi⟩:=List.getElem?_of_mem hd
  rcases hget i d hi with ⟨_,rfl⟩ | ⟨hik,hi⟩
  ·obtain⟨h1,h2⟩:=hF b hb
   refine⟨?_,h2⟩
   rcases h1 with h1 | h1
   ·exact(h.ge c hcm b h1).1
   ·intro hSb;have:=h.dom b hSb;have:=h.size;omega
  ·have:=h.ge d (mem_of_getElem? hi) b hb
   exact⟨this.1,by omega⟩
 ·refine Qbs.2 ⟨fun i d hi=>?_,fun i j d e hi hj hij b hb hbe=>?_⟩
  ·rcases hget i d hi with ⟨_, rfl⟩ | ⟨hik, hi⟩
   ·exact hn
   ·exact hap.1 i d hi
  ·rcases hget i d hi with ⟨hik, hd⟩ | ⟨hik, hi'⟩
   ·rcases hget j e hj with ⟨hjk, _⟩ | ⟨hjk, hj'⟩
    ·exact hij (by omega)
    ·rw[hd] at hb
     rcases(hF b hb).1 with h1 | h1
     ·exact hap.2 k j c e hk hj' (by omega) b h1 hbe
     ·have:=(h.ge e (mem_of_getElem? hj') b hbe).2;omega
   ·rcases hget j e hj with ⟨hjk, he⟩ | ⟨hjk, hj'⟩
    ·rw[he] at hbe
     rcases(hF b hbe).1 with h1 | h1
     ·exact hap.2 i k d c hi' hk (by omega) b hb h1
     ·have:=(h.ge d (mem_of_getElem? hi') b hb).2;omega
    ·exact hap.2 i j d e hi' hj' hij b hb hbe
theorem SH.drop (h:SH S w0 w L) {k:Nat}:SH S w0 w (L.drop k):=
 ⟨h.keep, h.dom, fun c hc => h.ok c (List.mem_of_mem_drop hc), fun c hc => h.ge c (List.mem_of_mem_drop hc), Qbs.2 ⟨fun i c hi => (Qbs.1 h.apart).1 (k + i) c (by rw [← hi, getElem?_drop]),
  fun i j c d hi hj hij=>(Qbs.1 h.apart).2 (k+i) (k+j) c d (by rw[←hi,getElem?_drop]) (by rw[←hj,getElem?_drop]) (by omega)⟩⟩
end
section
variable {S:Nat→Prop} {w0 w w':World} {L:List Ck}
theorem SH.up {α:Type} [Dat α] (h:SH S w0 w L) {v:Value} {xs:List α} (hv:SlR S w0 v xs):SlR (Old w) w v xs:=(hv.below h.keep).mono fun b hb=>by have:=h.dom b hb;have:=h.size;show b<w.heap.size;omega
end
section
variable {P:Program} {ops:Array Oper} {Q:Exit→Act→World→Prop} {n:Nat} {ρ:List (Nat×Value)} {a:Act} {S:Nat→Prop} {w0 w:World} {L:List Ck} {rest:List Oper} {d:Nat} {ty:TypeId} {pos:String} {after:Array Edge}
theorem Ybc (hE:Env n ρ a) (hS:SH S w0 w L) {T:TypeId} {x:Operand} {v:Value} {cs:List Value} (hx:ev? ρ x=some v) (hcs:v.cells=cs.toArray) (hd:Nat.blt d n=true)
  (K: ∀ b w',SH S w0 w' (Ck.var b cs T::L)→ ∀ a,Env n ((d,.pointer (some ((⟨b,0,none⟩:Addr).add 0)))::ρ) a→wpList P ops Q rest a w'):
  wpList P ops Q (⟨some d,.box T x,ty,pos,after,none⟩::rest) a w:=by
 refine wpList_plain rfl fun K' hK=>?_
 unfold Oper.wp
 have:(execOp a.eval ⟨some d,.box T x,ty,pos,after,none⟩).run P w= .ok (.value (.pointer (some ((⟨w.heap.size,0,none⟩:Addr).add 0)))) (w.alloc (.cells cs.toArray T)):=by
  simp[execOp,Instr.box,newVar,newRow,hE.eval hx,hcs,Addr.add]
 rw[this]
 exact hK _ _ (K _ _ (hS.alloc cs T) _ (hE.put hd _))
theorem Ydl (hE:Env n ρ a) (hS:SH S w0 w L) {T:TypeId} {z:Value} {cs:List Value} (hz: ∀ w,(zeroValue T).run P w= .ok z w) (hcs:z.cells=cs.toArray) (hd:Nat.blt d n=true)
  (K: ∀ b w',SH S w0 w' (Ck.var b cs T::L)→ ∀ a,Env n ((d,.pointer (some ((⟨b,0,none⟩:Addr).add 0)))::ρ) a→wpList P ops Q rest a w'):
  wpList P ops Q (⟨some d,.alloc T,ty,pos,after,none⟩::rest) a w:=by
 refine wpList_plain rfl fun K' hK=>?_
 unfold Oper.wp
 have:(execOp a.eval ⟨some d,.alloc T,ty,pos,after,none⟩).run P w= .ok (.value (.pointer (some ((⟨w.heap.size,0,none⟩:Addr).add 0)))) (w.alloc (.cells cs.toArray T)):=by
  simp[execOp,Instr.alloc,newVar,newRow,hz,hcs,Addr.add]
 rw[this]
 exact hK _ _ (K _ _ (hS.alloc cs T) _ (hE.put hd _))
theorem Q2y (hE:Env n ρ a) (hS:SH S w0 w L) {f:FuncId} {fn:Func} {xs:Array Operand} {ts:Array TypeId} {vs:List Value} {v:Value}
    (hf:P.funcs[f]?=some fn) (hb:fn.body.isNone=false) (hn:(fn.name == "runtime.NumGoroutine")=false)
    (hc:Calls P f vs.toArray w (fun e w'=>e= .returned v∧Below w.heap.size w w')) (hx:xs.toList.map (ev? ρ)=vs.map some) (hd:Nat.blt d n=true)
    (k: ∀ w',SH S w0 w' L→ ∀ a,Env n ((d,v)::ρ) a→wpList P ops Q rest a w'):
    wpList P ops Q (⟨some d,.call { callee:= .value (.func f),args:=xs,argTypes:=ts },ty,pos,after,none⟩::rest) a w:=
  Qxw hE hf hb hn hx hc hd (fun _ _ h => ⟨v, h.1⟩) fun u w' h a' hE' => by
    obtain⟨h1,h2⟩:=h
    cases h1
    exact k w' (hS.same h2) a' hE'
end
section
variable {P:Program} {ops:Array Oper} {Q:Exit→Act→World→Prop} {n:Nat} {ρ:List (Nat×Value)} {a:Act} {S:Nat→Prop} {w0 w:World} {L:List Ck} {rest:List Oper} {d:Nat} {ty:TypeId} {pos:String} {after:Array Edge}
theorem Qu5 (hE:Env n ρ a) {x:Operand} {t k:Nat} {ad:Addr} {cs:List Value} (hx:ev? ρ x=some (.pointer (some (ad.add 0)))) (hc:Qcf w ad cs) (hk:cs.length=k)
  (ht:Qil P t k=true):Qb7 P a w (.load t x) ty (.agg cs.toArray):=by
 intro _ _ _ _
 rw[Addr.add_zero'] at hx
 simp[execOp,hE.eval hx,Instr.loadAt,Instr.sureAddr,Qpu hc ht hk]
end
section
variable {P:Program} {ops:Array Oper} {n:Nat} {ρ:List (Nat×Value)} {a:Act} {S:Nat→Prop} {w0 w:World} {L:List Ck} {rest:List Oper} {d:Nat} {op:Op} {ty:TypeId} {pos:String} {after:Array Edge} {R:Act→Prop}
end
section
variable {K:Act→World→Prop} {Q:Exit→Act→World→Prop} {a:Act} {w:World} {id id':Nat}
theorem Qap (h:K a w):Exit.then K Q .normal a w:=h
theorem Q2x (h:Q .ret a w):Exit.then K Q .ret a w:=h
theorem Qse (h:Q (.exit id) a w):Exit.then K Q (.exit id) a w:=h
theorem Quv (h:Q .normal a w):Exit.inBlock id Q .normal a w:=h
theorem Q8y (h:Q .normal a w):Exit.inBlock id Q (.exit id) a w:=by simp only[Exit.inBlock,if_true];exact h
theorem Yen (hne:Nat.beq id' id=false) (h:Q (.exit id') a w):Exit.inBlock id Q (.exit id') a w:=by
 have:id'≠id:=fun e=>by subst e;simp at hne
 simp only[Exit.inBlock,this,if_false]
 exact h
end
section
variable {P:Program} {Q:Exit→Act→World→Prop} {a:Act} {w:World} {x y:Code}
theorem fin1 {fn:Func} {n:Nat} {ρ:List (Nat×Value)} {t:Nat} {v:Value} {R:Ending→World→Prop} (hE:Env n ρ a) (hr:fn.results= #[.tmp t]) (hv:lk? ρ t=some v) (h:R (.returned v) w):bodyPost P fn R .ret a w:=
 ⟨hE.defers,v,by rw[results_tmp hr,hE.get t v hv],h⟩
end
theorem if_t {α:Type} {b:Bool} {x y:α} (h:b=true):(if b=true then x else y)=x:=if_pos h
theorem if_f {α:Type} {b:Bool} {x y:α} (h:b=false):(if b=true then x else y)=y:=if_neg (by rw[h];decide)
section
variable {P:Program}
def Reads (P:Program) (t:TypeId) (α:Type) [Dat α]:Prop:=
 ∀ {H:Type} {enc:TypeId×Value→H} {W:World} {fuel:Nat} {cs:List Value} {x:DataW H×List MemPlace},DataW.trod enc P W 0 (fun _=>true) true fuel t cs=some x→ ∃ a:α,Dat.rd (Old W) W cs a
theorem Ybk {t:TypeId} (ht:P.underlying t=some (.int .i64)):Reads P t Int:=by
 intro H enc W fuel cs x h
 obtain⟨n,rfl,_,hw⟩:=DataW.trod_int ht h
 refine⟨n,rfl,?_⟩
 simp[Lit.wf,IntKind.min,IntKind.max,IntKind.signed,IntKind.bits] at hw
 unfold I64
 omega
theorem Yab {t:TypeId} (ht:P.underlying t=some .bool):Reads P t Bool:=by
 intro H enc W fuel cs x h
 obtain⟨b,rfl,_⟩:=DataW.trod_bool ht h
 exact⟨b,rfl,trivial⟩
theorem Q5q {t:TypeId} (ht:P.underlying t=some .string):Reads P t ByteArray:=by
 intro H enc W fuel cs x h
 obtain⟨s,rfl,_,hs⟩:=DataW.trod_string ht h
 exact⟨s,rfl,hs⟩
theorem Q7g {α:Type} (n:Nat) (p:Nat→α→Prop) (h: ∀ i,i<n→ ∃ a,p i a): ∃ l:List α,l.length=n∧ ∀ i a,l[i]?=some a→p i a:=by
 induction n with
 | zero=>exact⟨[],rfl,fun i a h=>by simp at h⟩
 | succ n ih =>
  obtain⟨l,hl,hp⟩:=ih fun i hi=>h i (by omega)
  obtain⟨a,ha⟩:=h n (by omega)
  refine⟨l++[a],by simp[hl],fun i b hb=>?_⟩
  rw[List.getElem?_append] at hb
  split at hb
  ·exact hp i b hb
  ·rename_i hi
   have:i=n:=by
    have:=(List.getElem?_eq_some_iff.1 hb).1
    simp at this
    omega
   subst this
   simp[hl] at hb
   subst hb
   exact ha
theorem Qhv {t e sz bytes:Nat} {α:Type} [Dat α] (ht:Qeh P t e sz bytes=true) (hsz:P.cellsOf e=Dat.sz α) (he:Reads P e α):Reads P t (List α):=by
  intro H enc W fuel cs x h
  rcases Deep.open_slice (Qbd ht).1 h with ⟨rfl,_⟩ | ⟨a,len,cap,m,n,D,Pl,rfl,hb,hl,hm,hmm,_,hx⟩
  · exact⟨[],_,rfl,none,0,rfl,by simp,by simp[maxLen],fun h=>absurd rfl h⟩
  · have hlm : len ≤ m := by simp at hmm; omega
    obtain ⟨l, hll, hp⟩ := Q7g (α := α) len (fun i a' => ∃ cs, Dat.rd (Old W) W cs a' ∧ Qcf W (a.add (i * Dat.sz α)) cs) (fun i hi => by
      obtain⟨cs',h1,h2⟩:=hx i (by omega)
      obtain⟨a',ha'⟩:=he h2
      obtain⟨_,hlen,hc⟩:=World.cells?_some h1
      refine⟨a',cs',ha',fun j v hv=>?_⟩
      rw[←hsz,hc j (by have:=(List.getElem?_eq_some_iff.1 hv).1;omega)]
      exact hv)
    refine⟨l,_,rfl,some a,cap,by rw[hll],by omega,hm,fun hn=>⟨a,rfl,?_,hp⟩⟩
    have hpos:0<len:=by rw[←hll];exact List.length_pos_iff.2 hn
    obtain⟨cs',h1,h2⟩:=hx 0 (by omega)
    obtain⟨_,hlen,hc⟩:=World.cells?_some h1
    obtain⟨a',ha'⟩:=he h2
    have hszp:0<P.cellsOf e∨P.cellsOf e=0:=by omega
    rcases hszp with hp0 | hp0
    · have h0 := hc 0 hp0
      cases hv:cs'[0]? with
      | none=>rw[List.getElem?_eq_none_iff] at hv;omega
      | some u =>
        rw[hv] at h0
        have:=World.block_lt_of_cell? W _ h0
        simpa [Qms] using this
    · exact absurd hp0 (by rw[hsz];exact Nat.pos_iff_ne_zero.1 (Dat.sz_pos α))
theorem Qdp {α β:Type} [Dat α] [Dat β] {B:Nat→Prop} {w:World} {cs:List Value} {o:Nat} {x:α} {y:β} (h1:Dat.rd B w ((cs.drop o).take (Dat.sz α)) x) (h2:Dat.rd B w ((cs.drop (o+Dat.sz α)).take (Dat.sz β)) y):
  Dat.rd B w ((cs.drop o).take (Dat.sz (α×β))) (x,y):=by
 refine⟨_,_,?_,h1,h2⟩
 show(cs.drop o).take (Dat.sz α+Dat.sz β)=_
 rw[List.take_add,List.drop_drop]
theorem Qat {t f o:Nat} {α:Type} [Dat α] {fd:TypeId} (hc:Qa6 P t f o fd (Dat.sz α)=true) (he:Reads P fd α) {H:Type} {enc:TypeId×Value→H} {W:World} {fuel:Nat} {cs:List Value} {x:DataW H×List MemPlace}
  (h:DataW.trod enc P W 0 (fun _=>true) true fuel t cs=some x): ∃ a:α,Dat.rd (Old W) W ((cs.drop o).take (Dat.sz α)) a:=by
 obtain⟨fs,fld,hu,hf,ho,hfd,hsz⟩:=Qq5 hc
 obtain⟨xs,n,_,_,_,hlen,hx⟩:=DataW.trod_struct hu h
 have:=hx f fld hf
 have hlt:f<xs.length:=by rw[hlen];exact(Array.getElem?_eq_some_iff.1 hf).1
 rw[getElem?_eq_getElem hlt,ho,hfd,hsz] at this
 exact he this
theorem Qhk {t n:Nat} (hc:Qil P t n=true) {fs:Array Field} (hu:P.underlying t=some (.struct fs)) {H:Type} {enc:TypeId×Value→H} {W:World} {fuel:Nat} {cs:List Value} {x:DataW H×List MemPlace}
  (h:DataW.trod enc P W 0 (fun _=>true) true fuel t cs=some x):cs.length=n:=by
 obtain⟨_,_,_,_,hl,_⟩:=DataW.trod_struct hu h
 rw[hl]
 unfold Qil at hc
 simp only[Bool.and_eq_true] at hc
 cases hi:P.info? t with
 | none=>rw[hi] at hc;simp at hc
 | some i =>
  rw[hi] at hc
  simp[Program.cellsOf,hi,Nat.eq_of_beq_eq_true hc.2]
end
end
section
structure Cell where
 Key:ByteArray
 Val:ByteArray
 deriving Inhabited,DecidableEq
instance:Dat Cell:=Dat.pull fun x=>(x.Key,x.Val)
structure Touch where
 Reads:List ByteArray
 Writes:List ByteArray
 deriving Inhabited,DecidableEq
instance:Dat Touch:=Dat.pull fun x=>(x.Reads,x.Writes)
structure Mach where
 Store:List Cell
 Touch:Touch
 deriving Inhabited,DecidableEq
instance:Dat Mach:=Dat.pull fun x=>(x.Store,x.Touch)
structure Call where
 Kind:Int
 Name:ByteArray
 To:ByteArray
 A:Int
 B:Int
 Text:ByteArray
 deriving Inhabited,DecidableEq
instance:Dat Call:=Dat.pull fun x=>(x.Kind,x.Name,x.To,x.A,x.B,x.Text)
structure Answer where
 Code:Int
 N:Int
 Text:ByteArray
 deriving Inhabited,DecidableEq
instance:Dat Answer:=Dat.pull fun x=>(x.Code,x.N,x.Text)
structure Step where
 Proc:Int
 Call:Call
 deriving Inhabited,DecidableEq
instance:Dat Step:=Dat.pull fun x=>(x.Proc,x.Call)
structure Tx where
 Id:Int
 Age:Int
 Proc:Int
 Began:Int
 Calls:List Call
 Answers:List Answer
 Touch:Touch
 Marks:List Int
 State:Int
 deriving Inhabited,DecidableEq
instance:Dat Tx:=Dat.pull fun x=>(x.Id,x.Age,x.Proc,x.Began,x.Calls,x.Answers,x.Touch,x.Marks,x.State)
structure Journal where
 Text:ByteArray
 Sure:Int
 deriving Inhabited,DecidableEq
instance:Dat Journal:=Dat.pull fun x=>(x.Text,x.Sure)
structure Slot where
 Seq:Int
 Cells:List Cell
 Whole:Bool
 deriving Inhabited,DecidableEq
instance:Dat Slot:=Dat.pull fun x=>(x.Seq,x.Cells,x.Whole)
structure Disk where
 Slots:List Slot
 Journal:Journal
 deriving Inhabited,DecidableEq
instance:Dat Disk:=Dat.pull fun x=>(x.Slots,x.Journal)
structure Entry where
 Seq:Int
 Kind:Int
 Tx:Int
 Steps:List Step
 Answers:List Answer
 Began:Int
 Ended:Int
 Laid:Bool
 deriving Inhabited,DecidableEq
instance:Dat Entry:=Dat.pull fun x=>(x.Seq,x.Kind,x.Tx,x.Steps,x.Answers,x.Began,x.Ended,x.Laid)
structure Kernel where
 Store:List Cell
 Txs:List Tx
 Disk:Disk
 Seq:Int
 Next:Int
 Time:Int
 History:List Entry
 Seen:List ByteArray
 Room:Bool
 deriving Inhabited,DecidableEq
instance:Dat Kernel:=Dat.pull fun x=>(x.Store,x.Txs,x.Disk,x.Seq,x.Next,x.Time,x.History,x.Seen,x.Room)
structure Deed where
 Kind:Int
 N:Int
 M:Int
 Call:Call
 deriving Inhabited,DecidableEq
instance:Dat Deed:=Dat.pull fun x=>(x.Kind,x.N,x.M,x.Call)
end
section
abbrev cut (sz:Nat) (l:List Value) (i:Nat):List Value:=(l.drop (i*sz)).take sz
theorem Qj8 {sz n i:Nat} {l r:List Value} (hl:l.length=n*sz) (hi:i<n):cut sz (l++r) i=cut sz l i:=by
 unfold cut
 have h1:i*sz+sz≤n*sz:=by have:(i+1)*sz≤n*sz:=Nat.mul_le_mul_right _ hi;rw[Nat.add_mul] at this;omega
 rw[List.drop_append_of_le_length (by omega),List.take_append_of_le_length (by rw[length_drop];omega)]
theorem Qli {sz n i:Nat} {l r:List Value} (hl:l.length=n*sz) (hi:n≤i):cut sz (l++r) i=cut sz r (i - n):=by
 unfold cut
 have h1:n*sz≤i*sz:=Nat.mul_le_mul_right _ hi
 rw[List.drop_append,List.drop_eq_nil_of_le (by omega),List.nil_append,hl,←Nat.sub_mul]
theorem Qos {sz n i:Nat} {l:List Value} (hi:i<n):cut sz (l.take (n*sz)) i=cut sz l i:=by
 unfold cut
 have h1:i*sz+sz≤n*sz:=by have:(i+1)*sz≤n*sz:=Nat.mul_le_mul_right _ hi;rw[Nat.add_mul] at this;omega
 rw[List.drop_take,List.take_take,Nat.min_eq_left (by omega)]
def Qke {α:Type} [Dat α] (w:World) (l:List Value) (xs:List α) (Fs:List (List Nat)):Prop:=
 Fs.length=xs.length∧ ∀ i x,xs[i]?=some x→ ∃ G,Fs[i]?=some G∧Dat.own w (cut (Dat.sz α) l i) x G
section
variable {α:Type} [Dat α] {w w':World} {l:List Value} {xs ys:List α} {Fs Gs:List (List Nat)}
theorem Qke.nil:Qke w l ([]:List α) []:=⟨rfl,fun i x h=>by simp at h⟩
theorem Qke.same (h:Qke w l xs Fs) (hs: ∀ b∈Fs.flatten,w'.heap[b]?=w.heap[b]?):Qke w' l xs Fs:=
 ⟨h.1,fun i x hi=>let ⟨G,hG,ho⟩:=h.2 i x hi;⟨G,hG,Dat.own_same ho fun b hb=>hs b (Qi4 hG hb)⟩⟩
theorem Qke.lt (h:Qke w l xs Fs): ∀ b∈Fs.flatten,b<w.heap.size:=by
 intro b hb
 obtain⟨G,hG,hbG⟩:=List.mem_flatten.1 hb
 obtain⟨i,hi⟩:=List.getElem?_of_mem hG
 have hil:i<xs.length:=by rw[←h.1];exact(List.getElem?_eq_some_iff.1 hi).1
 obtain⟨G',hG',ho⟩:=h.2 i xs[i] (getElem?_eq_getElem hil)
 rw[hi] at hG'
 cases hG'
 exact Dat.own_lt ho b hbG
theorem Qke.app {l' r:List Value} (h:Qke w l xs Fs) (h':Qke w l' ys Gs) (hr:r.take ((xs.length+ys.length)*Dat.sz α)=l.take (xs.length*Dat.sz α)++l') (hl:xs.length*Dat.sz α≤l.length):Qke w r (xs++ys) (Fs++Gs):=by
 refine⟨by rw[length_append,length_append,h.1,h'.1],fun i x hi=>?_⟩
 have hlen:(l.take (xs.length*Dat.sz α)).length=xs.length*Dat.sz α:=by rw[List.length_take];omega
 have hix:i<xs.length+ys.length:=by have:=(List.getElem?_eq_some_iff.1 hi).1;simpa using this
 have hcut:cut (Dat.sz α) r i=cut (Dat.sz α) (l.take (xs.length*Dat.sz α)++l') i:=by rw[←hr,Qos hix]
 rw[List.getElem?_append] at hi
 split at hi
 ·rename_i hlt
  obtain⟨G,hG,ho⟩:=h.2 i x hi
  refine⟨G,?_,?_⟩
  ·rw[List.getElem?_append_left (by rw[h.1];exact hlt)];exact hG
  ·rw[hcut,Qj8 hlen hlt,Qos hlt];exact ho
 ·rename_i hge
  obtain⟨G,hG,ho⟩:=h'.2 _ x hi
  refine⟨G,?_,?_⟩
  ·rw[List.getElem?_append_right (by rw[h.1];omega),h.1];exact hG
  ·rw[hcut,Qli hlen (by omega)];exact ho
theorem Qhj {v:Value} {F:List Nat}:SlO w v xs F↔(v= .slice none 0 0∧xs=[]∧F=[]) ∨
 ∃ (g cap:Nat) (arr:Array Value) (T:TypeId) (Fs:List (List Nat)),v= .slice (some ⟨g,0,none⟩) xs.length cap∧w.heap[g]?=some (.cells arr T (0,0))∧xs.length≤cap∧cap≤maxLen∧cap*Dat.sz α≤arr.size∧
  F=g::Fs.flatten∧Qke w arr.toList xs Fs:=Iff.rfl
end
section
variable {P:Program} {α:Type} [Dat α] {w:World}
def Src (w:World) (s:Value) (m:Nat) (news:List Value):Prop:=
 ∃ (S:Option Addr) (c:Nat),s= .slice S m c∧ ∀ j u,news[j]?=some u→ ∃ a,S=some a∧w.cell? (a.add j)=some u
theorem Src.first {s:Value} {m size:Nat} {news:List Value} (h:Src w s m news) (hl:news.length=m*size):(Builtin.firstCells size m s).run P w= .ok news.toArray w:=by
 obtain⟨S,c,rfl,hc⟩:=h
 cases S with
 | none =>
  have:news=[]:=by
   cases news with
   | nil=>rfl
   | cons u r=>obtain⟨a,ha,_⟩:=hc 0 u rfl;cases ha
  subst this
  simp[Builtin.firstCells]
 | some a =>
  refine run_firstCells_some (P:=P) w size m a m c news hl fun j v hv=>?_
  obtain⟨a',ha,hcell⟩:=hc j v hv
  cases ha
  exact hcell
theorem Qwn {cs:List Value}:(∀ u∈cs,u.oneCell'=true)↔cs.all Value.oneCell'=true:=by simp
theorem Qt2 {t e ty sz bytes:Nat} {z:Value} (ht:Qeh P t e sz bytes=true) (hsz:sz=Dat.sz α) (hz: ∀ w,(zeroValue e).run P w= .ok z w) (hzs:z.cells.size=sz) {v s:Value} {xs ys:List α} {F:List Nat} (hv:SlO w v xs F) (hF:F.Nodup)
  {news:List Value} {Gs:List (List Nat)} (hs:Src w s ys.length news) (hl:news.length=ys.length*Dat.sz α) (h1: ∀ u∈news,u.oneCell'=true) (hy:Qke w news ys Gs) (hG:Gs.flatten.Nodup) (hdis: ∀ b∈Gs.flatten,b ∉ F)
  (hb:(xs.length+ys.length)*bytes≤140737488355328) (hm:xs.length+ys.length≤maxLen):
  ∃ v' w' F',(Builtin.append_ #[t,t] ty #[v,s]).run P w= .ok v' w'∧SlO w' v' (xs++ys) F'∧F'.Nodup∧w'.os=w.os∧w'.tape=w.tape∧w'.output=w.output∧w.heap.size≤w'.heap.size∧
   (∀ b,b<w.heap.size→b ∉ F→w'.heap[b]?=w.heap[b]?)∧(∀ b∈F',b∈F∨b∈Gs.flatten∨w.heap.size≤b):=by
 obtain⟨hu,i,hi,his,hib⟩:=Qbd ht
 have hzi:i.zero=some z:=by
  have:=hz w
  simp only[zeroValue,Sem.run_bind,typeInfo,run_program,hi,Sem.run_pure,Result.andThen_ok] at this
  cases hzz:i.zero with
  | none=>rw[hzz] at this;simp at this
  | some z'=>rw[hzz] at this;simp at this;rw[this]
 have hfirst:=hs.first (P:=P) hl
 have hfirst2:=Src.first (P:=P) (w:=w.drew) (show Src w.drew s ys.length news from hs) hl
 obtain⟨S,c,rfl,_⟩:=id hs
 subst his
 have hszp:0<Dat.sz α:=Dat.sz_pos α
 have grow: ∀ (old:Nat) (olds:List Value) (Fs:List (List Nat)),old<xs.length+ys.length→olds.length=xs.length*Dat.sz α→Qke w olds xs Fs→(Fs.flatten++Gs.flatten).Nodup→(∀ b∈Fs.flatten,b∈F)→
   ∀ v' w',v'= .slice (some ⟨w.heap.size,0,none⟩) (xs.length+ys.length) (grownCap w (xs.length+ys.length) old e)→
    w'=w.drew.alloc (.cells (olds.toArray++news.toArray++Builtin.zeroCells z.cells (grownCap w (xs.length+ys.length) old e - (xs.length+ys.length))) e)→
    ∃ F',SlO w' v' (xs++ys) F'∧F'.Nodup∧w'.os=w.os∧w'.tape=w.tape∧w'.output=w.output∧w.heap.size≤w'.heap.size∧
     (∀ b,b<w.heap.size→b ∉ F→w'.heap[b]?=w.heap[b]?)∧(∀ b∈F',b∈F∨b∈Gs.flatten∨w.heap.size≤b):=by
  intro old olds Fs ho hlo hels hnd hsub v' w' ev ew
  subst ev
  subst ew
  have hge:=grownCap_ge w (xs.length+ys.length) old e
  have hcm:=grownCap_le_maxLen w (xs.length+ys.length) old e hm
  have hsame: ∀ (b:Nat),b<w.heap.size→(w.drew.alloc (.cells (olds.toArray++news.toArray++Builtin.zeroCells z.cells (grownCap w (xs.length+ys.length) old e - (xs.length+ys.length))) e)).heap[b]?=w.heap[b]?:=fun b hb=>heap_alloc_old w.drew _ hb
  have hltF:=hels.lt
  have hltG:=hy.lt
  refine⟨w.heap.size::(Fs++Gs).flatten,?_,?_,rfl,rfl,rfl,by simp,fun b hb _=>hsame b hb,?_⟩
  ·refine Qhj.2 (.inr ⟨w.heap.size,_,_,e,Fs++Gs,by rw[length_append],heap_alloc_new w.drew _,by rw[length_append];exact hge,hcm,?_,rfl,?_⟩)
   ·simp only[Array.size_append,List.size_toArray,size_zeroCells,hzs,hlo,hl,hsz]
    rw[←Nat.add_mul,←Nat.add_mul]
    exact Nat.mul_le_mul_right _ (by omega)
   ·refine(hels.same fun b hb=>hsame b (hltF b hb)).app (hy.same fun b hb=>hsame b (hltG b hb)) (l':=news) ?_ (by omega)
    simp only[Array.toList_append,append_assoc]
    rw[←append_assoc,List.take_append_of_le_length (by rw[length_append,hlo,hl,Nat.add_mul];exact Nat.le_refl _),List.take_of_length_le (by rw[length_append,hlo,hl,Nat.add_mul];exact Nat.le_refl _),
     List.take_of_length_le (by rw[hlo];exact Nat.le_refl _)]
  ·rw[List.flatten_append]
   refine List.nodup_cons.2 ⟨fun hb=>?_,hnd⟩
   rcases List.mem_append.1 hb with hb | hb
   ·exact absurd (hltF _ hb) (by omega)
   ·exact absurd (hltG _ hb) (by omega)
  ·intro b hb
   rw[List.flatten_append] at hb
   rcases List.mem_cons.1 hb with rfl | hb
   ·exact .inr (.inr (Nat.le_refl _))
   ·rcases List.mem_append.1 hb with hb | hb
    ·exact .inl (hsub b hb)
    ·exact .inr (.inl hb)
 rcases Qhj.1 hv with ⟨rfl,rfl,rfl⟩ | ⟨g,cap,arr,T,Fs,rfl,hg,hlc,hcm,hsize,rfl,hels⟩
 ·by_cases h0:ys.length=0
  ·have:ys=[]:=List.eq_nil_of_length_eq_zero h0
   subst this
   refine⟨.slice none 0 0,w,[],?_,Qhj.2 (.inl ⟨rfl,rfl,rfl⟩),by simp,rfl,rfl,rfl,Nat.le_refl _,fun _ _ _=>rfl,fun b hb=>by cases hb⟩
   simp only[length_nil] at hfirst ⊢
   simp[Builtin.append_,run_underlying hu,sizeOf,typeInfo,hi,Builtin.lenOf,hsz,hfirst]
  ·obtain⟨F',h⟩:=grow 0 [] [] (by simp;omega) (by simp) Qke.nil (by simpa using hG) (by simp) _ _ rfl rfl
   refine⟨_,_,F',?_,h⟩
   have h63': ¬ (9223372036854775807<(ys.length:Int)):=by simp only[List.length_nil,Nat.zero_add,maxLen] at hm;omega
   have h48': ¬ (281474976710656<Builtin.nextslicecap ys.length 0*i.bytes):=by rw[nextslicecap_zero (by omega),hib];simp only[List.length_nil,Nat.zero_add] at hb;omega
   simp only[length_nil,Nat.zero_add,Array.empty_append,List.toArray]
   simp[Builtin.append_,run_underlying hu,sizeOf,typeInfo,hi,hzi,Builtin.lenOf,hsz,hfirst2,h0,h63',h48',zeroValue,grownCap,run_firstCells_none,newRow,Question.forced]
 ·have hal:arr.toList.length=arr.size:=Array.length_toList
  by_cases hroom:xs.length+ys.length≤cap
  ·have hcut:(xs.length+ys.length)*Dat.sz α≤arr.size:=Nat.le_trans (Nat.mul_le_mul_right _ hroom) hsize
   rw[Nat.add_mul] at hcut
   have hst:=run_storeCells_at P g (xs.length*Dat.sz α) T news 0 arr w hg (by omega) h1
   simp only[Nat.add_zero] at hst
   have hother: ∀ b,b≠g→(w.setRow g (arr.toList.take (xs.length*Dat.sz α)++news++arr.toList.drop (xs.length*Dat.sz α+news.length)).toArray).heap[b]?=w.heap[b]?:=fun b hb=>setRow_other w g b _ hb
   have hnd:=hF
   rw[List.nodup_cons] at hnd
   refine⟨_,_,g::(Fs++Gs).flatten,?_,Qhj.2 (.inr ⟨g,cap,_,T,Fs++Gs,rfl,setRow_heap w g arr _ T _ hg,by rw[length_append];exact hroom,hcm,?_,rfl,?_⟩),?_,rfl,rfl,rfl,by simp,fun b _ hb=>hother b (fun e=>hb (by simp[e])),?_⟩
   ·rw[length_append]
    simp[Builtin.append_,run_underlying hu,sizeOf,typeInfo,hi,Builtin.lenOf,hroom,hsz,hfirst,Addr.add_lit,hst]
   ·simp only[List.size_toArray,length_append,length_take,length_drop,hal]
    omega
   ·refine(hels.same fun b hb=>hother b (fun e=>hnd.1 (e▸hb))).app (hy.same fun b hb=>hother b (fun e=>hdis b hb (by simp[e]))) (l':=news) ?_ (by rw[hal];omega)
    rw[append_assoc,←append_assoc,List.take_append_of_le_length (by rw[length_append,length_take,hal,hl,Nat.add_mul];omega),List.take_of_length_le (by rw[length_append,length_take,hal,hl,Nat.add_mul];omega)]
   ·rw[List.flatten_append]
    refine List.nodup_cons.2 ⟨fun hb=>?_,List.nodup_append.2 ⟨hnd.2,hG,fun a ha b hb'=>?_⟩⟩
    ·rcases List.mem_append.1 hb with hb | hb
     ·exact hnd.1 hb
     ·exact hdis g hb (by simp)
    ·rintro rfl
     exact hdis a hb' (mem_cons_of_mem _ ha)
   ·intro b hb
    rw[List.flatten_append] at hb
    rcases List.mem_cons.1 hb with rfl | hb
    ·exact .inl (by simp)
    ·rcases List.mem_append.1 hb with hb | hb
     ·exact .inl (mem_cons_of_mem _ hb)
     ·exact .inr (.inl hb)
  ·have hnd:=hF
   rw[List.nodup_cons] at hnd
   have hsz':xs.length*Dat.sz α≤arr.size:=Nat.le_trans (Nat.mul_le_mul_right _ hlc) hsize
   have hlo:(arr.toList.take (xs.length*Dat.sz α)).length=xs.length*Dat.sz α:=by rw[List.length_take,hal];omega
   have hels' : Qke w (arr.toList.take (xs.length * Dat.sz α)) xs Fs := ⟨hels.1, fun i x hi => by
    obtain⟨G,hG,ho⟩:=hels.2 i x hi
    refine⟨G,hG,?_⟩
    rw[Qos ((List.getElem?_eq_some_iff.1 hi).1)]
    exact ho⟩
   obtain⟨F',h⟩:=grow cap (arr.toList.take (xs.length*Dat.sz α)) Fs (by omega) hlo hels' (List.nodup_append.2 ⟨hnd.2,hG,fun a ha b hb'=>by rintro rfl;exact hdis a hb' (mem_cons_of_mem _ ha)⟩) (fun b hb=>mem_cons_of_mem _ hb) _ _ rfl rfl
   refine⟨_,_,F',?_,h⟩
   have hrow:Qcf w ⟨g,0,none⟩ arr.toList:=Qcf.row (by simpa using hg)
   have holds : ∀ j u, (arr.toList.take (xs.length * Dat.sz α))[j]? = some u → w.cell? ((⟨g, 0, none⟩ : Addr).add j) = some u := fun j u hj => by
    rw[getElem?_take] at hj
    split at hj
    ·exact hrow j u hj
    ·cases hj
   have hf2:=run_firstCells_some (P:=P) w.drew (Dat.sz α) xs.length ⟨g,0,none⟩ xs.length cap _ hlo holds
   have h63': ¬ (9223372036854775807<((xs.length:Int)+(ys.length:Int))):=by simp only[maxLen] at hm;omega
   have h48': ¬ (281474976710656<Builtin.nextslicecap (xs.length+ys.length) cap*i.bytes):=by have:=growslice_fits (old:=cap) (need:=xs.length+ys.length) (bytes:=i.bytes) (by omega) (by rw[hib];exact hb);omega
   have hng: ¬ (xs.length+ys.length≤cap):=hroom
   simp[Builtin.append_,run_underlying hu,sizeOf,typeInfo,hi,hzi,Builtin.lenOf,hsz,hfirst2,hf2,hng,h63',h48',zeroValue,grownCap,newRow,Question.forced]
   congr 2
   apply Array.ext'
   simp[append_assoc]
end
section
variable {S:Nat→Prop} {w0 w w':World} {L:List Ck}
end
section
variable {P:Program} {ops:Array Oper} {Q:Exit→Act→World→Prop} {n:Nat} {ρ:List (Nat×Value)} {a:Act} {S:Nat→Prop} {w0 w:World} {L:List Ck} {rest:List Oper} {d:Nat} {ty:TypeId} {pos:String} {after:Array Edge}
end
section
variable {S:Nat→Prop} {w0 w:World} {L:List Ck}
theorem SH.nd (h:SH S w0 w L) {k:Nat} {c:Ck} (hk:L[k]?=some c):c.F.Nodup:=(Qbs.1 h.apart).1 k c hk
theorem SH.dj (h:SH S w0 w L) {i j:Nat} {c d:Ck} (hi:L[i]?=some c) (hj:L[j]?=some d) (hij:i≠j): ∀ b∈c.F,b ∉ d.F:=(Qbs.1 h.apart).2 i j c d hi hj hij
theorem SH.slO {α:Type} [Dat α] (h:SH S w0 w L) {k:Nat} {v:Value} {xs:List α} {F:List Nat} (hk:L[k]?=some (Ck.own [v] xs F)):SlO w v xs F:=by
 obtain⟨u,hu,hs⟩:=(show Dat.own w [v] xs F from h.get hk)
 cases hu
 exact hs
theorem SlO.form {α:Type} [Dat α] {v:Value} {xs:List α} {F:List Nat} (h:SlO w v xs F): ∃ (A:Option Addr) (cap:Nat),v= .slice A xs.length cap∧xs.length≤9223372036854775807:=
 (h.rd (B:=Old w) fun b hb=>h.lt b hb).form
end
def FnOk (P:Program) (f:FuncId):Prop:= ∃ fn,P.funcs[f]?=some fn∧fn.body.isNone=false∧(fn.name == "runtime.NumGoroutine")=false
theorem evals {n:Nat} {ρ:List (Nat×Value)} {a:Act} (hE:Env n ρ a): ∀ {xs:List Operand} {vs:List Value},xs.map (ev? ρ)=vs.map some→xs.map a.eval=vs
 | [],[],_=>rfl
 | [],_::_,h=>by simp at h
 | _::_,[],h=>by simp at h
 | x :: xs, v :: vs, h => by
  simp only[map_cons,List.cons.injEq] at h
  rw[map_cons,hE.eval h.1,evals hE h.2]
section
variable {P:Program} {ops:Array Oper} {Q:Exit→Act→World→Prop} {n:Nat} {ρ:List (Nat×Value)} {a:Act} {S:Nat→Prop} {w0 w:World} {L:List Ck} {rest:List Oper} {d:Nat} {ty:TypeId} {pos:String} {after:Array Edge}
theorem Q2a (hE:Env n ρ a) {f:Fn} {xs:Array Operand} {vs:List Value} (hx:xs.toList.map (ev? ρ)=vs.map some):Qb7 P a w (.makeFunc f #[] xs) ty (.func f #[] vs.toArray):=by
 intro _ _ _ _
 have hm:xs.map a.eval=vs.toArray:=by
  apply Array.toList_inj.1
  rw[Array.toList_map,evals hE hx]
 simp[execOp,Instr.makeFunc,hm]
theorem Ybd {α:Type} [Dat α] (hE:Env n ρ a) (hS:SH S w0 w L) {t e bytes:Nat} {x y:Operand} {z v s:Value} {xs ys:List α} {F:List Nat} {news:List Value} {k:Nat} (ht:Qeh P t e (Dat.sz α) bytes=true)
    (hz: ∀ w,(zeroValue e).run P w= .ok z w) (hzs:z.cells.size=Dat.sz α) (hx:ev? ρ x=some v) (hy:ev? ρ y=some s) (hk:L[k]?=some (Ck.own [v] xs F)) (hs:Src w s ys.length news) (hl:news.length=ys.length*Dat.sz α) (h1: ∀ u∈news,u.oneCell'=true)
    (hel: ∀ i u,ys[i]?=some u→Dat.own w (cut (Dat.sz α) news i) u []) (hb:(xs.length+ys.length)*bytes≤140737488355328) (hm:xs.length+ys.length≤9223372036854775807) (hd:Nat.blt d n=true)
    (K: ∀ A cap F' w',SH S w0 w' (L.set k (Ck.own [.slice A (xs++ys).length cap] (xs++ys) F'))→ ∀ a,Env n ((d,.slice A (xs++ys).length cap)::ρ) a→wpList P ops Q rest a w'):
    wpList P ops Q (⟨some d,.call { callee:= .builtin .append,args:= #[x,y],argTypes:= #[t,t] },ty,pos,after,none⟩::rest) a w:=by
  refine wpList_plain rfl fun K' hK=>?_
  have hv:SlO w v xs F:=hS.slO hk
  have hF:F.Nodup:=hS.nd hk
  have hels:Qke w news ys (List.replicate ys.length []):=⟨by simp,fun i u hi=>⟨[],by rw[List.getElem?_replicate,if_pos (List.getElem?_eq_some_iff.1 hi).1],hel i u hi⟩⟩
  have hfl:(List.replicate ys.length ([]:List Nat)).flatten=[]:=by simp
  obtain⟨v',w',F',hr,h3,h4,h5,h6,h7,h8,h9,h10⟩:=Qt2 (P:=P) (ty:=ty) ht rfl hz hzs hv hF hs hl h1 hels (by rw[hfl];exact List.nodup_nil) (by rw[hfl];intro b hb;cases hb) hb (by unfold maxLen;omega)
  unfold Oper.wp
  have hrun:(execOp a.eval ⟨some d,.call { callee:= .builtin .append,args:= #[x,y],argTypes:= #[t,t] },ty,pos,after,none⟩).run P w= .ok (.value v') w':=by
    simp only[execOp,resolve,invoke,builtin,Sem.run_bind,Sem.run_pure,Result.andThen_ok,List.map_toArray,map_cons,List.map_nil,hE.eval hx,hE.eval hy,hr]
  rw[hrun]
  obtain⟨A,cap,rfl,_⟩:=(h3.rd (B:=Old w') fun b hb=>h3.lt b hb).form
  refine hK _ _ (K A cap F' w' (hS.turn hk h5 h6 h7 h8 h9 (fun w2 h2=>⟨_,rfl,h3.same h2⟩) (fun b hb=>⟨?_,h3.lt b hb⟩) h4) _ (hE.put hd _))
  rcases h10 b hb with h | h | h
  · exact .inl h
  · rw[hfl] at h;cases h
  · exact .inr h
end
section
variable {α:Type} [Dat α] {B:Nat→Prop} {w:World} {A:Option Addr} {cap:Nat} {xs:List α}
theorem SlR.take (h:SlR B w (.slice A xs.length cap) xs) (k:Nat):SlR B w (.slice A (xs.take k).length cap) (xs.take k):=by
 obtain⟨A',cap',he,h1,h2,h3⟩:=h
 simp only[Value.slice.injEq] at he
 obtain⟨rfl,_,rfl⟩:=he
 refine⟨A,cap,rfl,by rw[length_take];omega,h2,fun hn=>?_⟩
 obtain⟨ad,rfl,hb,hc⟩:=h3 (by intro e;rw[e] at hn;simp at hn)
 refine⟨ad,rfl,hb,fun i x hi=>hc i x ?_⟩
 rw[getElem?_take] at hi
 split at hi
 ·exact hi
 ·cases hi
theorem SlR.drop (h:SlR B w (.slice A xs.length cap) xs) {k:Nat} (hk:k≤xs.length):
  SlR B w (.slice (if cap=k then A else A.map (·.add (k*Dat.sz α))) (xs.drop k).length (cap - k)) (xs.drop k):=by
 obtain⟨A',cap',he,h1,h2,h3⟩:=h
 simp only[Value.slice.injEq] at he
 obtain⟨rfl,_,rfl⟩:=he
 refine⟨_,_,rfl,by rw[length_drop];omega,by omega,fun hn=>?_⟩
 have hlt:k<xs.length:=by
  rcases Nat.lt_or_ge k xs.length with h | h
  ·exact h
  ·exact absurd (List.drop_eq_nil_of_le h) hn
 obtain⟨ad,rfl,hb,hc⟩:=h3 (by intro e;rw[e] at hlt;simp at hlt)
 rw[if_neg (by omega)]
 refine⟨ad.add (k*Dat.sz α),rfl,by rw[Qms];exact hb,fun i x hi=>?_⟩
 rw[getElem?_drop] at hi
 obtain⟨cs,hr,hcs⟩:=hc _ x hi
 refine⟨cs,hr,?_⟩
 rw[Qns,←Nat.add_mul]
 exact hcs
end
section
variable {P:Program} {n:Nat} {ρ:List (Nat×Value)} {a:Act} {w:World} {ty:TypeId}
end
theorem Quw {α:Type} [Dat α] {B:Nat→Prop} {w:World} {A:Option Addr} {len cap:Nat} {xs:List α} (h:SlR B w (.slice A len cap) xs):xs.length≤cap∧len=xs.length:=by
 obtain⟨A',cap',he,h1,h2,h3⟩:=h
 simp only[Value.slice.injEq] at he
 obtain⟨rfl,rfl,rfl⟩:=he
 exact⟨h1,rfl⟩
section
variable {P:Program}
theorem Q6j (a b:ByteArray):(a.toList=b.toList)=(a=b):=by
 rw[ByteArray.toList_eq,ByteArray.toList_eq]
 obtain⟨⟨x⟩⟩:=a
 obtain⟨⟨y⟩⟩:=b
 simp
theorem Ya7 {n:Nat} {ρ:List (Nat×Value)} {a:Act} {w:World} {ty:TypeId} (hE:Env n ρ a) {x y:Operand} {t t':Nat} {cx cy:List Value} {r:Bool} (hx:ev? ρ x=some (.agg cx.toArray)) (hy:ev? ρ y=some (.agg cy.toArray))
  (hg:P.eqGuardType P.depth t=false) (h: ∀ w,(Op.equalIn 10000 t (.agg cx.toArray) (.agg cy.toArray)).run P w= .ok r w):Qb7 P a w (.binOp .eql t x y t') ty (.bool r):=by
 intro _ _ _ _
 simp only[execOp,hE.eval hx,hE.eval hy,Sem.run_bind,run_eqGuard_agg _ _ _ _ _ _ _ hg,Sem.run_pure,Result.andThen_ok,run_eql_struct,h]
theorem Ya4 {n:Nat} {ρ:List (Nat×Value)} {a:Act} {w:World} {ty:TypeId} (hE:Env n ρ a) {x y:Operand} {t t':Nat} {cx cy:List Value} {r:Bool} (hx:ev? ρ x=some (.agg cx.toArray)) (hy:ev? ρ y=some (.agg cy.toArray))
  (hg:P.eqGuardType P.depth t=false) (h: ∀ w,(Op.equalIn 10000 t (.agg cx.toArray) (.agg cy.toArray)).run P w= .ok r w):Qb7 P a w (.binOp .neq t x y t') ty (.bool (!r)):=by
 intro _ _ _ _
 simp only[execOp,hE.eval hx,hE.eval hy,Sem.run_bind,run_eqGuard_agg _ _ _ _ _ _ _ hg,Sem.run_pure,Result.andThen_ok,run_neq_struct,h]
end
section
variable {S:Nat→Prop} {w0 w:World} {L:List Ck}
theorem SH.split {c:Ck} (h:SH S w0 w (c::L)) (M:List Ck) (hF:c.F=M.flatMap (·.F)) (hM: ∀ d∈M,d.ok w):SH S w0 w (M++L):=by
 refine⟨h.keep,h.dom,fun x hx=>?_,fun x hx b hb=>?_,?_⟩
 ·rcases List.mem_append.1 hx with hx | hx
  ·exact hM x hx
  ·exact h.ok x (mem_cons_of_mem _ hx)
 ·rcases List.mem_append.1 hx with hx | hx
  ·exact h.ge c (by simp) b (by rw[hF];exact mem_flatMap.2 ⟨x,hx,hb⟩)
  ·exact h.ge x (mem_cons_of_mem _ hx) b hb
 ·rw[List.flatMap_append,←hF]
  exact h.apart
end
def Qqe (K:Act→World→Prop):Exit→Act→World→Prop:=fun e a w=>e= .normal∧K a w
section
variable {P:Program} {ops:Array Oper} {n:Nat} {ρ:List (Nat×Value)} {a:Act} {w:World} {S:World→Prop} {K:Act→World→Prop} {d:Nat} {op:Op} {ty:TypeId} {pos:String} {after:Array Edge} {fuel:Nat} {listed:Array Bool}
def Qrm (ops:Array Oper) (listed:Array Bool) (i:Nat):Bool:=Region.noSelect ops&&Region.free .any ops listed i&&(Region.ready .any ops listed).contains i
theorem Ye8 (i:Nat) {o:Oper} (hi:ops[i]?=some o) (hr:Region.ready .any ops listed=[i])
  (h:wpList P ops (Qqe fun a w=>S w∧wpAnyH P .any ops (Qqe K) S fuel (listed.setIfInBounds i true) a w) [o] a w):wpAnyH P .any ops (Qqe K) S (fuel+1) listed a w:=by
 refine wpAnyH_all hr (by simp) fun j hj=>?_
 obtain rfl:=mem_singleton.1 hj
 have mono: ∀ (o:Oper) (K1:Act→World→Prop) (a:Act) (w:World),o.wp P a w (fun a' w'=>Qqe K1 .normal a' w') (Qqe K1)→o.wp P a w K1 (Qqe K):=by
  intro o K1 a w h
  unfold Oper.wp at h ⊢
  generalize (execOp a.eval o).run P w=r at h ⊢
  cases r with
  | ok n w' =>
   cases n<;>simp only[Oper.upon] at h ⊢
   case value u=>exact h.2
   case skip=>exact h.2
   case defer d=>exact h.2
   case enter f args=>
    refine Calls.mono h fun e w'' he=>?_
    cases e with
    | returned u=>exact he.2
    | panicked c=>cases he.1
    | outgrown=>obtain⟨_,_,h,_⟩:=he;cases h
   case row row args=>exact Rows.mono h fun u w'' he=>he.2
  | halt x w' =>
   cases x<;>simp only[Oper.upon] at h ⊢
   case panic u=>cases h.1
 unfold wpOp
 simp only[hi]
 unfold wpList at h
 split
 ·rename_i hw
  simp only[hw,if_true] at h
  rcases h with h | ⟨_,h⟩
  ·exact .inl (mono _ _ _ _ h)
  ·obtain⟨_,_,h,_⟩:=h;cases h
 ·rename_i hw
  simp only[hw] at h
  exact h.2
theorem Ymu (hr:Region.ready .any ops listed=[]) (h:K a w):wpAnyH P .any ops (Qqe K) S 0 listed a w:=⟨hr,rfl,h⟩
end
theorem SH.pick {S:Nat→Prop} {w0 w:World} {L L':List Ck} (h:SH S w0 w L) (is:List Nat) (hn:is.Nodup) (hL:is.map (fun i=>L[i]?)=L'.map some):SH S w0 w L':=by
 have hget: ∀ (i:Nat) (c:Ck),L'[i]?=some c→ ∃ k:Nat,is[i]?=some k∧L[k]?=some c:=by
  intro i c hi
  have:=congrArg (·[i]?) hL
  simp only[getElem?_map,hi,Option.map_some] at this
  cases hk:is[i]? with
  | none=>rw[hk] at this;simp at this
  | some k=>rw[hk] at this;simp at this;exact⟨k,rfl,this⟩
 have hap:=Qbs.1 h.apart
 have hmem : ∀ c ∈ L', c ∈ L := fun c hc => by
  obtain⟨i,hi⟩:=List.getElem?_of_mem hc
  obtain⟨k,_,hk⟩:=hget i c hi
  exact mem_of_getElem? hk
 refine⟨h.keep,h.dom,fun c hc=>h.ok c (hmem c hc),fun c hc=>h.ge c (hmem c hc),Qbs.2 ⟨fun i c hi=>?_,fun i j c d hi hj hij=>?_⟩⟩
 ·obtain⟨k,_,hk⟩:=hget i c hi
  exact hap.1 k c hk
 ·obtain⟨k,hik,hk⟩:=hget i c hi
  obtain⟨m,hjm,hm⟩:=hget j d hj
  refine hap.2 k m c d hk hm fun e=>?_
  subst e
  have h1:=(List.getElem?_eq_some_iff.1 hik)
  have h2:=(List.getElem?_eq_some_iff.1 hjm)
  rcases Nat.lt_or_gt_of_ne hij with hlt | hlt
  ·exact List.pairwise_iff_getElem.1 hn i j h1.1 h2.1 hlt (h1.2.trans h2.2.symm)
  ·exact List.pairwise_iff_getElem.1 hn j i h2.1 h1.1 hlt (h2.2.trans h1.2.symm)
theorem SH.src {S:Nat→Prop} {w0 w:World} {L:List Ck} (h:SH S w0 w L) {k b:Nat} {cs:List Value} {T:TypeId} (hk:L[k]?=some (Ck.var b cs T)) (m:Nat) (c:Nat):Src w (.slice (some ⟨b,0,none⟩) m c) m cs:=by
 refine⟨_,c,rfl,fun j u hj=>⟨_,rfl,?_⟩⟩
 exact h.cells hk j u hj
section
variable {P:Program} {ops:Array Oper} {Q:Exit→Act→World→Prop} {n:Nat} {ρ:List (Nat×Value)} {a:Act} {S:Nat→Prop} {w0 w:World} {L:List Ck} {rest:List Oper} {d:Nat} {ty:TypeId} {pos:String} {after:Array Edge}
theorem Ybb (hE:Env n ρ a) (hS:SH S w0 w L) {t e len:Nat} {parts:Array (Nat×Operand)} {is:List Nat} {vs cs:List Value} (hi:parts.toList.map (·.1)=is) (hx:(parts.toList.map (·.2)).map (ev? ρ)=vs.map some)
  (hr:(Instr.buildSlice t len (is.zip vs).toArray).run P w= .ok (.slice (some ⟨w.heap.size,0,none⟩) len len) (w.alloc (.cells cs.toArray e))) (hd:Nat.blt d n=true)
  (K: ∀ b w',SH S w0 w' (Ck.var b cs e::L)→ ∀ a,Env n ((d,.slice (some ⟨b,0,none⟩) len len)::ρ) a→wpList P ops Q rest a w'):
  wpList P ops Q (⟨some d,.buildSlice t len parts,ty,pos,after,none⟩::rest) a w:=by
 refine wpList_plain rfl fun K' hK=>?_
 have hm':(parts.map fun(x:Nat×Operand)=>match x with | (i,x)=>(i,a.eval x))=(is.zip vs).toArray:=by
  apply Array.toList_inj.1
  have:=evals hE hx
  rw[Array.toList_map,←hi,←this]
  clear hx hi hr this
  generalize parts.toList=l
  induction l with
  | nil=>rfl
  | cons x l ih=>simp[ih]
 unfold Oper.wp
 rw[show(execOp a.eval ⟨some d,.buildSlice t len parts,ty,pos,after,none⟩).run P w= .ok (.value (.slice (some ⟨w.heap.size,0,none⟩) len len)) (w.alloc (.cells cs.toArray e)) by
  simp only[execOp,hm',Sem.run_bind,hr,Result.andThen_ok,Sem.run_pure]]
 exact hK _ _ (K _ _ (hS.alloc cs e) _ (hE.put hd _))
end
end
section
def GV (g:Nat) (cs:List Value) (w:World):Prop:= ∃ (T:TypeId) (fr:Nat×Nat),w.heap[g]?=some (.cells cs.toArray T fr)
theorem GV.lt {g:Nat} {cs:List Value} {w:World} (h:GV g cs w):g<w.heap.size:=by
 obtain⟨T,fr,h⟩:=h
 exact(Array.getElem?_eq_some_iff.1 h).1
theorem GV.sh {g:Nat} {cs:List Value} {w0 w:World} {L:List Ck} (hS:SH (Old w0) w0 w L) (h:GV g cs w0):GV g cs w:=by
 have hl:=h.lt
 obtain⟨T,fr,h⟩:=h
 exact⟨T,fr,(hS.keep.block g hl).trans h⟩
theorem GV.var {P:Program} {nm:String} {g:Nat} {cs:List Value} {w:World} (h:GV g cs w) (hg:P.globalNamed nm=some g):w.var? P nm=some cs.toArray:=by
 obtain⟨T,fr,h⟩:=h
 simp only[World.var?,hg,Option.bind_some,h]
section
variable {P:Program} {n:Nat} {ρ:List (Nat×Value)} {a:Act} {w:World} {ty:TypeId}
end
section
variable {P:Program} {W:World} {H:Type} {enc:TypeId×Value→H} {sp:Nat→Bool} {b:Bool} {fuel t n e g:Nat} {x:List MemPlace} {cs:Array Value} {nm:String}
theorem Yhv (hg:P.globalNamed nm=some g) (hv:W.var? P nm=some cs):g<W.heap.size:=by
 simp only[World.var?,hg,Option.bind_some] at hv
 rcases Nat.lt_or_ge g W.heap.size with h | h
 ·exact h
 ·rw[Array.getElem?_eq_none h] at hv
  simp at hv
theorem Yey {cs':List Value} (hg:P.globalNamed nm=some g) (hv:W.var? P nm=some cs) (hc:cs.toList=cs'):GV g cs' W:=by
 simp only[World.var?,hg,Option.bind_some] at hv
 have e:cs=cs'.toArray:=by rw[←hc]
 cases hh:W.heap[g]? with
 | none=>rw[hh] at hv;simp at hv
 | some o =>
  rw[hh] at hv
  cases o with
  | cells c T fr=>simp only[Option.some.injEq] at hv;subst hv;exact⟨T,fr,by rw[hh,e]⟩
  | _=>simp at hv
theorem Yhm {α:Type} {mk:α→Value} {lit:α→DataW H} {names:List α} (hg:P.globalNamed nm=some g) (hu:P.underlying t=some (.array n e)) (hc:P.cellsOf e=1) (hct:P.cellsOf t=n) (hv:W.var? P nm=some cs)
  (hd:DataW.trod enc P W 0 sp b fuel t cs.toList=some (.agg (names.map lit),x))
  (hone: ∀ (m:Nat) (c:List Value) (y:DataW H×List MemPlace) (s:α),DataW.trod enc P W 0 sp b m e c=some y→y.1=lit s→c=[mk s]):GV g (names.map mk) W:=by
 refine Yey hg hv ?_
 obtain⟨xs,m,rfl,hx,hlen,hn,hel⟩:=DataW.trod_array hu hd
 simp only[Prod.mk.injEq,DataW.agg.injEq] at hx
 have hnl:names.length=n:=by
  have:=congrArg List.length hx.1
  simp only[List.length_map] at this
  omega
 apply List.ext_getElem?
 intro j
 rcases Nat.lt_or_ge j n with hj | hj
 ·have hxj:xs[j]?=some xs[j]:=getElem?_eq_getElem (by omega)
  have hsj:names[j]?=some names[j]:=getElem?_eq_getElem (by omega)
  have h1:=congrArg (·[j]?) hx.1
  simp only[getElem?_map,hsj,hxj,Option.map_some,Option.some.injEq] at h1
  have e1:=hone _ _ _ _ ((hel j hj).trans hxj) h1.symm
  rw[hc,Nat.mul_one] at e1
  have:=congrArg (·[0]?) e1
  simp only[getElem?_take,getElem?_drop,Nat.zero_lt_one,if_true,Nat.add_zero,List.getElem?_cons_zero] at this
  rw[this,getElem?_map,hsj]
  rfl
 ·rw[List.getElem?_eq_none (by omega),List.getElem?_eq_none (by rw[List.length_map];omega)]
theorem Q7v {k:IntKind} {names:List Int} (hg:P.globalNamed nm=some g) (hu:P.underlying t=some (.array n e)) (he:P.underlying e=some (.int k)) (hc:P.cellsOf e=1) (hct:P.cellsOf t=n) (hv:W.var? P nm=some cs)
  (hd:DataW.trod enc P W 0 sp b fuel t cs.toList=some (.agg (names.map fun s=> .lit (.int k s)),x)):GV g (names.map (.int k)) W:=by
 refine Yhm hg hu hc hct hv hd fun m c y s h1 h2=>?_
 obtain⟨s',e1,e2,_⟩:=DataW.trod_int he h1
 rw[e2] at h2
 simp only[DataW.lit.injEq,Lit.int.injEq,true_and] at h2
 rw[e1,h2]
end
section
variable {P:Program} {W:World} {H:Type} {enc:TypeId×Value→H} {sp:Nat→Bool}
theorem Q4p {gs:List (DataW H)} {ps:List MemPlace} (h:DataW.TrodVars enc P W sp [] gs ps):gs=[]:=by
 cases gs with
 | nil=>rfl
 | cons g gs=>simp[DataW.TrodVars] at h
end
def Ye1 (P : Program) (ns : List String) : Bool := ns.all fun n => match P.globalNamed n with
 | some g=>(match P.globals[g]? with | some gl=>P.readableRec gl.type&&Nat.blt gl.type P.types.size | none=>false)
 | none=>false
open Go.WideElems in
theorem Q95 {H:Type} {enc:TypeId×Value→H} {P:Program} (hl:laidOutB P=true) {W W':World} (hb:Below W.heap.size W W') (ns:List String):
  ∀ {gs:List (DataW H)} {ps:List MemPlace},Ye1 P ns=true→DataW.TrodVars enc P W (fun _=>true) ns gs ps→DataW.TrodVars enc P W' (fun b=>decide (b<W.heap.size)) ns gs ps:=by
 induction ns with
 | nil => intro gs ps _ h; cases gs with
  | nil=>exact h
  | cons _ _=>exact h.elim
 | cons n ns ih =>
  intro gs ps hv h
  cases gs with
  | nil=>exact h.elim
  | cons d ds =>
   have hlt:=DataW.TrodVars.lt h
   obtain⟨g,t,cs,fuel,p,q,h1,h2,h3,h4,hs,e⟩:=h
   simp only[Ye1,List.all_cons,Bool.and_eq_true,h1] at hv
   obtain⟨hv1,hv2⟩:=hv
   have ht:P.readableRec t=true∧t<P.types.size:=by
    cases hg:P.globals[g]? with
    | none=>rw[hg] at h2;cases h2
    | some gl =>
     rw[hg] at h2 hv1
     simp only[Option.map_some,Option.some.injEq] at h2
     subst h2
     simp only[Bool.and_eq_true] at hv1
     exact⟨hv1.1,by simpa using hv1.2⟩
   have hgl:g<W.heap.size:=Yhv h1 h3
   refine⟨g,t,cs,fuel,p,q,h1,h2,?_,?_,ih hv2 hs,e⟩
   ·rw[←h3]
    unfold World.var?
    rw[h1]
    simp only[Option.bind_some]
    rw[hb.block g hgl]
   ·have hp : ∀ x ∈ p, x.block < W.heap.size := fun x hx => hlt x (by rw [e]; simp [hx])
    exact DataW.trod_stays (kids_book hl ht.1) (book_sized ht.1) (fun h=>by cases h) ⟨ht.2,book_self t⟩ h4 (fun x hx=>hb.same (hp x hx)) (fun x hx=>by simpa using hp x hx)
end
section
set_option linter.unusedSectionVars false
section
variable {S:Nat→Prop} {w0 w:World} {L:List Ck}
end
section
variable {α:Type} [Dat α] [Inhabited α] {S:Nat→Prop} {w0 w:World} {L:List Ck} {xs:List α}
end
theorem Qqm (g i:Nat):(⟨g,0,none⟩:Addr).add i=⟨g,i,none⟩:=by
 unfold Addr.add
 split<;>simp_all
section
variable {P:Program} {ops:Array Oper} {Q:Exit→Act→World→Prop} {n:Nat} {ρ:List (Nat×Value)} {a:Act} {S:Nat→Prop} {w0 w:World} {L:List Ck} {rest:List Oper} {d:Nat} {ty:TypeId} {pos:String} {after:Array Edge}
end
def Off (M:List Ck) (w:World):Nat→Prop:=fun b=>b<w.heap.size∧b ∉ M.flatMap (·.F)
section
variable {S:Nat→Prop} {w0 w w':World} {M M' R:List Ck}
theorem SH.off (h:SH S w0 w (M++R)):SH (Off M w) w w M:=by
 refine⟨Keep.refl _ _,fun b hb=>hb.1,fun c hc=>h.ok c (List.mem_append_left _ hc),fun c hc b hb=>⟨fun ho=>ho.2 (mem_flatMap.2 ⟨c,hc,hb⟩),(h.ge c (List.mem_append_left _ hc) b hb).2⟩,?_⟩
 have:=h.apart
 rw[List.flatMap_append] at this
 exact(List.nodup_append.1 this).1
theorem SH.inOff (h:SH S w0 w (M++R)) {b:Nat} (hb:S b):Off M w b:=by
 refine⟨?_,fun hm=>?_⟩
 ·have:=h.dom b hb
  have:=h.size
  omega
 ·obtain⟨c,hc,hbc⟩:=mem_flatMap.1 hm
  exact(h.ge c (List.mem_append_left _ hc) b hbc).1 hb
theorem SH.callM (h:SH S w0 w (M++R)) (hc:SH (Off M w) w w' M'):SH S w0 w' (M'++R):=by
 have hap:=h.apart
 rw[List.flatMap_append,List.nodup_append] at hap
 have hR: ∀ c∈R,∀ b∈c.F,Off M w b:=fun c hcR b hb=>⟨(h.ge c (List.mem_append_right _ hcR) b hb).2,fun hm=>hap.2.2 b hm b (mem_flatMap.2 ⟨c,hcR,hb⟩) rfl⟩
 have hM' : ∀ c ∈ M', ∀ b ∈ c.F, (b ∈ M.flatMap (·.F) ∨ w.heap.size ≤ b) := fun c hcM b hb => by
  rcases Nat.lt_or_ge b w.heap.size with hlt | hge
  ·left
   exact Classical.byContradiction fun hn=>(hc.ge c hcM b hb).1 ⟨hlt,hn⟩
  ·exact .inr hge
 refine⟨⟨hc.keep.os.trans h.keep.os,hc.keep.tape.trans h.keep.tape,hc.keep.output.trans h.keep.output,Nat.le_trans h.keep.size hc.keep.size,fun b hb=>(hc.keep.block b (h.inOff hb)).trans (h.keep.block b hb)⟩,h.dom,fun c hcx=>?_,fun c hcx b hb=>?_,?_⟩
 ·rcases List.mem_append.1 hcx with hcx | hcx
  ·exact hc.ok c hcx
  ·exact(h.ok c (List.mem_append_right _ hcx)).same fun b hb=>hc.keep.block b (hR c hcx b hb)
 ·rcases List.mem_append.1 hcx with hcx | hcx
  ·refine⟨fun hs=>(hc.ge c hcx b hb).1 (h.inOff hs),(hc.ge c hcx b hb).2⟩
  ·have:=h.ge c (List.mem_append_right _ hcx) b hb
   exact⟨this.1,Nat.lt_of_lt_of_le this.2 hc.keep.size⟩
 ·rw[List.flatMap_append,List.nodup_append]
  refine⟨hc.apart,hap.2.1,fun x hx y hy e=>?_⟩
  subst e
  obtain⟨c,hcM,hb⟩:=mem_flatMap.1 hx
  obtain⟨c2,hc2,hb2⟩:=mem_flatMap.1 hy
  have h1:=hR c2 hc2 x hb2
  rcases hM' c hcM x hb with h2 | h2
  ·exact h1.2 h2
  ·exact absurd h1.1 (by omega)
theorem SH.upM {α:Type} [Dat α] (h:SH S w0 w (M++R)) {v:Value} {xs:List α} (hv:SlR S w0 v xs):SlR (Off M w) w v xs:=(hv.below h.keep).mono fun b hb=>h.inOff hb
end
section
variable {P:Program} {ops:Array Oper} {Q:Exit→Act→World→Prop} {n:Nat} {ρ:List (Nat×Value)} {a:Act} {S:Nat→Prop} {w0 w:World} {L:List Ck} {rest:List Oper} {d:Nat} {ty:TypeId} {pos:String} {after:Array Edge}
end
theorem Qk0 (x:Int):I64 (IntKind.i64.wrap x):=by
 unfold I64
 rw[IntKind.wrap_i64]
 omega
theorem Qh2 (xs:List Int):(strOfNums xs).size=xs.length:=by
 simp[strOfNums,ByteArray.size]
section
variable {P:Program} {n:Nat} {ρ:List (Nat×Value)} {a:Act} {w:World} {ty:TypeId}
def Qti (P:Program) (src dst:Nat) (q:IntKind):Bool:=(P.underlying src).isSome&&(match P.underlying dst with | some (.int q')=>decide (q'=q) | _=>false)
theorem Q2v (hE:Env n ρ a) {x:Operand} {k q:IntKind} {i:Int} {src dst:Nat} (hx:ev? ρ x=some (.int k i)) (h:Qti P src dst q=true):Qb7 P a w (.convert src dst x) ty (.int q (q.wrap i)):=by
 intro _ _ _ _
 simp only[Qti,Bool.and_eq_true] at h
 have hd:P.underlying dst=some (.int q):=by
  cases hu:P.underlying dst with
  | none=>simp[hu] at h
  | some d =>
   cases d with
   | int q'=>rw[hu] at h;rw[of_decide_eq_true h.2]
   | _=>simp[hu] at h
 have hk:P.intKind dst=q:=by simp[Program.intKind,hd]
 have:=run_convert_int (P:=P) w src dst k i h.1 (by rw[hk];exact hd)
 rw[hk] at this
 simp only[execOp,hE.eval hx,this,Sem.run_bind,Result.andThen_ok,Sem.run_pure]
theorem Q2c (hE:Env n ρ a) {x:Operand} {src dst e b len cap:Nat} {xs:List Int} (hx:ev? ρ x=some (.slice (some ⟨b,0,none⟩) len cap)) (hs:P.underlying src=some (.slice e)) (he:P.underlying e=some (.int .u8)) (hd:P.underlying dst=some .string)
    (hl:xs.length=len) (hc:Qcf w ⟨b,0,none⟩ (xs.map (.int .u8))):Qb7 P a w (.convert src dst x) ty (.string (strOfNums xs)):=by
  intro _ _ _ _
  have := run_convert_bytes_arg (P := P) w src e hs he b 0 len cap xs hl (fun i hi => by
    have:=hc i (.int .u8 (xs.getD i 0)) (by
      rw[getElem?_map,getElem?_eq_getElem (by omega)]
      simp[List.getD,getElem?_eq_getElem (show i<xs.length by omega)])
    rw[Qqm] at this
    rw[Nat.zero_add]
    exact this) dst hd
  simp only[execOp,hE.eval hx,this,Sem.run_bind,Result.andThen_ok,Sem.run_pure]
end
def dig (o:Nat) (s:Int):Prop:=o≤19∧s<10 ^ (19 - o)
theorem Q3f {o:Nat} {s:Int} (h:dig o s) (hs:0<s):dig (o+1) (s / 10):=by
 obtain⟨h1,h2⟩:=h
 have ho:o=0∨o=1∨o=2∨o=3∨o=4∨o=5∨o=6∨o=7∨o=8∨o=9∨o=10∨o=11∨o=12∨o=13∨o=14∨o=15∨o=16∨o=17∨o=18∨o=19:=by omega
 rcases ho with rfl | rfl | rfl | rfl | rfl | rfl | rfl | rfl | rfl | rfl | rfl | rfl | rfl | rfl | rfl | rfl | rfl | rfl | rfl | rfl <;>
  (simp only[dig] at *;simp at h2 ⊢;omega)
theorem Yht {P:Program} {n:Nat} {ρ:List (Nat×Value)} {a:Act} {w:World} {ty:TypeId} (hE:Env n ρ a) {x:Operand} {t:Nat} {k:IntKind} {i:Int} (hx:ev? ρ x=some (.int k i)):Qb7 P a w (.unOp .neg t x) ty (.int k (k.wrap (-i))):=by
 intro _ _ _ _
 simp[execOp,hE.eval hx,Op.unary,Op.intArith]
theorem Qnz {s:Int} (h:I64 s):(IntKind.i64.wrap (Int.tdiv s 10)).natAbs=s.natAbs / 10:=by
 rw[IntWalk.i64_quo' s 10 ⟨h.1,h.2,by decide⟩,Int.natAbs_tdiv]
 rfl
end
section
def an:Bool→Bool→Bool
 | true,b=>b
 | false,_=>false
theorem Yer (a b:Bool):an a b=(a&&b):=by cases a<;>rfl
inductive V where
 | v (x:Value)
 | sl (r len:Nat)
 | pt (r off:Nat)
 | ag (cs:List V)
 | fn (f:FuncId) (cs:List V)
 | tu (cs:List V)
 | gd (b:Bool) (x:V)
structure Loc where
 A:Option Addr
 cap:Nat
 F:List Nat
mutual
def V.con (θ:List Loc):V→Option Value
 | .v x=>some x
 | .sl r len => match θ[r]? with
  | some l=>some (.slice l.A len l.cap)
  | none=>none
 | .pt r off => match θ[r]? with
  | some ⟨some A,_,_⟩=>some (.pointer (some (A.add off)))
  | _=>none
 | .ag cs=>(conL θ cs).map fun l=> .agg l.toArray
 | .fn f cs=>(conL θ cs).map fun l=> .func (.func f) #[] l.toArray
 | .tu cs=>(conL θ cs).map fun l=> .tuple l.toArray
 | .gd b x => match b with
  | true=>x.con θ
  | false=>some undef
def conL (θ:List Loc):List V→Option (List Value)
 | []=>some []
 | x :: r => match x.con θ, conL θ r with
  | some a,some b=>some (a::b)
  | _,_=>none
end
theorem Qem {θ θ':List Loc} {r:Nat} {l:Loc} (h:θ[r]?=some l):(θ++θ')[r]?=some l:=by
 rw[List.getElem?_append_left (List.getElem?_eq_some_iff.1 h).1]
 exact h
mutual
theorem V.con_ext {θ θ':List Loc}: ∀ {v:V} {x:Value},v.con θ=some x→v.con (θ++θ')=some x
 | .v _,_,h=>h
 | .sl r len, x, h => by
  simp only[V.con] at h ⊢
  cases hr:θ[r]? with
  | none=>rw[hr] at h;cases h
  | some l=>rw[hr] at h;rw[Qem hr];exact h
 | .pt r off, x, h => by
  simp only[V.con] at h ⊢
  cases hr:θ[r]? with
  | none=>rw[hr] at h;cases h
  | some l=>rw[hr] at h;rw[Qem hr];exact h
 | .ag cs, x, h => by
  simp only[V.con,Option.map_eq_some_iff] at h ⊢
  obtain⟨l,hl,e⟩:=h
  exact⟨l,Qkx hl,e⟩
 | .fn f cs, x, h => by
  simp only[V.con,Option.map_eq_some_iff] at h ⊢
  obtain⟨l,hl,e⟩:=h
  exact⟨l,Qkx hl,e⟩
 | .tu cs, x, h => by
  simp only[V.con,Option.map_eq_some_iff] at h ⊢
  obtain⟨l,hl,e⟩:=h
  exact⟨l,Qkx hl,e⟩
 | .gd true y, x, h => by
  simp only[V.con] at h ⊢
  exact V.con_ext h
 | .gd false y,x,h=>h
theorem Qkx {θ θ':List Loc}: ∀ {cs:List V} {l:List Value},conL θ cs=some l→conL (θ++θ') cs=some l
 | [],_,h=>h
 | x :: r, l, h => by
  simp only[conL] at h ⊢
  cases h1:x.con θ with
  | none=>rw[h1] at h;cases h
  | some a =>
   cases h2:conL θ r with
   | none=>rw[h1,h2] at h;cases h
   | some b =>
    rw[h1,h2] at h
    rw[V.con_ext h1,Qkx h2]
    exact h
end
theorem Qgf {θ:List Loc} {x:V} {r:List V} {l:List Value} (h:conL θ (x::r)=some l): ∃ a b,l=a::b∧x.con θ=some a∧conL θ r=some b:=by
 simp only[conL] at h
 cases h1:x.con θ with
 | none=>rw[h1] at h;cases h
 | some a =>
  cases h2:conL θ r with
  | none=>rw[h1,h2] at h;cases h
  | some b=>rw[h1,h2] at h;cases h;exact⟨a,b,rfl,rfl,rfl⟩
theorem Qgo {θ:List Loc} {x:V} {r:List V} {a:Value} {b:List Value} (h1:x.con θ=some a) (h2:conL θ r=some b):conL θ (x::r)=some (a::b):=by
 simp only[conL,h1,h2]
theorem Qhi {θ:List Loc}: ∀ {cs:List V} {l:List Value},conL θ cs=some l→l.length=cs.length
 | [],l,h=>by cases h;rfl
 | x :: r, l, h => by
  obtain⟨a,b,rfl,_,h2⟩:=Qgf h
  simp[Qhi h2]
theorem Qql {θ:List Loc}: ∀ {cs:List V} {l:List Value} {i:Nat} {v:V},conL θ cs=some l→cs[i]?=some v→ ∃ x,l[i]?=some x∧v.con θ=some x
 | [],_,_,_,_,h=>by simp at h
 | x :: r, l, i, v, h, hi => by
  obtain⟨a,b,rfl,h1,h2⟩:=Qgf h
  cases i with
  | zero=>simp at hi;subst hi;exact⟨a,rfl,h1⟩
  | succ i =>
   obtain⟨x,hx,hc⟩:=Qql h2 (i:=i) (by simpa using hi)
   exact⟨x,by simpa using hx,hc⟩
theorem Qot {θ:List Loc}: ∀ {cs ds:List V} {l m:List Value},conL θ cs=some l→conL θ ds=some m→conL θ (cs++ds)=some (l++m)
 | [],_,l,_,h,h'=>by cases h;exact h'
 | x :: r, ds, l, m, h, h' => by
  obtain⟨a,b,rfl,h1,h2⟩:=Qgf h
  exact Qgo h1 (Qot h2 h')
theorem Qob {θ:List Loc}: ∀ {cs:List V} {l:List Value} (n:Nat),conL θ cs=some l→conL θ (cs.take n)=some (l.take n)
 | cs,l,0,h=>by simp[conL]
 | [],l,n+1,h=>by cases h;rfl
 | x :: r, l, n + 1, h => by
  obtain⟨a,b,rfl,h1,h2⟩:=Qgf h
  exact Qgo h1 (Qob n h2)
theorem Qoc {θ:List Loc}: ∀ {cs:List V} {l:List Value} (n:Nat),conL θ cs=some l→conL θ (cs.drop n)=some (l.drop n)
 | cs,l,0,h=>by simpa using h
 | [],l,n+1,h=>by cases h;rfl
 | x :: r, l, n + 1, h => by
  obtain⟨a,b,rfl,h1,h2⟩:=Qgf h
  exact Qoc n h2
def lk:List (Nat×V)→Nat→Option V
 | [],_=>none
 | (t,v)::r,k=>bif Nat.beq t k then some v else lk r k
def ev (ρ:List (Nat×V)):Operand→Option V
 | .tmp t=>lk ρ t
 | .const x=>some (.v x)
 | .global g=>some (.v (.pointer (some ⟨g,0,none⟩)))
 | .func f=>some (.fn f [])
def Qa9:Option V→Option (List V)→Option (List V)
 | some a,some b=>some (a::b)
 | _,_=>none
def evs (ρ:List (Nat×V)):List Operand→Option (List V)
 | []=>some []
 | x::r=>Qa9 (ev ρ x) (evs ρ r)
structure EnvV (n:Nat) (θ:List Loc) (ρ:List (Nat×V)) (a:Act):Prop where
 size:a.tmps.size=n
 defers:a.defers=[]
 get: ∀ t v,lk ρ t=some v→v.con θ=some (a.tmps.getD t undef)∧t<n
def selfρ (a:Act):List (Nat×Value):=(List.range a.tmps.size).map fun t=>(t,a.tmps.getD t undef)
theorem lk?_self : ∀ (l : List Nat) (f : Nat → Value) (t : Nat), lk? (l.map fun t => (t, f t)) t = if t ∈ l then some (f t) else none
 | [],f,t=>rfl
 | x :: r, f, t => by
  simp only[map_cons,lk?,lk?_self r f t]
  by_cases e:x=t
  ·subst e;simp
  ·have:Nat.beq x t=false:=by
    cases h:Nat.beq x t
    ·rfl
    ·exact absurd (Nat.eq_of_beq_eq_true h) e
   have e': ¬ t=x:=fun h=>e h.symm
   simp[this,e']
theorem Env.self (a:Act) (hd:a.defers=[]):Env a.tmps.size (selfρ a) a:=by
 refine⟨rfl,hd,fun t v h=>?_⟩
 unfold selfρ at h
 rw[lk?_self] at h
 split at h
 ·cases h;rfl
 ·cases h
section
variable {n:Nat} {θ θ':List Loc} {ρ:List (Nat×V)} {a:Act}
theorem EnvV.env (h:EnvV n θ ρ a):Env n (selfρ a) a:=by
 have:=Env.self a h.defers
 rw[h.size] at this
 exact this
theorem EnvV.con (h:EnvV n θ ρ a) {x:Operand} {v:V} (hx:ev ρ x=some v):v.con θ=some (a.eval x):=by
 cases x with
 | tmp t=>exact(h.get t v hx).1
 | const c=>cases hx;rfl
 | global g=>cases hx;rfl
 | func f=>cases hx;rfl
theorem EnvV.ev1 (h:EnvV n θ ρ a) {x:Operand} {v:V} (hx:ev ρ x=some v):ev? (selfρ a) x=some (a.eval x):=by
 cases x with
 | tmp t =>
  have:=(h.get t v hx).2
  show lk? (selfρ a) t=_
  unfold selfρ
  rw[lk?_self,if_pos (by rw[h.size];exact List.mem_range.2 this)]
  rfl
 | const c=>rfl
 | global g=>rfl
 | func f=>rfl
theorem EnvV.is (h:EnvV n θ ρ a) {x:Operand} {v:V} {u:Value} (hx:ev ρ x=some v) (hu:v.con θ=some u):ev? (selfρ a) x=some u:=by
 have:=h.con hx
 rw[hu] at this
 cases this
 exact h.ev1 hx
theorem EnvV.isv (h:EnvV n θ ρ a) {x:Operand} {u:Value} (hx:ev ρ x=some (.v u)):ev? (selfρ a) x=some u:=h.is hx rfl
theorem EnvV.ext (h:EnvV n θ ρ a):EnvV n (θ++θ') ρ a:=⟨h.size,h.defers,fun t v hv=>⟨V.con_ext (h.get t v hv).1,(h.get t v hv).2⟩⟩
theorem EnvV.put (h:EnvV n θ ρ a) {d:Nat} (hd:Nat.blt d n=true) {v:V} {x:Value} (hv:v.con θ=some x):EnvV n θ ((d,v)::ρ) (a.put (some d) x):=by
 have hd':d<a.tmps.size:=by rw[h.size];simpa using hd
 refine⟨by simp[Act.put,h.size],by simp[Act.put,h.defers],fun t u hu=>?_⟩
 simp only[lk] at hu
 by_cases e:d=t
 ·subst e
  simp at hu
  subst hu
  exact⟨by simp[Act.put,hd',hv],by rw[←h.size];exact hd'⟩
 ·have:Nat.beq d t=false:=by
   cases hb:Nat.beq d t
   ·rfl
   ·exact absurd (Nat.eq_of_beq_eq_true hb) e
  rw[this] at hu
  have:=h.get t u hu
  refine⟨?_,this.2⟩
  rw[this.1]
  simp only[Act.put,Array.getD_eq_getD_getElem?]
  rw[Array.getElem?_setIfInBounds_ne e]
theorem EnvV.evsL (h:EnvV n θ ρ a): ∀ {xs:List Operand} {vs:List V},evs ρ xs=some vs→ ∃ us,conL θ vs=some us∧xs.map (ev? (selfρ a))=us.map some
 | [],vs,hx=>by cases hx;exact⟨[],rfl,rfl⟩
 | x :: r, vs, hx => by
  simp only[evs] at hx
  cases h1:ev ρ x with
  | none=>rw[h1] at hx;cases hx
  | some v =>
   cases h2:evs ρ r with
   | none=>rw[h1,h2] at hx;cases hx
   | some b =>
    rw[h1,h2] at hx
    cases hx
    obtain⟨us,hus,hm⟩:=h.evsL h2
    refine⟨a.eval x::us,Qgo (h.con h1) hus,?_⟩
    rw[map_cons,map_cons,hm,h.ev1 h1]
end
inductive Fk (α:Type):Type 1 where
 | int (g:α→Int)
 | byte (g:α→UInt8)
 | bool (g:α→Bool)
 | str (g:α→ByteArray)
 | sl (β:Type) (d:Dat β) (g:α→List β)
def Fk.rd {α:Type} (S:Nat→Prop) (w:World) (x:α) (v:Value):Fk α→Prop
 | .int g=>v= .int .i64 (g x)∧I64 (g x)
 | .byte g=>v= .int .u8 (g x).toNat
 | .bool g=>v= .bool (g x)
 | .str g=>v= .string (g x)∧(g x).size≤maxLen
 | .sl _ _ g=>SlR S w v (g x)
def Fk.own {α:Type} (w:World) (x:α) (v:Value) (F:List Nat):Fk α→Prop
 | .int g=>(v= .int .i64 (g x)∧I64 (g x))∧F=[]
 | .byte g=>v= .int .u8 (g x).toNat∧F=[]
 | .bool g=>v= .bool (g x)∧F=[]
 | .str g=>(v= .string (g x)∧(g x).size≤maxLen)∧F=[]
 | .sl _ _ g=>SlO w v (g x) F
def Fk.good {α:Type} (x:α):Fk α→Prop
 | .int g=>I64 (g x)
 | .byte _=>True
 | .bool _=>True
 | .str g=>(g x).size≤maxLen
 | .sl _ _ g=>(g x).length≤9223372036854775807
def RdL {α:Type} (S:Nat→Prop) (w:World) (x:α):List (Fk α)→List Value→Prop
 | [],cs=>cs=[]
 | f::fs,cs=> ∃ v r,cs=v::r∧f.rd S w x v∧RdL S w x fs r
def OwL {α:Type} (w:World) (x:α):List (Fk α)→List Value→List Nat→Prop
 | [],cs,F=>cs=[]∧F=[]
 | f::fs,cs,F=> ∃ v r G H,cs=v::r∧F=G++H∧f.own w x v G∧OwL w x fs r H
def GdL {α:Type} (x:α):List (Fk α)→Prop
 | []=>True
 | f::fs=>f.good x∧GdL x fs
class Str (α:Type) [Dat α] where
 fk:List (Fk α)
 op: ∀ {S:Nat→Prop} {w:World} {cs:List Value} {x:α},Dat.rd S w cs x→RdL S w x fk cs
 cl: ∀ {S:Nat→Prop} {w:World} {cs:List Value} {x:α},RdL S w x fk cs→Dat.rd S w cs x
 oop: ∀ {w:World} {cs:List Value} {x:α} {F:List Nat},Dat.own w cs x F→OwL w x fk cs F
 omk: ∀ {w:World} {cs:List Value} {x:α} {F:List Nat},OwL w x fk cs F→Dat.own w cs x F
 gd: ∀ {x:α},Dat.good x→GdL x fk
instance:Str Int where
 fk:=[.int id]
 op h:=⟨_,[],h.1,⟨rfl,h.2⟩,rfl⟩
 cl h:=by obtain⟨v,r,rfl,⟨rfl,hg⟩,rfl⟩:=h;exact⟨rfl,hg⟩
 oop h:=⟨_,[],[],[],h.1.1,by rw[h.2];rfl,⟨⟨rfl,h.1.2⟩,rfl⟩,rfl,rfl⟩
 omk h:=by obtain⟨v,r,G,H,rfl,rfl,⟨⟨rfl,hg⟩,rfl⟩,rfl,rfl⟩:=h;exact⟨⟨rfl,hg⟩,rfl⟩
 gd h:=⟨h,trivial⟩
instance:Str UInt8 where
 fk:=[.byte id]
 op h:=⟨_,[],h.1,rfl,rfl⟩
 cl h:=by obtain⟨v,r,rfl,rfl,rfl⟩:=h;exact⟨rfl,trivial⟩
 oop h:=⟨_,[],[],[],h.1.1,by rw[h.2];rfl,⟨rfl,rfl⟩,rfl,rfl⟩
 omk h:=by obtain⟨v,r,G,H,rfl,rfl,⟨rfl,rfl⟩,rfl,rfl⟩:=h;exact⟨⟨rfl,trivial⟩,rfl⟩
 gd h:=⟨trivial,trivial⟩
instance:Str ByteArray where
 fk:=[.str id]
 op h:=⟨_,[],h.1,⟨rfl,h.2⟩,rfl⟩
 cl h:=by obtain⟨v,r,rfl,⟨rfl,hg⟩,rfl⟩:=h;exact⟨rfl,hg⟩
 oop h:=⟨_,[],[],[],h.1.1,by rw[h.2];rfl,⟨⟨rfl,h.1.2⟩,rfl⟩,rfl,rfl⟩
 omk h:=by obtain⟨v,r,G,H,rfl,rfl,⟨⟨rfl,hg⟩,rfl⟩,rfl,rfl⟩:=h;exact⟨⟨rfl,hg⟩,rfl⟩
 gd h:=⟨h,trivial⟩
instance {β:Type} [Dat β]:Str (List β) where
 fk:=[.sl β _ id]
 op h:=by obtain⟨v,rfl,h⟩:=h;exact⟨v,[],rfl,h,rfl⟩
 cl h:=by obtain⟨v,r,rfl,h,rfl⟩:=h;exact⟨v,rfl,h⟩
 oop h:=by obtain⟨v,rfl,h⟩:=h;exact⟨v,[],_,[],rfl,(List.append_nil _).symm,h,rfl,rfl⟩
 omk h:=by obtain⟨v,r,G,H,rfl,rfl,h,rfl,rfl⟩:=h;rw[List.append_nil];exact⟨v,rfl,h⟩
 gd h:=⟨h.1,trivial⟩
inductive En:Type 1 where
 | var (cs:List V) (T:TypeId)
 | own (α:Type) (d:Dat α) (xs:List α)
 | ros (α:Type) (d:Dat α) (xs:List α)
 | roc (cs:List V)
 | lit (cs:List V) (T:TypeId) (n:Nat)
 | itr (s:ByteArray) (pos:Nat)
 | any (P:Loc→World→Prop)
 | pin (l:Loc)
def locF (θ:List Loc) (r:Nat):List Nat:=match θ[r]? with
 | some l=>l.F
 | none=>[]
def En.ck (θ:List Loc) (r:Nat):En→Ck
 | .var cs T=>⟨locF θ r,fun w=> ∃ l b ccs,θ[r]?=some l∧l.A=some ⟨b,0,none⟩∧l.F=[b]∧conL θ cs=some ccs∧w.heap[b]?=some (.cells ccs.toArray T (0,0))⟩
 | .lit cs T n=>⟨locF θ r,fun w=> ∃ l b ccs,(θ[r]?=some l∧l.cap=n)∧l.A=some ⟨b,0,none⟩∧l.F=[b]∧conL θ cs=some ccs∧w.heap[b]?=some (.cells ccs.toArray T (0,0))⟩
 | .own _ _ xs=>⟨locF θ r,fun w=> ∃ l,θ[r]?=some l∧SlO w (.slice l.A xs.length l.cap) xs l.F⟩
 | .itr s pos=>⟨locF θ r,fun w=> ∃ l b,θ[r]?=some l∧l.A=some ⟨b,0,none⟩∧l.F=[b]∧w.heap[b]?=some (.stringIter s pos)⟩
 | .any P=>⟨locF θ r,fun w=> ∃ l,θ[r]?=some l∧(∀ b∈l.F,b<w.heap.size)∧P l w⟩
 | _=>⟨[],fun _=>True⟩
def En.ok (S:Nat→Prop) (w1:World) (θ:List Loc) (r:Nat):En→Prop
 | .ros _ _ xs=> ∃ l,θ[r]?=some l∧SlR S w1 (.slice l.A xs.length l.cap) xs
 | .pin l=>θ[r]?=some l
 | .roc cs=> ∃ l A ccs,θ[r]?=some l∧l.A=some A∧conL θ cs=some ccs∧S A.block∧Qcf w1 A ccs
 | _=>True
inductive TI where
 | no
 | one
 | int (k:IntKind)
 | bool
 | str
 | sl (e sz bytes:Nat)
 | st (n:Nat) (offs:List (Nat×Nat))
def Ycs (P:Program) (t f s:Nat):Bool:=match P.underlying t with
  | some (.struct fs) => (match fs[f]? with
    | some fd => (match P.info? fd.type with
      | some i=>Nat.beq i.size s
      | none=>false)
    | none=>false)
  | _=>false
def Qmo (P:Program) (t:Nat):Nat→List (Nat×Nat)→Bool
 | f,[]=>(match P.underlying t with | some (.struct fs)=>Nat.beq fs.size f | _=>false)
 | f,o::r=>(Qth P t f o.1&&Ycs P t f o.2)&&Qmo P t (f+1) r
def TI.chk (P:Program) (t:Nat):TI→Bool
 | .no=>true
 | .one=>Qlc P t
 | .int k=>Qlc P t&&(match P.underlying t with | some (.int k')=>decide (k'=k) | _=>false)
 | .bool=>Qlc P t&&(match P.underlying t with | some .bool=>true | _=>false)
 | .str=>Qlc P t&&(match P.underlying t with | some .string=>true | _=>false)
 | .sl e sz b=>Qlc P t&&Qeh P t e sz b
 | .st n offs=>Qil P t n&&Qmo P t 0 offs
theorem Qni {P:Program} {t:Nat}: ∀ {offs:List (Nat×Nat)} {f0 f:Nat} {o:Nat×Nat},Qmo P t f0 offs=true→offs[f]?=some o→Qth P t (f0+f) o.1=true∧Ycs P t (f0+f) o.2=true
 | [],_,_,_,_,h=>by simp at h
 | x :: r, f0, f, o, h, hf => by
  simp only[Qmo,Bool.and_eq_true] at h
  cases f with
  | zero=>simp at hf;subst hf;exact h.1
  | succ f =>
   have:=Qni (f0:=f0+1) (f:=f) h.2 (by simpa using hf)
   rwa [show f0+1+f=f0+(f+1) by omega] at this
def TI.cells:TI→Option Nat
 | .no=>none
 | .st n _=>some n
 | _=>some 1
theorem TI.one_of {P:Program} {t:Nat} {i:TI} (h:i.chk P t=true):(∃ n offs,i= .st n offs)∨i= .no∨(Qlc P t=true∧i.cells=some 1):=by
 cases i with
 | no=>exact .inr (.inl rfl)
 | st n o=>exact .inl ⟨n,o,rfl⟩
 | one=>exact .inr (.inr ⟨h,rfl⟩)
 | int k=>simp only[TI.chk,Bool.and_eq_true] at h;exact .inr (.inr ⟨h.1,rfl⟩)
 | bool=>simp only[TI.chk,Bool.and_eq_true] at h;exact .inr (.inr ⟨h.1,rfl⟩)
 | str=>simp only[TI.chk,Bool.and_eq_true] at h;exact .inr (.inr ⟨h.1,rfl⟩)
 | sl e s b=>simp only[TI.chk,Bool.and_eq_true] at h;exact .inr (.inr ⟨h.1,rfl⟩)
structure St where
 n:Nat
 m:Nat
 ρ:List (Nat×V)
 E:List (Nat×En)
structure Cx where
 P:Program
 fn:Func
 ti:Nat→TI
 zr:Nat→Option Value
 G:World→Prop
 S0:Nat→Prop
 w0:World
 tiok: ∀ t,(ti t).chk P t=true
 zok: ∀ t z,zr t=some z→ ∀ w,(zeroValue t).run P w= .ok z w
 gok: ∀ w,Keep S0 w0 w→G w
 base: ∀ b,S0 b→b<w0.heap.size
 Q:(World→Value→Prop)→World→Value→Prop
structure RH (c:Cx) (θ:List Loc) (E:List (Nat×En)) (S:Nat→Prop) (w1 w:World):Prop where
 k0:Keep c.S0 c.w0 w1
 sub: ∀ b,c.S0 b→S b
 sh:SH S w1 w (E.map fun e=>e.2.ck θ e.1)
 ok: ∀ e∈E,e.2.ok S w1 θ e.1
structure R (c:Cx) (θ:List Loc) (σ:St) (a:Act) (w:World):Prop where
 len:θ.length=σ.m
 env:EnvV σ.n θ σ.ρ a
 heap: ∃ S w1,RH c θ σ.E S w1 w
theorem RH.keep {c:Cx} {θ:List Loc} {E:List (Nat×En)} {S:Nat→Prop} {w1 w:World} (h:RH c θ E S w1 w):Keep c.S0 c.w0 w:=h.k0.trans (h.sh.keep.mono h.sub)
theorem R.keep {c:Cx} {θ:List Loc} {σ:St} {a:Act} {w:World} (h:R c θ σ a w):Keep c.S0 c.w0 w:=let ⟨_,_,hh⟩:=h.heap;hh.keep
theorem R.g {c:Cx} {θ:List Loc} {σ:St} {a:Act} {w:World} (h:R c θ σ a w):c.G w:=c.gok w h.keep
theorem SH.map2 {S:Nat→Prop} {w0 w:World} {ι:Type 1} {E:List ι} {f g:ι→Ck} (h:SH S w0 w (E.map f)) (hfg: ∀ e∈E,(f e).p w→(g e).F=(f e).F∧ ∀ w',(f e).p w'→(g e).p w'):SH S w0 w (E.map g):=by
 have hp: ∀ e∈E,(f e).p w:=fun e he=>(h.ok _ (List.mem_map.2 ⟨e,he,rfl⟩)).here
 have hF: ∀ e∈E,(g e).F=(f e).F:=fun e he=>(hfg e he (hp e he)).1
 refine⟨h.keep,h.dom,fun c hc=>?_,fun c hc b hb=>?_,?_⟩
 ·obtain⟨e,he,rfl⟩:=List.mem_map.1 hc
  intro w' hw'
  refine(hfg e he (hp e he)).2 w' ((h.ok _ (List.mem_map.2 ⟨e,he,rfl⟩)) w' fun b hb=>hw' b ?_)
  rw[hF e he];exact hb
 ·obtain⟨e,he,rfl⟩:=List.mem_map.1 hc
  rw[hF e he] at hb
  exact h.ge _ (List.mem_map.2 ⟨e,he,rfl⟩) b hb
 ·have:(E.map g).flatMap (·.F)=(E.map f).flatMap (·.F):=by
   rw[List.flatMap_map,List.flatMap_map]
   clear hfg hp h
   induction E with
   | nil=>rfl
   | cons x r ih =>
    rw[flatMap_cons,flatMap_cons,hF x (by simp),ih fun e he=>hF e (by simp[he])]
  rw[this]
  exact h.apart
theorem Qaj {θ:List Loc} {r:Nat} {l:Loc} (h:θ[r]?=some l):locF θ r=l.F:=by unfold locF;rw[h]
theorem En.ck_ext {θ θ':List Loc} {r:Nat} {e:En} {w:World} (h:(e.ck θ r).p w):(e.ck (θ++θ') r).F=(e.ck θ r).F∧ ∀ w',(e.ck θ r).p w'→(e.ck (θ++θ') r).p w':=by
 cases e with
 | var cs T =>
  obtain⟨l,b,ccs,hl,_⟩:=h
  refine⟨by show locF _ _=locF _ _;rw[Qaj hl,Qaj (Qem hl)],?_⟩
  rintro w' ⟨l',b',ccs',h1,h2,h3,h4,h5⟩
  exact⟨l',b',ccs',Qem h1,h2,h3,Qkx h4,h5⟩
 | lit cs T n =>
  obtain⟨l,b,ccs,⟨hl,_⟩,_⟩:=h
  refine⟨by show locF _ _=locF _ _;rw[Qaj hl,Qaj (Qem hl)],?_⟩
  rintro w' ⟨l',b',ccs',⟨h1,h1'⟩,h2,h3,h4,h5⟩
  exact⟨l',b',ccs',⟨Qem h1,h1'⟩,h2,h3,Qkx h4,h5⟩
 | own α d xs =>
  obtain⟨l,hl,_⟩:=h
  refine⟨by show locF _ _=locF _ _;rw[Qaj hl,Qaj (Qem hl)],?_⟩
  rintro w' ⟨l',h1,h2⟩
  exact⟨l',Qem h1,h2⟩
 | itr s pos =>
  obtain⟨l,b,hl,_⟩:=h
  refine⟨by show locF _ _=locF _ _;rw[Qaj hl,Qaj (Qem hl)],?_⟩
  rintro w' ⟨l',b',h1,h2,h3,h4⟩
  exact⟨l',b',Qem h1,h2,h3,h4⟩
 | any P =>
  obtain⟨l,hl,_⟩:=h
  refine⟨by show locF _ _=locF _ _;rw[Qaj hl,Qaj (Qem hl)],?_⟩
  rintro w' ⟨l',h1,h2⟩
  exact⟨l',Qem h1,h2⟩
 | ros=>exact⟨rfl,fun _ _=>trivial⟩
 | roc=>exact⟨rfl,fun _ _=>trivial⟩
 | pin=>exact⟨rfl,fun _ _=>trivial⟩
theorem En.ok_ext {S:Nat→Prop} {w1:World} {θ θ':List Loc} {r:Nat} {e:En} (h:e.ok S w1 θ r):e.ok S w1 (θ++θ') r:=by
 cases e with
 | var=>trivial
 | lit=>trivial
 | own=>trivial
 | itr=>trivial
 | any=>trivial
 | pin l=>exact Qem h
 | ros α d xs=>obtain⟨l,h1,h2⟩:=h;exact⟨l,Qem h1,h2⟩
 | roc cs=>obtain⟨l,A,ccs,h1,h2,h3,h4,h5⟩:=h;exact⟨l,A,ccs,Qem h1,h2,Qkx h3,h4,h5⟩
section
variable {c:Cx} {θ θ':List Loc} {E:List (Nat×En)} {S:Nat→Prop} {w1 w w':World} {σ:St} {a:Act}
theorem RH.ext (h:RH c θ E S w1 w):RH c (θ++θ') E S w1 w:=
 ⟨h.k0,h.sub,h.sh.map2 fun e _ hp=>En.ck_ext hp,fun e he=>En.ok_ext (h.ok e he)⟩
theorem RH.fact (h:RH c θ E S w1 w) {r:Nat} {e:En} (hF:(e.ck θ r)=⟨[],fun _=>True⟩) (hok:e.ok S w1 θ r):RH c θ ((r,e)::E) S w1 w:=by
 refine⟨h.k0,h.sub,?_,List.forall_mem_cons.2 ⟨hok,h.ok⟩⟩
 show SH S w1 w (En.ck θ r e::_)
 rw[hF]
 exact h.sh.call (Below.refl _ _) (c:=⟨[],fun _=>True⟩) (fun _ _=>trivial) (fun b hb=>by cases hb) List.nodup_nil
theorem RH.new (h:RH c θ E S w1 w) (hb:Below w.heap.size w w') {r:Nat} {e:En} (hok:(e.ck θ r).ok w') (hge: ∀ b∈(e.ck θ r).F,w.heap.size≤b∧b<w'.heap.size) (hn:(e.ck θ r).F.Nodup) (hf:e.ok S w1 θ r):RH c θ ((r,e)::E) S w1 w':=
 ⟨h.k0,h.sub,h.sh.call hb hok hge hn,List.forall_mem_cons.2 ⟨hf,h.ok⟩⟩
theorem RH.same (h:RH c θ E S w1 w) (hb:Below w.heap.size w w'):RH c θ E S w1 w':=⟨h.k0,h.sub,h.sh.same hb,h.ok⟩
theorem RH.drew (h:RH c θ E S w1 w):RH c θ E S w1 w.drew:=⟨h.k0,h.sub,h.sh.drew,h.ok⟩
end
def lkE:List (Nat×En)→Nat→Option En
 | [],_=>none
 | (t,v)::r,k=>bif Nat.beq t k then some v else lkE r k
def setE (k:Nat) (e:En):List (Nat×En)→List (Nat×En)
 | []=>[]
 | (t,v)::r=>bif Nat.beq t k then(t,e)::r else(t,v)::setE k e r
def delE (k:Nat):List (Nat×En)→List (Nat×En)
 | []=>[]
 | (t,v)::r=>bif Nat.beq t k then r else(t,v)::delE k r
theorem Qrs: ∀ {E:List (Nat×En)} {k:Nat} {e:En},lkE E k=some e→ ∃ i:Nat,E[i]?=some (k,e)∧(∀ e',setE k e' E=E.set i (k,e'))∧delE k E=E.eraseIdx i
 | [],_,_,h=>by cases h
 | (t, v) :: r, k, e, h => by
  simp only[lkE] at h
  by_cases hb:Nat.beq t k=true
  ·rw[hb] at h
   obtain rfl:=Nat.eq_of_beq_eq_true hb
   cases h
   exact⟨0,rfl,fun e'=>by simp[setE],by simp[delE]⟩
  ·rw[Bool.not_eq_true] at hb
   rw[hb] at h
   obtain⟨i,h1,h2,h3⟩:=Qrs h
   exact⟨i+1,by simpa using h1,fun e'=>by simp[setE,hb,h2],by simp[delE,hb,h3]⟩
theorem Qe1 {E:List (Nat×En)} {k:Nat} {e:En} (h:lkE E k=some e):(k,e)∈E:=let ⟨_,h1,_⟩:=Qrs h;mem_of_getElem? h1
def En.cells:En→Option (List V)
 | .var cs _=>some cs
 | .roc cs=>some cs
 | .lit cs _ _=>some cs
 | _=>none
theorem RH.at {c:Cx} {θ:List Loc} {E:List (Nat×En)} {S:Nat→Prop} {w1 w:World} (h:RH c θ E S w1 w) {r:Nat} {e:En} (he:lkE E r=some e) {cs:List V} (hc:e.cells=some cs):
  ∃ l A ccs,θ[r]?=some l∧l.A=some A∧conL θ cs=some ccs∧Qcf w A ccs:=by
 have hm:=Qe1 he
 cases e with
 | var cs' T =>
  cases hc
  obtain⟨l,b,ccs,h1,h2,h3,h4,h5⟩:=(h.sh.ok _ (List.mem_map.2 ⟨_,hm,rfl⟩)).here
  exact⟨l,_,ccs,h1,h2,h4,Qcf.row h5⟩
 | roc cs' =>
  cases hc
  obtain⟨l,A,ccs,h1,h2,h3,h4,h5⟩:=h.ok _ hm
  exact⟨l,A,ccs,h1,h2,h3,h5.keep h.sh.keep h4⟩
 | lit cs' T n =>
  cases hc
  obtain⟨l,b,ccs,h1,h2,h3,h4,h5⟩:=(h.sh.ok _ (List.mem_map.2 ⟨_,hm,rfl⟩)).here
  exact⟨l,_,ccs,h1.1,h2,h4,Qcf.row h5⟩
 | own=>cases hc
 | ros=>cases hc
 | itr=>cases hc
 | any=>cases hc
 | pin=>cases hc
end
section
def ikq:IntKind→IntKind→Bool
 | .i64,.i64=>true
 | .u8,.u8=>true
 | .i32,.i32=>true
 | .u64,.u64=>true
 | .u32,.u32=>true
 | _,_=>false
theorem Yd8 {k q:IntKind} (h:ikq k q=true):k=q:=by
 cases k<;>cases q<;>first | rfl | (simp[ikq] at h)
def andI (k:IntKind) (x y:Int):Int:=k.wrap ((BitVec.ofInt k.bits x &&& BitVec.ofInt k.bits y).toNat:Int)
def orI (k:IntKind) (x y:Int):Int:=k.wrap ((BitVec.ofInt k.bits x ||| BitVec.ofInt k.bits y).toNat:Int)
def xorI (k:IntKind) (x y:Int):Int:=k.wrap ((BitVec.ofInt k.bits x ^^^ BitVec.ofInt k.bits y).toNat:Int)
theorem Ymi {P:Program} {n:Nat} {ρ:List (Nat×Value)} {a:Act} {w:World} {ty:TypeId} (hE:Env n ρ a) {x y:Operand} {t t':Nat} {k:IntKind} {i j:Int} (hx:ev? ρ x=some (.int k i)) (hy:ev? ρ y=some (.int k j)):
  Qb7 P a w (.binOp .and t x y t') ty (.int k (andI k i j)):=Qjw hE hx hy (by rw[show binOp .and t (.int k i) (.int k j)=pure (.int k (andI k i j)) from by simp[binOp,Op.intBits,andI]];rfl)
theorem y_or {P:Program} {n:Nat} {ρ:List (Nat×Value)} {a:Act} {w:World} {ty:TypeId} (hE:Env n ρ a) {x y:Operand} {t t':Nat} {k:IntKind} {i j:Int} (hx:ev? ρ x=some (.int k i)) (hy:ev? ρ y=some (.int k j)):
  Qb7 P a w (.binOp .or t x y t') ty (.int k (orI k i j)):=Qjw hE hx hy (by rw[show binOp .or t (.int k i) (.int k j)=pure (.int k (orI k i j)) from by simp[binOp,Op.intBits,orI]];rfl)
theorem Ymc {P:Program} {n:Nat} {ρ:List (Nat×Value)} {a:Act} {w:World} {ty:TypeId} (hE:Env n ρ a) {x y:Operand} {t t':Nat} {k:IntKind} {i j:Int} (hx:ev? ρ x=some (.int k i)) (hy:ev? ρ y=some (.int k j)):
  Qb7 P a w (.binOp .xor t x y t') ty (.int k (xorI k i j)):=Qjw hE hx hy (by rw[show binOp .xor t (.int k i) (.int k j)=pure (.int k (xorI k i j)) from by simp[binOp,Op.intBits,xorI]];rfl)
def bi (op:BinOp) (k:IntKind) (i j:Int):Option Value:=
 match op with
 | .add=>some (.int k (k.wrap (i+j)))
 | .sub=>some (.int k (k.wrap (i - j)))
 | .mul=>some (.int k (k.wrap (i*j)))
 | .lss=>some (.bool (decide (i<j)))
 | .leq=>some (.bool (decide (i≤j)))
 | .gtr=>some (.bool (decide (i>j)))
 | .geq=>some (.bool (decide (i≥j)))
 | .eql=>some (.bool (decide (i=j)))
 | .neq=>some (.bool (!decide (i=j)))
 | .and=>some (.int k (andI k i j))
 | .or=>some (.int k (orI k i j))
 | .xor=>some (.int k (xorI k i j))
 | _=>none
def bs (op:BinOp) (i j:ByteArray):Option Value:=
 match op with
 | .eql=>some (.bool (decide (i=j)))
 | .neq=>some (.bool (!decide (i=j)))
 | _=>none
def bb (op:BinOp) (t:TI) (i j:Bool):Option Value:=
 match op,t with
 | .eql,.bool=>some (.bool (decide (i=j)))
 | .neq,.bool=>some (.bool (!decide (i=j)))
 | _,_=>none
def bin (op:BinOp) (t:TI):Value→Value→Option Value
 | .int k i,.int q j=>bif ikq k q then bi op k i j else none
 | .string i,.string j=>bs op i j
 | .bool i,.bool j=>bb op t i j
 | _,_=>none
theorem Ylp {P:Program} {n:Nat} {ρ:List (Nat×Value)} {a:Act} {w:World} {ty:TypeId} (hE:Env n ρ a) {x y:Operand} {t t':Nat} {i:TI} (hi:i.chk P t=true) {op:BinOp} {u v r:Value}
  (hx:ev? ρ x=some u) (hy:ev? ρ y=some v) (h:bin op i u v=some r):Qb7 P a w (.binOp op t x y t') ty r:=by
 unfold bin at h
 split at h
 ·rename_i k a1 q b1
  cases hk:ikq k q with
  | false=>rw[hk] at h;cases h
  | true =>
   rw[hk] at h
   obtain rfl:=Yd8 hk
   cases op<;>simp only[bi,cond_true] at h<;>cases h<;>first
     | exact Ydg hE hx hy | exact Yhq hE hx hy | exact Ymd hE hx hy | exact Ya5 hE hx hy | exact Ygj hE hx hy | exact Ymg hE hx hy | exact Ygk hE hx hy | exact Ygm hE hx hy | exact Yhs hE hx hy | exact Ymi hE hx hy | exact y_or hE hx hy | exact Ymc hE hx hy
 ·cases op<;>simp only[bs] at h<;>cases h<;>first | exact Q4n hE hx hy | exact Q4m hE hx hy
 ·cases op<;>cases i<;>simp only[bb] at h<;>cases h
  all_goals
   simp only[TI.chk,Bool.and_eq_true] at hi
   have hu:P.underlying t=some .bool:=by
    have:=hi.2
    split at this
    ·assumption
    ·cases this
   first | exact Q93 hE hx hy hu | exact Q92 hE hx hy hu
 ·cases h
def V.cells:V→Option (List V)
 | .ag cs=>some cs
 | .v (.int k i)=>some [.v (.int k i)]
 | .v (.bool b)=>some [.v (.bool b)]
 | .v (.string s)=>some [.v (.string s)]
 | .v (.slice A n m)=>some [.v (.slice A n m)]
 | .v (.agg l)=>some (l.toList.map .v)
 | .sl r n=>some [.sl r n]
 | .pt r o=>some [.pt r o]
 | _=>none
def V.one:V→Bool
 | .v (.int _ _)=>true
 | .v (.bool _)=>true
 | .v (.string _)=>true
 | .v (.slice _ _ _)=>true
 | .sl _ _=>true
 | .pt _ _=>true
 | _=>false
def oneL:List V→Bool
 | []=>true
 | x::r=>an x.one (oneL r)
theorem V.one_ok {θ:List Loc} {v:V} {x:Value} (h:v.one=true) (hc:v.con θ=some x):x.oneCell'=true∧x.cells= #[x]:=by
 cases v with
 | v y =>
  cases hc
  cases x<;>simp only[V.one] at h<;>cases h<;>exact⟨rfl,rfl⟩
 | sl r n =>
  simp only[V.con] at hc
  split at hc
  ·cases hc;exact⟨rfl,rfl⟩
  ·cases hc
 | pt r n =>
  simp only[V.con] at hc
  split at hc
  ·cases hc;exact⟨rfl,rfl⟩
  ·cases hc
 | ag=>cases h
 | fn=>cases h
 | tu=>cases h
 | gd=>cases h
theorem Q6a {θ:List Loc}: ∀ (l:List Value),conL θ (l.map .v)=some l
 | []=>rfl
 | x::r=>by simp only[map_cons,conL,V.con,Q6a r]
theorem V.cells_ok {θ:List Loc} {v:V} {cs:List V} {x:Value} (h:v.cells=some cs) (hc:v.con θ=some x): ∃ l,conL θ cs=some l∧x.cells=l.toArray:=by
 cases v with
 | v y =>
  cases hc
  cases x<;>simp only[V.cells] at h
  all_goals cases h
  all_goals first
   | exact⟨_,rfl,rfl⟩
   | exact⟨_,Q6a _,by simp[Value.cells]⟩
 | sl r n =>
  cases h
  refine⟨[x],by simp only[conL,hc],?_⟩
  exact(V.one_ok (v:= .sl r n) rfl hc).2
 | pt r n =>
  cases h
  refine⟨[x],by simp only[conL,hc],?_⟩
  exact(V.one_ok (v:= .pt r n) rfl hc).2
 | ag cs' =>
  cases h
  simp only[V.con,Option.map_eq_some_iff] at hc
  obtain⟨l,hl,rfl⟩:=hc
  exact⟨l,hl,rfl⟩
 | fn=>cases h
 | tu=>cases h
 | gd=>cases h
theorem Qx7 {θ:List Loc}: ∀ {cs:List V} {l:List Value},oneL cs=true→conL θ cs=some l→l.all Value.oneCell'=true
 | [],l,_,h=>by cases h;rfl
 | x :: r, l, h1, h => by
  obtain⟨a,b,rfl,h2,h3⟩:=Qgf h
  simp only[oneL,Yer,Bool.and_eq_true] at h1
  rw[List.all_cons,(V.one_ok h1.1 h2).1,Qx7 h1.2 h3]
  rfl
def nthN:List (Nat×Nat)→Nat→Option (Nat×Nat)
 | [],_=>none
 | x::r,k=>bif Nat.beq k 0 then some x else nthN r (Nat.pred k)
theorem Qx8: ∀ {l:List (Nat×Nat)} {k:Nat} {o:Nat×Nat},nthN l k=some o→l[k]?=some o
 | [],_,_,h=>by cases h
 | x::r,0,o,h=>by simpa [nthN] using h
 | x::r,k+1,o,h=>by simp[nthN] at h;simpa using Qx8 h
def tuAt:List V→Nat→Option V
 | [],_=>none
 | x::r,k=>bif Nat.beq k 0 then some x else tuAt r (Nat.pred k)
theorem Qpi: ∀ {l:List V} {k:Nat} {o:V},tuAt l k=some o→l[k]?=some o
 | [],_,_,h=>by cases h
 | x::r,0,o,h=>by simpa [tuAt] using h
 | x::r,k+1,o,h=>by simp[tuAt] at h;simpa using Qpi h
def ldC (i:TI) (off:Nat) (cs:List V):Option V:=
 match i with
 | .no=>none
 | .st n _=>bif Nat.ble (off+n) cs.length then some (.ag ((cs.drop off).take n)) else none
 | _=>tuAt cs off
def ldE (i:TI) (off:Nat):Option En→Option V
 | some (.var cs _)=>ldC i off cs
 | some (.roc cs)=>ldC i off cs
 | _=>none
def Qoz (cs ds:List V) (off n:Nat):List V:=cs.take off++ds++cs.drop (off+n)
theorem Qyv {θ:List Loc} {cs ds:List V} {l m:List Value} (h1:conL θ cs=some l) (h2:conL θ ds=some m) (off n:Nat):conL θ (Qoz cs ds off n)=some (l.take off++m++l.drop (off+n)):=
 Qot (Qot (Qob off h1) h2) (Qoc (off+n) h1)
def Qz5 (cs:List V) (o:Nat×Nat):Option (List V)→Option (List V)
 | some ds=>bif an (Nat.beq ds.length o.2) (Nat.ble (o.1+o.2) cs.length) then some (Qoz cs ds o.1 o.2) else none
 | none=>none
def Qyp (cs:List V):Option (Nat×Nat)→Option V→Option (List V)
 | some o,some v=>Qz5 cs o v.cells
 | _,_=>none
def Qul (e:Operand→Option V) (places:List (Nat×Nat)):Option (List V)→List (Nat×Operand)→Option (List V)
 | none,_=>none
 | some cs,[]=>some cs
 | some cs,(i,x)::r=>Qul e places (Qyp cs (nthN places i) (e x)) r
theorem Q55 (off:Nat) (ds:List Value) (cs:Array Value) (h:off+ds.length≤cs.size):((ds.zipIdx 0).foldl (fun cs (x:Value×Nat)=>cs.setIfInBounds (off+x.2) x.1) cs)=(cs.toList.take off++ds++cs.toList.drop (off+ds.length)).toArray:=by
 obtain⟨h1,h2⟩:=Go.Great.foldl_set off ds 0 cs
 apply Array.ext_getElem?
 intro k
 rw[h2 k]
 have hl:cs.toList.length=cs.size:=Array.length_toList
 simp only[Nat.add_zero,List.getElem?_toArray]
 rw[append_assoc]
 by_cases hk:k<off
 ·rw[if_neg (by omega),List.getElem?_append_left (by rw[length_take];omega),getElem?_take,if_pos hk,Array.getElem?_toList]
 ·rw[List.getElem?_append_right (by rw[length_take];omega),length_take,Nat.min_eq_left (by omega)]
  by_cases hk2:k<off+ds.length
  ·rw[if_pos (by omega),List.getElem?_append_left (by omega)]
  ·rw[if_neg (by omega),List.getElem?_append_right (by omega),getElem?_drop,Array.getElem?_toList]
   congr 1
   omega
def pkV:Option V→Option V→Option V→Option V
 | some (.v (.bool true)),a,_=>a
 | some (.v (.bool false)),_,b=>b
 | _,_,_=>none
def wrV:Option Value→Option V
 | some r=>some (.v r)
 | none=>none
def binV (op:BinOp) (t:TI):Option V→Option V→Option V
 | some (.v u),some (.v v)=>wrV (bin op t u v)
 | _,_=>none
def unV:UnOp→Option V→Option V
 | .not,some (.v (.bool b))=>some (.v (.bool (!b)))
 | .neg,some (.v (.int k i))=>some (.v (.int k (k.wrap (-i))))
 | _,_=>none
def ldV (i:TI) (E:List (Nat×En)):Option V→Option V
 | some (.pt r off)=>ldE i off (lkE E r)
 | _=>none
def ncV:Option V→Option V
 | some (.pt r off)=>some (.pt r off)
 | _=>none
def faW (r off:Nat):Option (Nat×Nat)→Option V
 | some o=>some (.pt r (off+o.1))
 | none=>none
def faV (f:Nat):TI→Option V→Option V
 | .st _ offs,some (.pt r off)=>faW r off (nthN offs f)
 | _,_=>none
def agO:Option (List V)→Option V
 | some cs=>some (.ag cs)
 | none=>none
def blV (e:Operand→Option V) (parts:List (Nat×Operand)):TI→Option Value→Option V
 | .st n offs,some (.agg z)=>bif Nat.beq z.size n then agO (Qul e offs (some (z.toList.map .v)) parts) else none
 | _,_=>none
def exV (i:Nat):Option V→Option V
 | some (.tu l)=>tuAt l i
 | _=>none
def mfV (f:FuncId):Option (List V)→Option V
 | some l=>some (.fn f l)
 | none=>none
def lenV:Option V→TI→Option V
 | some (.sl _ n),.sl _ _ _=>some (.v (.int .i64 n))
 | some (.v (.slice _ n _)),.sl _ _ _=>some (.v (.int .i64 n))
 | some (.v (.string s)),.str=>some (.v (.int .i64 s.size))
 | _,_=>none
def u8of (i:Int):UInt8:=UInt8.ofNat (IntKind.u8.wrap i).toNat
theorem Q6t (i:Int):IntKind.u8.wrap i=(u8of i).toNat:=by
 have h:IntKind.u8.wrap i=i % 256:=by simp[IntKind.wrap,IntKind.bits,IntKind.signed]
 unfold u8of
 rw[h,UInt8.toNat_ofNat']
 omega
def caV (ti:Nat→TI) (e:Operand→Option V):Callee→List Operand→List TypeId→Option V
 | .builtin .len,[x],[t]=>lenV (e x) (ti t)
 | _,_,_=>none
def cvV:TI→TI→Option V→Option V
 | .int _,.int .u8,some (.v (.int _ i))=>some (.v (.int .u8 (u8of i).toNat))
 | .int _,.int q,some (.v (.int _ i))=>some (.v (.int q (q.wrap i)))
 | _,_,_=>none
def pv (ti:Nat→TI) (zr:Nat→Option Value) (e:Operand→Option V) (es:List Operand→Option (List V)) (E:List (Nat×En)):Op→Option V
 | .move x=>e x
 | .assign x=>e x
 | .pick c a b=>pkV (e c) (e a) (e b)
 | .binOp op t x y _=>binV op (ti t) (e x) (e y)
 | .unOp op _ x=>unV op (e x)
 | .load t x=>ldV (ti t) E (e x)
 | .fieldAddr t x f=>faV f (ti t) (e x)
 | .nilCheck x=>ncV (e x)
 | .build t parts=>blV e parts.toList (ti t) (zr t)
 | .extract x i=>exV i (e x)
 | .convert s t x=>cvV (ti s) (ti t) (e x)
 | .makeFunc (.func f) first xs=>bif Nat.beq first.size 0 then mfV f (es xs.toList) else none
 | .call c=>caV ti e c.callee c.args.toList c.argTypes.toList
 | _=>none
structure Ea (θ:List Loc) (a:Act) (e:Operand→Option V) (es:List Operand→Option (List V)) (L:List Operand):Prop where
 one: ∀ x∈L,∀ v,e x=some v→v.con θ=some (a.eval x)∧ev? (selfρ a) x=some (a.eval x)
 all: ∀ xs,(∀ x∈xs,x∈L)→ ∀ vs,es xs=some vs→ ∃ us,conL θ vs=some us∧xs.map (ev? (selfρ a))=us.map some
theorem Ea.is {θ:List Loc} {a:Act} {e:Operand→Option V} {es:List Operand→Option (List V)} {L:List Operand} (h:Ea θ a e es L) {x:Operand} (hL:x∈L) {v:V} {u:Value} (hx:e x=some v) (hu:v.con θ=some u):ev? (selfρ a) x=some u:=by
 have:=(h.one x hL v hx).1
 rw[hu] at this
 cases this
 exact(h.one x hL v hx).2
theorem Ea.isv {θ:List Loc} {a:Act} {e:Operand→Option V} {es:List Operand→Option (List V)} {L:List Operand} (h:Ea θ a e es L) {x:Operand} (hL:x∈L) {u:Value} (hx:e x=some (.v u)):ev? (selfρ a) x=some u:=h.is hL hx rfl
theorem Qqz {θ:List Loc} {r off:Nat} {x:Value} (h:(V.pt r off).con θ=some x): ∃ l A,θ[r]?=some l∧l.A=some A∧x= .pointer (some (A.add off)):=by
 simp only[V.con] at h
 split at h
 ·rename_i A c F hr
  cases h
  exact⟨_,A,hr,rfl,rfl⟩
 ·cases h
theorem Yh3 {c:Cx} {θ:List Loc} {σ:St} {a:Act} {w:World} (h:R c θ σ a w) {t:Nat} {x:Operand} {r off:Nat} {ty:TypeId} (hx:(V.pt r off).con θ=some (a.eval x)) (hx':ev? (selfρ a) x=some (a.eval x)) {e:En} (he:lkE σ.E r=some e) {cs:List V} (hcs:e.cells=some cs) {v:V}
  (hv:ldC (c.ti t) off cs=some v): ∃ u,v.con θ=some u∧Qb7 c.P a w (.load t x) ty u:=by
 have hE:=h.env.env
 obtain⟨S,w1,hh⟩:=h.heap
 obtain⟨l,A,ccs,h1,h2,h3,h4⟩:=hh.at he hcs
 obtain⟨l',A',h1',h2',hp⟩:=Qqz hx
 rw[h1] at h1';cases h1'
 rw[h2] at h2';cases h2'
 rw[hp] at hx'
 have hti:=c.tiok t
 unfold ldC at hv
 split at hv
 ·cases hv
 ·rename_i n offs heq
  rw[heq] at hti
  simp only[TI.chk,Bool.and_eq_true] at hti
  cases hb:Nat.ble (off+n) cs.length with
  | false=>rw[hb] at hv;cases hv
  | true =>
   rw[hb] at hv
   cases hv
   have hlen:=Qhi h3
   have hle:=Nat.le_of_ble_eq_true hb
   refine⟨.agg ((ccs.drop off).take n).toArray,?_,Q2b hE hx' h4 rfl ?_ hti.1⟩
   ·simp only[V.con,Qob n (Qoc off h3),Option.map_some]
   ·rw[length_take,length_drop];omega
 ·rename_i hno hst
  obtain⟨u,hu,hcu⟩:=Qql h3 (Qpi hv)
  refine⟨u,hcu,Qnt hE hx' h4 hu ?_⟩
  rcases TI.one_of hti with ⟨n,o,e⟩ | e | h
  ·exact absurd e (by intro h;exact hst n o h)
  ·exact absurd e (by intro h;exact hno h)
  ·exact h.1
theorem Yai {e:Operand→Option V} {places:List (Nat×Nat)} {parts:List (Nat×Operand)}:Qul e places none parts=none:=by cases parts<;>rfl
theorem Q8s {θ:List Loc} {a:Act} {e:Operand→Option V} {places:List (Nat×Nat)} {pl:Nat→Option (Nat×Nat)} (hpl: ∀ i o,places[i]?=some o→pl i=some o): ∀ {parts:List (Nat×Operand)} {cs cs':List V} {l:List Value},(∀ p∈parts,∀ v,e p.2=some v→v.con θ=some (a.eval p.2))→conL θ cs=some l→Qul e places (some cs) parts=some cs'→
  ∃ l',conL θ cs'=some l'∧l'.length=l.length∧Instr.fill pl l.toArray (parts.map fun p=>(p.1,a.eval p.2))=some l'.toArray
 | [],cs,cs',l,_,hc,h=>by cases h;exact⟨l,hc,rfl,rfl⟩
 | (i, x) :: r, cs, cs', l, he, hc, h => by
  simp only[Qul] at h
  cases hs:Qyp cs (nthN places i) (e x) with
  | none=>rw[hs,Yai] at h;cases h
  | some cs1 =>
   rw[hs] at h
   unfold Qyp at hs
   split at hs
   ·rename_i o v ho hv
    unfold Qz5 at hs
    split at hs
    ·rename_i ds hds
     cases hb:an (Nat.beq ds.length o.2) (Nat.ble (o.1+o.2) cs.length) with
     | false=>rw[hb] at hs;cases hs
     | true =>
      rw[hb] at hs
      cases hs
      simp only[Yer,Bool.and_eq_true] at hb
      have h1:=Nat.eq_of_beq_eq_true hb.1
      have h2:=Nat.le_of_ble_eq_true hb.2
      obtain⟨dl,hdl,hcells⟩:=V.cells_ok hds (he (i,x) (by simp) v hv)
      simp only at hcells
      have hlen:=Qhi hc
      have hdlen:=Qhi hdl
      obtain⟨l',hl',hll,hf⟩:=Q8s hpl (fun p hp=>he p (mem_cons_of_mem _ hp)) (Qyv hc hdl o.1 o.2) h
      refine⟨l',hl',?_,?_⟩
      ·rw[hll];simp only[length_append,length_take,length_drop];omega
      ·rw[map_cons]
       unfold Instr.fill
       rw[hpl i o (Qx8 ho)]
       simp only
       rw[if_neg (by rw[hcells];simp;omega)]
       rw[←hf]
       congr 1
       rw[hcells]
       rw[←Array.foldl_toList,Array.toList_zipIdx]
       have:=Q55 o.1 dl l.toArray (by simp;omega)
       rw[hdlen,h1] at this
       exact this
    ·cases hs
   ·cases hs
theorem Qte {P:Program} {t:Nat}: ∀ {offs:List (Nat×Nat)} {f0:Nat},Qmo P t f0 offs=true→ ∃ fs,P.underlying t=some (.struct fs)∧fs.size=f0+offs.length
 | [], f0, h => by
  simp only[Qmo] at h
  split at h
  ·rename_i fs hu
   exact⟨fs,hu,Nat.eq_of_beq_eq_true h⟩
  ·cases h
 | o :: r, f0, h => by
  simp only[Qmo,Bool.and_eq_true] at h
  obtain⟨fs,hu,hs⟩:=Qte h.2
  exact⟨fs,hu,by rw[hs,length_cons];omega⟩
theorem Q2h {P:Program} {w:World}: ∀ (l:List Field) (ps:List (Nat×Nat)),l.length=ps.length→(∀ (i:Nat) (fd:Field) (o:Nat×Nat),l[i]?=some fd→ps[i]?=some o→fd.offset=o.1∧(sizeOf fd.type).run P w= .ok o.2 w)→
  (l.mapM (m:=Sem) fun f=>do pure (f.offset,←sizeOf f.type)).run P w= .ok ps w
 | [],[],_,_=>by simp
 | [],_::_,h,_=>by simp at h
 | _::_,[],h,_=>by simp at h
 | fd :: l, o :: ps, hl, h => by
  have h0:=h 0 fd o rfl rfl
  have ih:=Q2h (P:=P) (w:=w) l ps (by simpa using hl) fun i fd o h1 h2=>h (i+1) fd o (by simpa using h1) (by simpa using h2)
  rw[List.mapM_cons]
  simp only[Sem.run_bind,Sem.run_pure,Result.andThen_ok,h0.2,ih,h0.1]
theorem Ye3 {c:Cx} {θ:List Loc} {σ:St} {a:Act} {w:World} (h:R c θ σ a w) {e:Operand→Option V} {es:List Operand→Option (List V)} {op:Op} (he:Ea θ a e es op.operands.toList) {ty:TypeId} {v:V} (hv:pv c.ti c.zr e es σ.E op=some v): ∃ u,v.con θ=some u∧Qb7 c.P a w op ty u:=by
 have hE:=h.env.env
 cases op with
 | move x=>exact⟨_,(he.one x (by simp[Op.operands]) _ hv).1,Qez hE (he.one x (by simp[Op.operands]) _ hv).2⟩
 | assign x=>exact⟨_,(he.one x (by simp[Op.operands]) _ hv).1,Qdd hE (he.one x (by simp[Op.operands]) _ hv).2⟩
 | pick cc x y =>
  simp only[pv] at hv
  unfold pkV at hv
  split at hv
  ·rename_i hc
   exact⟨_,(he.one x (by simp[Op.operands]) _ hv).1,Qxo hE (he.isv (by simp[Op.operands]) hc) rfl (he.one x (by simp[Op.operands]) _ hv).2⟩
  ·rename_i hc
   exact⟨_,(he.one y (by simp[Op.operands]) _ hv).1,Qxp hE (he.isv (by simp[Op.operands]) hc) rfl (he.one y (by simp[Op.operands]) _ hv).2⟩
  ·cases hv
 | binOp op t x y t' =>
  simp only[pv] at hv
  unfold binV at hv
  split at hv
  ·rename_i u v' hx hy
   unfold wrV at hv
   split at hv
   ·rename_i r hr
    cases hv
    exact⟨r,rfl,Ylp hE (c.tiok t) (he.isv (by simp[Op.operands]) hx) (he.isv (by simp[Op.operands]) hy) hr⟩
   ·cases hv
  ·cases hv
 | unOp op t x =>
  simp only[pv] at hv
  unfold unV at hv
  split at hv
  ·rename_i b hb
   cases hv
   exact⟨_,rfl,Yhr hE (he.isv (by simp[Op.operands]) hb)⟩
  ·rename_i k i hb
   cases hv
   exact⟨_,rfl,Yht hE (he.isv (by simp[Op.operands]) hb)⟩
  ·cases hv
 | load t x =>
  simp only[pv] at hv
  unfold ldV at hv
  split at hv
  ·rename_i r off hx
   obtain⟨h1,h2⟩:=he.one x (by simp[Op.operands]) _ hx
   cases he':lkE σ.E r with
   | none=>rw[he'] at hv;cases hv
   | some e' =>
    rw[he'] at hv
    cases e' with
    | var cs T=>exact Yh3 h h1 h2 he' rfl hv
    | roc cs=>exact Yh3 h h1 h2 he' rfl hv
    | lit cs T n=>cases hv
    | own=>cases hv
    | ros=>cases hv
    | itr=>cases hv
    | any=>cases hv
    | pin=>cases hv
  ·cases hv
 | nilCheck x =>
  simp only[pv] at hv
  unfold ncV at hv
  split at hv
  ·rename_i r off hx
   cases hv
   obtain⟨h1,h2⟩:=he.one x (by simp[Op.operands]) _ hx
   refine⟨_,h1,?_⟩
   intro _ _ _ _
   simp only[V.con] at h1
   split at h1
   ·rename_i A _ _ _
    have h1':=(Option.some.inj h1).symm
    simp only[execOp,h1']
    rfl
   ·cases h1
  ·cases hv
 | fieldAddr t x f =>
  simp only[pv] at hv
  unfold faV at hv
  split at hv
  ·rename_i n offs r off ht hx
   unfold faW at hv
   split at hv
   ·rename_i o ho
    cases hv
    obtain⟨hc1,hc2⟩:=he.one x (by simp[Op.operands]) _ hx
    obtain⟨l,A,h1,h2,hp⟩:=Qqz hc1
    have hti:=c.tiok t
    rw[ht] at hti
    simp only[TI.chk,Bool.and_eq_true] at hti
    have hf:=Qni hti.2 (Qx8 ho)
    rw[Nat.zero_add] at hf
    rw[hp] at hc2
    refine⟨.pointer (some (A.add (off+o.1))),?_,Q6s hE hc2 hf.1 rfl⟩
    obtain⟨A',cap,F⟩:=l
    simp only at h2
    subst h2
    simp only[V.con,h1]
   ·cases hv
  ·cases hv
 | build t parts =>
  simp only[pv] at hv
  unfold blV at hv
  split at hv
  ·rename_i n offs z ht hz
   cases hb:Nat.beq z.size n with
   | false=>rw[hb] at hv;cases hv
   | true =>
    rw[hb] at hv
    simp only[cond_true] at hv
    unfold agO at hv
    split at hv
    ·rename_i cs hcs
     cases hv
     have hti:=c.tiok t
     rw[ht] at hti
     simp only[TI.chk,Bool.and_eq_true] at hti
     obtain⟨fs,hu,hsz⟩:=Qte hti.2
     rw[Nat.zero_add] at hsz
     have hall: ∀ (i:Nat) fd o,fs.toList[i]?=some fd→offs[i]?=some o→fd.offset=o.1∧(sizeOf fd.type).run c.P w= .ok o.2 w:=by
      intro i fd o h1 h2
      have hf:=Qni hti.2 h2
      rw[Nat.zero_add] at hf
      rw[Array.getElem?_toList] at h1
      obtain⟨fs',fd',hu',hf',ho',_⟩:=Qtg hf.1
      rw[hu] at hu';cases hu'
      rw[h1] at hf';cases hf'
      refine⟨ho',?_⟩
      have hs:=hf.2
      unfold Ycs at hs
      rw[hu] at hs
      simp only[h1] at hs
      split at hs
      ·rename_i inf hinf
       simp[sizeOf,typeInfo,hinf,Nat.eq_of_beq_eq_true hs]
      ·cases hs
     have hp:=Q2h (P:=c.P) (w:=w) fs.toList offs (by simpa using hsz) hall
     obtain ⟨l', hl', _, hfill⟩ := Q8s (θ := θ) (a := a) (e := e) (pl := fun i => offs.toArray[i]?) (fun i o h => by simpa using h) (parts := parts.toList) (fun p hp v hv => (he.one p.2 (by
      simp only[Op.operands]
      exact List.mem_map.2 ⟨p,hp,rfl⟩) v hv).1) (Q6a z.toList) hcs
     refine⟨.agg l'.toArray,by simp only[V.con,hl',Option.map_some],?_⟩
     intro dst pos after g
     have hm:(parts.map fun(x:Nat×Operand)=>match x with | (i,x)=>(i,a.eval x)).toList=parts.toList.map fun p=>(p.1,a.eval p.2):=by rw[Array.toList_map]
     have hmap:(fs.mapM (m:=Sem) fun f=>do pure (f.offset,←sizeOf f.type)).run c.P w= .ok offs.toArray w:=by
      rw[Array.mapM_eq_mapM_toList]
      rw[←bind_pure_comp]
      simp only[Sem.run_bind,hp,Result.andThen_ok,Sem.run_pure]
     simp only[execOp,Instr.build,Sem.run_bind,c.zok t _ hz w,Result.andThen_ok,run_underlying hu,hmap,hm,Value.cells,hfill,Sem.run_pure]
    ·cases hv
  ·cases hv
 | extract x i =>
  simp only[pv] at hv
  unfold exV at hv
  split at hv
  ·rename_i l hx
   obtain⟨hc,hc2⟩:=he.one x (by simp[Op.operands]) _ hx
   simp only[V.con,Option.map_eq_some_iff] at hc
   obtain⟨us,hus,hp⟩:=hc
   obtain⟨u,hu,hcu⟩:=Qql hus (Qpi hv)
   rw[←hp] at hc2
   exact⟨u,hcu,Ya6 hE hc2 hu⟩
  ·cases hv
 | convert s t x =>
  simp only[pv] at hv
  unfold cvV at hv
  split at hv
  ·rename_i k k' i h1 h2 hx
   cases hv
   rw[←Q6t]
   refine⟨_,rfl,Q2v hE (he.isv (by simp[Op.operands]) hx) ?_⟩
   have g1:=c.tiok s
   have g2:=c.tiok t
   rw[h1] at g1
   rw[h2] at g2
   simp only[TI.chk,Bool.and_eq_true] at g1 g2
   simp only[Qti,Bool.and_eq_true]
   refine⟨?_,g2.2⟩
   have:=g1.2
   split at this
   ·rename_i hu;rw[hu];rfl
   ·cases this
  ·rename_i k q k' i _ h1 h2 hx
   cases hv
   refine⟨_,rfl,Q2v hE (he.isv (by simp[Op.operands]) hx) ?_⟩
   have g1:=c.tiok s
   have g2:=c.tiok t
   rw[h1] at g1
   rw[h2] at g2
   simp only[TI.chk,Bool.and_eq_true] at g1 g2
   simp only[Qti,Bool.and_eq_true]
   refine⟨?_,g2.2⟩
   have:=g1.2
   split at this
   ·rename_i hu;rw[hu];rfl
   ·cases this
  ·cases hv
 | makeFunc f first xs =>
  cases f with
  | func g =>
   simp only[pv] at hv
   cases hb:Nat.beq first.size 0 with
   | false=>rw[hb] at hv;cases hv
   | true =>
    rw[hb] at hv
    simp only[cond_true] at hv
    unfold mfV at hv
    split at hv
    ·rename_i vs hvs
     cases hv
     have h0:first= #[]:=Array.size_eq_zero_iff.1 (Nat.eq_of_beq_eq_true hb)
     subst h0
     obtain⟨us,hus,hm⟩:=he.all xs.toList (fun x hx=>by simpa [Op.operands] using hx) vs hvs
     exact⟨.func (.func g) #[] us.toArray,by simp only[V.con,hus,Option.map_some],Q2a hE hm⟩
    ·cases hv
  | _=>simp[pv] at hv
 | call cl =>
  obtain⟨callee,args,argTypes⟩:=cl
  simp only[pv] at hv
  unfold caV at hv
  split at hv
  ·rename_i x t hargs htys
   have ha:args= #[x]:=Array.toList_inj.1 hargs
   have ht:argTypes= #[t]:=Array.toList_inj.1 htys
   subst ha
   subst ht
   have hti:=c.tiok t
   unfold lenV at hv
   split at hv
   ·rename_i r n e' s b hx hi
    cases hv
    rw[hi] at hti
    simp only[TI.chk,Bool.and_eq_true] at hti
    obtain⟨hc,hc2⟩:=he.one x (by simp[Op.operands,Call.operands]) _ hx
    simp only[V.con] at hc
    split at hc
    ·rename_i l hl
     injection hc with hc
     rw[←hc] at hc2
     exact⟨_,rfl,Qxv hE hc2 hti.2⟩
    ·cases hc
   ·rename_i A n m e' s b hx hi
    cases hv
    rw[hi] at hti
    simp only[TI.chk,Bool.and_eq_true] at hti
    exact⟨_,rfl,Qxv hE (he.isv (by simp[Op.operands,Call.operands]) hx) hti.2⟩
   ·rename_i s hx hi
    cases hv
    rw[hi] at hti
    simp only[TI.chk,Bool.and_eq_true] at hti
    have hu:c.P.underlying t=some .string:=by
     have:=hti.2
     split at this
     ·assumption
     ·cases this
    exact⟨_,rfl,Qm0 hE (he.isv (by simp[Op.operands,Call.operands]) hx) hu⟩
   ·cases hv
  ·cases hv
 | _=>cases hv
theorem EnvV.ea {n:Nat} {θ:List Loc} {ρ:List (Nat×V)} {a:Act} (h:EnvV n θ ρ a) (L:List Operand):Ea θ a (ev ρ) (evs ρ) L:=
 ⟨fun x _ v hx=>⟨h.con hx,h.ev1 hx⟩,fun xs _ vs hx=>h.evsL hx⟩
theorem Ymp {c:Cx} {θ:List Loc} {σ:St} {a:Act} {w:World} (h:R c θ σ a w) {op:Op} {ty:TypeId} {v:V} (hv:pv c.ti c.zr (ev σ.ρ) (evs σ.ρ) σ.E op=some v): ∃ u,v.con θ=some u∧Qb7 c.P a w op ty u:=
 Ye3 h (h.env.ea _) hv
def V.strip:V→V
 | .gd _ y=>y
 | .v x=> .v x
 | .sl r n=> .sl r n
 | .pt r o=> .pt r o
 | .ag cs=> .ag cs
 | .fn f cs=> .fn f cs
 | .tu cs=> .tu cs
def stO':Option V→Option V
 | some v=>some v.strip
 | none=>none
def evG (ρ:List (Nat×V)) (x:Operand):Option V:=stO' (ev ρ x)
def V.side (B:Bool):V→Prop→Prop
 | .gd b _,p=>(B=true→b=true)∧p
 | .v _,p=>p
 | .sl _ _,p=>p
 | .pt _ _,p=>p
 | .ag _,p=>p
 | .fn _ _,p=>p
 | .tu _,p=>p
def sdV (B:Bool):Option V→Prop→Prop
 | some v,p=>v.side B p
 | none,p=>p
def Qf8 (B:Bool) (acc:Prop) (ρ:List (Nat×V)):List Operand→Prop
 | []=>acc
 | x::r=>sdV B (ev ρ x) (Qf8 B acc ρ r)
def wnt:Bool→Bool→Bool
 | true,b=>b
 | false,b=>!b
def Qx5 (b:Bool) (x y:Operand) (u v:V):Option Value:=match x,y with
 | .const (.bool true), _ => match v with
  | .v (.bool v)=>some (.bool (b||v))
  | _=>none
 | _, .const (.bool false) => match u with
  | .v (.bool u)=>some (.bool (b&&u))
  | _=>none
 | _, _ => match u, v with
  | .v (.bool u),.v (.bool v)=>some (.bool (bif b then u else v))
  | _,_=>none
end
section
inductive Ar0:Type 1 where
 | c (x:Value)
 | st (α:Type) (d:Dat α) (s:@Str α d) (x:α)
 | sl (α:Type) (d:Dat α) (xs:List α)
 | rp (α:Type) (d:Dat α) (s:@Str α d) (x:α)
inductive Arg:Type 1 where
 | o (a:Ar0)
 | fn (f:FuncId) (caps:List Ar0)
inductive Re:Type 1 where
 | c (x:Value)
 | st (α:Type) (d:Dat α) (s:@Str α d) (x:α)
 | sl (α:Type) (d:Dat α) (xs:List α)
def Ar0.R (w:World) (v:Value):Ar0→Prop
 | .c x=>v=x
 | .st _ _ _ x=> ∃ cs:List Value,v= .agg cs.toArray∧Dat.rd (Old w) w cs x
 | .sl _ _ xs=>SlR (Old w) w v xs
 | .rp _ _ _ x=> ∃ (A:Addr) (cs:List Value),v= .pointer (some (A.add 0))∧A.block<w.heap.size∧Qcf w A cs∧Dat.rd (Old w) w cs x
def AsR (w:World):List Value→List Ar0→Prop
 | [],[]=>True
 | v::vs,x::xs=>x.R w v∧AsR w vs xs
 | _,_=>False
def Arg.R (w:World) (v:Value):Arg→Prop
 | .o a=>a.R w v
 | .fn f caps=> ∃ vs:List Value,v= .func (.func f) #[] vs.toArray∧AsR w vs caps
def Q4k (w:World):List Value→List Arg→Prop
 | [],[]=>True
 | v::vs,x::xs=>x.R w v∧Q4k w vs xs
 | _,_=>False
def Re.R (w:World) (v:Value) (F:List Nat):Re→Prop
 | .c x=>v=x∧F=[]
 | .st _ _ _ x=> ∃ cs:List Value,v= .agg cs.toArray∧Dat.own w cs x F
 | .sl _ _ xs=>SlO w v xs F
def ResL (w:World):List Value→List Nat→List Re→Prop
 | [],F,[]=>F=[]
 | v::vs,F,x::xs=> ∃ G H,F=G++H∧x.R w v G∧ResL w vs H xs
 | _,_,_=>False
def pack:List Value→Value
 | [v]=>v
 | vs=> .tuple vs.toArray
def ResR (S0:Nat→Prop) (w0 w':World) (v:Value) (res:List Re):Prop:=
 Keep S0 w0 w'∧ ∃ vs F,v=pack vs∧ResL w' vs F res∧F.Nodup∧ ∀ b∈F,¬ S0 b
def CT (P:Program) (G:World→Prop) (f:FuncId) (args:List Arg) (res:List Re):Prop:=
 ∀ (w:World) (vs:List Value),G w→Q4k w vs args→Calls P f vs.toArray w (fun e w'=> ∃ v,e= .returned v∧ResR (Old w) w w' v res)
def opn {α:Type} (o:Bool) (x:α):Nat→List (Fk α)→List V×List (Nat×En)
 | _,[]=>([],[])
 | m,.int g::fs=>(.v (.int .i64 (g x))::(opn o x m fs).1,(opn o x m fs).2)
 | m,.byte g::fs=>(.v (.int .u8 (g x).toNat)::(opn o x m fs).1,(opn o x m fs).2)
 | m,.bool g::fs=>(.v (.bool (g x))::(opn o x m fs).1,(opn o x m fs).2)
 | m,.str g::fs=>(.v (.string (g x))::(opn o x m fs).1,(opn o x m fs).2)
 | m,.sl β d g::fs=>(.sl m (g x).length::(opn o x (m+1) fs).1,(m,bif o then .own β d (g x) else .ros β d (g x))::(opn o x (m+1) fs).2)
def nsl {α:Type}:List (Fk α)→Nat
 | []=>0
 | .sl _ _ _::fs=>nsl fs+1
 | .int _::fs=>nsl fs
 | .byte _::fs=>nsl fs
 | .bool _::fs=>nsl fs
 | .str _::fs=>nsl fs
theorem Ybg {α:Type} [Dat α] {S:Nat→Prop} {w:World} {v:Value} {xs:List α} (h:SlR S w v xs): ∃ l:Loc,v= .slice l.A xs.length l.cap∧l.F=[]:=by
 obtain⟨A,cap,rfl,_⟩:=h.form
 exact⟨⟨A,cap,[]⟩,rfl,rfl⟩
theorem Qx3 {α:Type} [Dat α] {w:World} {v:Value} {xs:List α} {F:List Nat} (h:SlO w v xs F): ∃ l:Loc,v= .slice l.A xs.length l.cap∧l.F=F:=by
 obtain⟨A,cap,rfl,_⟩:=(h.rd (B:=Old w) fun b hb=>h.lt b hb).form
 exact⟨⟨A,cap,F⟩,rfl,rfl⟩
theorem Qfu {θ θ':List Loc} {l:Loc}:(θ++l::θ')[θ.length]?=some l:=by simp
theorem Qng {α:Type} {S:Nat→Prop} {w1:World} {x:α}: ∀ {fk:List (Fk α)} {cs:List Value} {θ:List Loc},RdL S w1 x fk cs→
  ∃ θ',θ'.length=nsl fk∧conL (θ++θ') (opn false x θ.length fk).1=some cs∧ ∀ e∈(opn false x θ.length fk).2,e.2.ok S w1 (θ++θ') e.1∧ ∀ θ r,e.2.ck θ r=⟨[],fun _=>True⟩
 | [], cs, θ, h => by
  cases h
  exact⟨[],rfl,rfl,fun e he=>by cases he⟩
 | f :: fs, cs, θ, h => by
  obtain⟨v,r,rfl,h1,h2⟩:=h
  cases f with
  | int g =>
   obtain⟨θ',hl,hc,he⟩:=Qng (θ:=θ) h2
   obtain⟨rfl,_⟩:=h1
   exact⟨θ',hl,Qgo rfl hc,he⟩
  | byte g =>
   obtain⟨θ',hl,hc,he⟩:=Qng (θ:=θ) h2
   obtain rfl:=h1
   exact⟨θ',hl,Qgo rfl hc,he⟩
  | bool g =>
   obtain⟨θ',hl,hc,he⟩:=Qng (θ:=θ) h2
   obtain rfl:=h1
   exact⟨θ',hl,Qgo rfl hc,he⟩
  | str g =>
   obtain⟨θ',hl,hc,he⟩:=Qng (θ:=θ) h2
   obtain⟨rfl,_⟩:=h1
   exact⟨θ',hl,Qgo rfl hc,he⟩
  | sl β d g =>
   obtain⟨l,hv,_⟩:=Ybg h1
   obtain⟨θ',hl,hc,he⟩:=Qng (θ:=θ++[l]) h2
   rw[length_append,length_singleton] at hc he
   rw[append_assoc] at hc he
   refine⟨[l]++θ',by rw[length_append,length_singleton,hl,Nat.add_comm];rfl,Qgo ?_ hc,?_⟩
   ·simp only[V.con,List.singleton_append,Qfu,hv]
   ·intro e hm
    rcases List.mem_cons.1 hm with rfl | hm
    ·refine⟨⟨l,Qfu,?_⟩,fun _ _=>rfl⟩
     have h1':SlR S w1 v (g x):=h1
     rwa [hv] at h1'
    ·exact he e hm
theorem Q83 {α:Type} {w w':World} {x:α}: ∀ {fk:List (Fk α)} {cs:List Value} {F:List Nat},OwL w x fk cs F→(∀ b∈F,w'.heap[b]?=w.heap[b]?)→OwL w' x fk cs F
 | [],_,_,h,_=>h
 | f :: fs, _, _, h, hF => by
  obtain⟨v,r,G,H,rfl,rfl,h1,h2⟩:=h
  refine⟨v,r,G,H,rfl,rfl,?_,Q83 h2 fun b hb=>hF b (List.mem_append_right _ hb)⟩
  cases f with
  | int g=>exact h1
  | byte g=>exact h1
  | bool g=>exact h1
  | str g=>exact h1
  | sl β d g=>exact SlO.same h1 fun b hb=>hF b (List.mem_append_left _ hb)
theorem Qt5 {α:Type} {w:World} {x:α}: ∀ {fk:List (Fk α)} {cs:List Value} {F:List Nat} {θ:List Loc},OwL w x fk cs F→
  ∃ θ',θ'.length=nsl fk∧conL (θ++θ') (opn true x θ.length fk).1=some cs∧F=((opn true x θ.length fk).2.map fun e=>e.2.ck (θ++θ') e.1).flatMap (·.F)∧ ∀ e∈(opn true x θ.length fk).2,(e.2.ck (θ++θ') e.1).ok w∧ ∀ S w1 θ r,e.2.ok S w1 θ r
 | [], cs, F, θ, h => by
  obtain⟨rfl,rfl⟩:=h
  exact⟨[],rfl,rfl,rfl,fun e he=>by cases he⟩
 | f :: fs, cs, F, θ, h => by
  obtain⟨v,r,G,H,rfl,rfl,h1,h2⟩:=h
  cases f with
  | int g =>
   obtain⟨θ',hl,hc,hF,he⟩:=Qt5 (θ:=θ) h2
   obtain⟨⟨rfl,_⟩,rfl⟩:=h1
   exact⟨θ',hl,Qgo rfl hc,hF,he⟩
  | byte g =>
   obtain⟨θ',hl,hc,hF,he⟩:=Qt5 (θ:=θ) h2
   obtain⟨rfl,rfl⟩:=h1
   exact⟨θ',hl,Qgo rfl hc,hF,he⟩
  | bool g =>
   obtain⟨θ',hl,hc,hF,he⟩:=Qt5 (θ:=θ) h2
   obtain⟨rfl,rfl⟩:=h1
   exact⟨θ',hl,Qgo rfl hc,hF,he⟩
  | str g =>
   obtain⟨θ',hl,hc,hF,he⟩:=Qt5 (θ:=θ) h2
   obtain⟨⟨rfl,_⟩,rfl⟩:=h1
   exact⟨θ',hl,Qgo rfl hc,hF,he⟩
  | sl β d g =>
   obtain⟨l,hv,hlF⟩:=Qx3 h1
   obtain⟨θ',hl,hc,hF,he⟩:=Qt5 (θ:=θ++[l]) h2
   rw[length_append,length_singleton] at hc he hF
   rw[append_assoc] at hc he hF
   refine⟨[l]++θ',by rw[length_append,length_singleton,hl,Nat.add_comm];rfl,Qgo ?_ hc,?_,?_⟩
   ·simp only[V.con,List.singleton_append,Qfu,hv]
   ·show G++H=locF (θ++([l]++θ')) θ.length++_
    rw[Qaj (show(θ++([l]++θ'))[θ.length]?=some l from Qfu),hlF,hF]
    rfl
   ·intro e hm
    rcases List.mem_cons.1 hm with rfl | hm
    ·refine⟨fun w2 h2=>⟨l,Qfu,?_⟩,fun _ _ _ _=>trivial⟩
     have h1':SlO w v (g x) G:=h1
     rw[hv] at h1'
     rw[hlF]
     refine h1'.same fun b hb=>h2 b ?_
     show b∈locF (θ++([l]++θ')) θ.length
     rw[Qaj (show(θ++([l]++θ'))[θ.length]?=some l from Qfu),hlF]
     exact hb
    ·exact he e hm
theorem RH.news {c:Cx} {θ θ':List Loc} {E M:List (Nat×En)} {S:Nat→Prop} {w1 w w':World} (h:RH c θ E S w1 w) (hb:Below w.heap.size w w') {F:List Nat} (hF:F=(M.map fun e=>e.2.ck (θ++θ') e.1).flatMap (·.F))
  (hM: ∀ e∈M,(e.2.ck (θ++θ') e.1).ok w'∧ ∀ S w1 θ r,e.2.ok S w1 θ r) (hge: ∀ b∈F,w.heap.size≤b) (hn:F.Nodup):RH c (θ++θ') (M++E) S w1 w':=by
 have h':=h.ext (θ':=θ')
 have hlt: ∀ b∈F,b<w'.heap.size:=by
  intro b hbF
  subst hF
  obtain⟨d,hd,hbd⟩:=mem_flatMap.1 hbF
  obtain⟨e,he,rfl⟩:=List.mem_map.1 hd
  have hp:=((hM e he).1).here
  obtain⟨r,e⟩:=e
  cases e with
  | var cs T =>
   obtain⟨l,b',ccs,h1,h2,h3,h4,h5⟩:=hp
   have:b∈l.F:=by
    have hbd':b∈locF (θ++θ') r:=hbd
    rwa [Qaj h1] at hbd'
   rw[h3,mem_singleton] at this
   subst this
   exact(Array.getElem?_eq_some_iff.1 h5).1
  | lit cs T n =>
   obtain⟨l,b',ccs,⟨h1,_⟩,h2,h3,h4,h5⟩:=hp
   have:b∈l.F:=by
    have hbd':b∈locF (θ++θ') r:=hbd
    rwa [Qaj h1] at hbd'
   rw[h3,mem_singleton] at this
   subst this
   exact(Array.getElem?_eq_some_iff.1 h5).1
  | own α d xs =>
   obtain⟨l,h1,h2⟩:=hp
   have hbd':b∈locF (θ++θ') r:=hbd
   rw[Qaj h1] at hbd'
   exact h2.lt b hbd'
  | any P =>
   obtain⟨l,h1,h2,_⟩:=hp
   have hbd':b∈locF (θ++θ') r:=hbd
   rw[Qaj h1] at hbd'
   exact h2 b hbd'
  | itr s pos =>
   obtain⟨l,b',h1,h2,h3,h5⟩:=hp
   have:b∈l.F:=by
    have hbd':b∈locF (θ++θ') r:=hbd
    rwa [Qaj h1] at hbd'
   rw[h3,mem_singleton] at this
   subst this
   exact(Array.getElem?_eq_some_iff.1 h5).1
  | ros=>cases hbd
  | roc=>cases hbd
  | pin=>cases hbd
 have hs := h'.sh.call hb (c := ⟨F, fun w2 => ∀ e ∈ M, (e.2.ck (θ ++ θ') e.1).ok w2⟩) (fun w2 h2 e he => (hM e he).1.same fun b hb => h2 b (by
  rw[hF];exact mem_flatMap.2 ⟨_,List.mem_map.2 ⟨e,he,rfl⟩,hb⟩)) (fun b hb=>⟨hge b hb,hlt b hb⟩) hn
 refine⟨h.k0,h.sub,?_,fun e he=>?_⟩
 ·rw[List.map_append]
  refine hs.split _ hF fun d hd=>?_
  obtain⟨e,he,rfl⟩:=List.mem_map.1 hd
  exact(hM e he).1
 ·rcases List.mem_append.1 he with he | he
  ·exact(hM e he).2 _ _ _ _
  ·exact h'.ok e he
theorem RH.facts {c:Cx} {θ θ':List Loc} {E M:List (Nat×En)} {S:Nat→Prop} {w1 w:World} (h:RH c θ E S w1 w) (hM: ∀ e∈M,e.2.ok S w1 (θ++θ') e.1∧ ∀ θ r,e.2.ck θ r=⟨[],fun _=>True⟩):RH c (θ++θ') (M++E) S w1 w:=by
 have h':=h.ext (θ':=θ')
 clear h
 induction M with
 | nil=>exact h'
 | cons e M ih =>
  have:=ih (fun e he=>hM e (mem_cons_of_mem _ he))
  obtain⟨r,e⟩:=e
  exact this.fact ((hM (r,e) (by simp)).2 _ _) (hM (r,e) (by simp)).1
def Qh1 (m:Nat):Re→V×List (Nat×En)×Nat
 | .c x=>(.v x,[],0)
 | .st _ d s x=>(.ag (opn true x m s.fk).1,(opn true x m s.fk).2,nsl s.fk)
 | .sl α d xs=>(.sl m xs.length,[(m,.own α d xs)],1)
def Qgg:Nat→List Re→List V×List (Nat×En)×Nat
 | _,[]=>([],[],0)
 | m,x::r=>((Qh1 m x).1::(Qgg (m+(Qh1 m x).2.2) r).1,(Qh1 m x).2.1++(Qgg (m+(Qh1 m x).2.2) r).2.1,(Qh1 m x).2.2+(Qgg (m+(Qh1 m x).2.2) r).2.2)
def Qkk:List V→V
 | [v]=>v
 | vs=> .tu vs
theorem Yeo {w:World} {v:Value} {F:List Nat} {θ:List Loc} {x:Re} (h:x.R w v F):
  ∃ θ',θ'.length=(Qh1 θ.length x).2.2∧(Qh1 θ.length x).1.con (θ++θ')=some v∧F=((Qh1 θ.length x).2.1.map fun e=>e.2.ck (θ++θ') e.1).flatMap (·.F)∧ ∀ e∈(Qh1 θ.length x).2.1,(e.2.ck (θ++θ') e.1).ok w∧ ∀ S w1 θ r,e.2.ok S w1 θ r:=by
 cases x with
 | c x =>
  obtain⟨rfl,rfl⟩:=h
  exact⟨[],rfl,rfl,rfl,fun e he=>by cases he⟩
 | st α d s x =>
  obtain⟨cs,rfl,ho⟩:=h
  obtain⟨θ',hl,hc,hF,he⟩:=Qt5 (θ:=θ) (s.oop ho)
  exact⟨θ',hl,by simp only[Qh1,V.con,hc,Option.map_some],hF,he⟩
 | sl α d xs =>
  have h':SlO w v xs F:=h
  obtain⟨l,hv,hlF⟩:=Qx3 h'
  have hg:(θ++[l])[θ.length]?=some l:=Qfu
  refine⟨[l],rfl,by simp only[Qh1,V.con,hg,hv],?_,?_⟩
  ·show F=locF (θ++[l]) θ.length++[]
   rw[Qaj hg,hlF,append_nil]
  ·intro e hm
   rcases List.mem_cons.1 hm with rfl | hm
   ·refine⟨fun w2 h2=>⟨l,hg,?_⟩,fun _ _ _ _=>trivial⟩
    rw[hv] at h'
    rw[hlF]
    refine h'.same fun b hb=>h2 b ?_
    show b∈locF (θ++[l]) θ.length
    rw[Qaj hg,hlF]
    exact hb
   ·cases hm
theorem En.ck_len {θ θ':List Loc} {r:Nat} {e:En} {w:World} (h:(e.ck θ r).ok w):(e.ck (θ++θ') r).F=(e.ck θ r).F∧(e.ck (θ++θ') r).ok w:=by
 have h1:=En.ck_ext (θ':=θ') h.here
 refine⟨h1.1,fun w' hw'=>h1.2 w' (h w' fun b hb=>hw' b (by rw[h1.1];exact hb))⟩
theorem Q6k {w:World}: ∀ {vs:List Value} {F:List Nat} {θ:List Loc} {xs:List Re},ResL w vs F xs→
  ∃ θ',θ'.length=(Qgg θ.length xs).2.2∧conL (θ++θ') (Qgg θ.length xs).1=some vs∧F=((Qgg θ.length xs).2.1.map fun e=>e.2.ck (θ++θ') e.1).flatMap (·.F)∧ ∀ e∈(Qgg θ.length xs).2.1,(e.2.ck (θ++θ') e.1).ok w∧ ∀ S w1 θ r,e.2.ok S w1 θ r
 | [],F,θ,[],h=>by cases h;exact⟨[],rfl,rfl,rfl,fun e he=>by cases he⟩
 | [],F,θ,_::_,h=>h.elim
 | _::_,F,θ,[],h=>h.elim
 | v :: vs, F, θ, x :: xs, h => by
  obtain⟨G,H,rfl,h1,h2⟩:=h
  obtain⟨θ1,l1,c1,f1,e1⟩:=Yeo (θ:=θ) h1
  obtain⟨θ2,l2,c2,f2,e2⟩:=Q6k (θ:=θ++θ1) h2
  rw[length_append,l1,append_assoc] at c2 f2 e2
  rw[length_append,l1] at l2
  have e1' : ∀ e ∈ (Qh1 θ.length x).2.1, (e.2.ck (θ ++ (θ1 ++ θ2)) e.1).F = (e.2.ck (θ ++ θ1) e.1).F ∧ (e.2.ck (θ ++ (θ1 ++ θ2)) e.1).ok w := fun e he => by
   have:=En.ck_len (θ':=θ2) (e1 e he).1
   rwa [append_assoc] at this
  refine⟨θ1++θ2,by rw[length_append,l1,l2];rfl,?_,?_,?_⟩
  ·have:=V.con_ext (θ':=θ2) c1
   rw[append_assoc] at this
   exact Qgo this c2
  ·show G++H=(((Qh1 θ.length x).2.1++_).map _).flatMap _
   rw[List.map_append,List.flatMap_append,←f2,f1]
   congr 1
   rw[List.flatMap_map,List.flatMap_map]
   clear f1 f2 c1 c2 e2
   generalize (Qh1 θ.length x).2.1=l at e1'
   induction l with
   | nil=>rfl
   | cons a l ih=>rw[flatMap_cons,flatMap_cons,(e1' a (by simp)).1,ih fun e he=>e1' e (by simp[he])]
  ·intro e he
   rcases List.mem_append.1 he with he | he
   ·exact⟨(e1' e he).2,(e1 e he).2⟩
   ·exact e2 e he
theorem Q5t {θ:List Loc}: ∀ {vs:List V} {us:List Value},conL θ vs=some us→(Qkk vs).con θ=some (pack us)
 | [],us,h=>by cases h;rfl
 | [v], us, h => by
  obtain⟨a,b,rfl,h1,h2⟩:=Qgf h
  cases h2
  exact h1
 | v :: v' :: r, us, h => by
  obtain⟨a,b,rfl,h1,h2⟩:=Qgf h
  obtain⟨a',b',rfl,h3,h4⟩:=Qgf h2
  simp only[Qkk,V.con,pack,h,Option.map_some]
end
section
inductive It where
 | code (c:Code)
 | ops (l:List Oper) (all:Array Oper)
 | blk (id:Nat)
 | goal (G:Act→World→Prop)
def post (c:Cx) (res:List Re):Exit→Act→World→Prop:=bodyPost c.P c.fn (fun e w'=> ∃ v,e= .returned v∧c.Q (fun w' v=>ResR c.S0 c.w0 w' v res) w' v)
def kQ (c:Cx) (res:List Re):List It→Exit→Act→World→Prop
 | []=>post c res
 | .code y::k=>Exit.then (y.wp c.P (kQ c res k)) (kQ c res k)
 | .ops l all::k=>Exit.then (wpList c.P all (kQ c res k) l) (kQ c res k)
 | .blk id::k=>Exit.inBlock id (kQ c res k)
 | .goal G::k=>Exit.then G (kQ c res k)
theorem Qpy (c:Cx) (res:List Re) (l:List Oper) (all:Array Oper) (k:List It):kQ c res (.ops l all::k) .normal=wpList c.P all (kQ c res k) l:=rfl
def Run (c:Cx) (res:List Re) (σ:St) (k:List It):Prop:= ∀ θ a w,R c θ σ a w→kQ c res k .normal a w
def put (d:Nat) (v:V) (σ:St):St:=⟨σ.n,σ.m,(d,v)::σ.ρ,σ.E⟩
def litD (sz:Nat) (cs:List V):Option (List V)→Option (List V)
 | some ds=>bif Nat.beq ds.length sz then some (ds++cs) else none
 | none=>none
def litC (sz:Nat):Bool→Option V→Option (List V)→Option (List V)
 | true,some v,some cs=>litD sz cs v.cells
 | _,_,_=>none
def litV (e:Operand→Option V) (sz:Nat):Nat→List (Nat×Operand)→Option (List V)
 | _,[]=>some []
 | k,(i,x)::r=>litC sz (Nat.beq i k) (e x) (litV e sz (k+1) r)
def nvK (σ:St) (d:Nat) (T:TypeId):Option (List V)→Option St
 | some cs=>bif Nat.blt d σ.n then some ⟨σ.n,σ.m+1,(d,.pt σ.m 0)::σ.ρ,(σ.m,.var cs T)::σ.E⟩ else none
 | none=>none
def Qq6:Option V→Option (List V)
 | some v=>v.cells
 | none=>none
def Qqy:Option Value→Option (List V)
 | some z=>(V.v z).cells
 | none=>none
def blK (σ:St) (d len n:Nat) (e sz:Nat):Option Value→Option (List V)→Option St
 | some z,some cs=>bif an (an (an (an (an (Nat.beq n len) (Nat.blt 0 sz)) (Nat.ble (len*sz) 16777216)) (Nat.blt 0 len)) (Nat.beq z.cells.size sz)) (Nat.blt d σ.n) then some ⟨σ.n,σ.m+1,(d,.sl σ.m len)::σ.ρ,(σ.m,.lit cs e len)::σ.E⟩ else none
 | _,_=>none
def bsK (zr:Nat→Option Value) (σ:St) (d len:Nat) (parts:List (Nat×Operand)):TI→Option St
 | .sl e sz _=>blK σ d len parts.length e sz (zr e) (litV (ev σ.ρ) sz 0 parts)
 | _=>none
def stW (σ:St) (r off:Nat):Option En→Option (List V)→Option Nat→Option St
 | some (.var cs T),some ds,some n=>bif an (an (Nat.beq ds.length n) (Nat.ble (off+n) cs.length)) (oneL ds) then some ⟨σ.n,σ.m,σ.ρ,setE r (.var (Qoz cs ds off n) T) σ.E⟩ else none
 | _,_,_=>none
def stV (σ:St) (i:TI):Option V→Option V→Option St
 | some (.pt r off),some v=>stW σ r off (lkE σ.E r) v.cells i.cells
 | _,_=>none
def ptK (σ:St) (d:Nat):Option V→Option St
 | some v=>bif Nat.blt d σ.n then some (put d v σ) else none
 | none=>none
def stO (ti:Nat→TI) (zr:Nat→Option Value) (σ:St):Option Tmp→Op→Option St
 | some d,.box T x=>nvK σ d T (Qq6 (ev σ.ρ x))
 | some d,.alloc T=>nvK σ d T (Qqy (zr T))
 | some d,.buildSlice t len parts=>bsK zr σ d len parts.toList (ti t)
 | none,.store t x y=>stV σ (ti t) (ev σ.ρ x) (ev σ.ρ y)
 | some d,.move x=>ptK σ d (pv ti zr (ev σ.ρ) (evs σ.ρ) σ.E (.move x))
 | some d,.assign x=>ptK σ d (pv ti zr (ev σ.ρ) (evs σ.ρ) σ.E (.assign x))
 | some d,.pick x y z=>ptK σ d (pv ti zr (ev σ.ρ) (evs σ.ρ) σ.E (.pick x y z))
 | some d,.binOp o t x y u=>ptK σ d (pv ti zr (ev σ.ρ) (evs σ.ρ) σ.E (.binOp o t x y u))
 | some d,.unOp o t x=>ptK σ d (pv ti zr (ev σ.ρ) (evs σ.ρ) σ.E (.unOp o t x))
 | some d,.load t x=>ptK σ d (pv ti zr (ev σ.ρ) (evs σ.ρ) σ.E (.load t x))
 | some d,.fieldAddr t x f=>ptK σ d (pv ti zr (ev σ.ρ) (evs σ.ρ) σ.E (.fieldAddr t x f))
 | some d,.build t ps=>ptK σ d (pv ti zr (ev σ.ρ) (evs σ.ρ) σ.E (.build t ps))
 | some d,.nilCheck x=>ptK σ d (pv ti zr (ev σ.ρ) (evs σ.ρ) σ.E (.nilCheck x))
 | some d,.extract x i=>ptK σ d (pv ti zr (ev σ.ρ) (evs σ.ρ) σ.E (.extract x i))
 | some d,.convert s t x=>ptK σ d (pv ti zr (ev σ.ρ) (evs σ.ρ) σ.E (.convert s t x))
 | some d,.makeFunc f a b=>ptK σ d (pv ti zr (ev σ.ρ) (evs σ.ρ) σ.E (.makeFunc f a b))
 | some d,.call c=>ptK σ d (pv ti zr (ev σ.ρ) (evs σ.ρ) σ.E (.call c))
 | _,_=>none
theorem R.put {c:Cx} {θ:List Loc} {σ:St} {a:Act} {w:World} (h:R c θ σ a w) {d:Nat} (hd:Nat.blt d σ.n=true) {v:V} {u:Value} (hv:v.con θ=some u):R c θ (put d v σ) (a.put (some d) u) w:=
 ⟨h.len,h.env.put hd hv,h.heap⟩
def putE (k:Nat) (p:Nat×En):List (Nat×En)→List (Nat×En)
 | []=>[]
 | (t,v)::r=>bif Nat.beq t k then p::r else(t,v)::putE k p r
theorem Qon: ∀ {E:List (Nat×En)} {k:Nat} {e:En},lkE E k=some e→ ∃ i:Nat,E[i]?=some (k,e)∧ ∀ p,putE k p E=E.set i p
 | [],_,_,h=>by cases h
 | (t, v) :: r, k, e, h => by
  simp only[lkE] at h
  by_cases hb:Nat.beq t k=true
  ·rw[hb] at h
   obtain rfl:=Nat.eq_of_beq_eq_true hb
   cases h
   exact⟨0,rfl,fun e'=>by simp[putE]⟩
  ·rw[Bool.not_eq_true] at hb
   rw[hb] at h
   obtain⟨i,h1,h2⟩:=Qon h
   exact⟨i+1,by simpa using h1,fun e'=>by simp[putE,hb,h2]⟩
theorem Q79: ∀ {E:List (Nat×En)} {k:Nat} {e:En},setE k e E=putE k (k,e) E
 | [],_,_=>rfl
 | (t, v) :: r, k, e => by
  simp only[setE,putE]
  by_cases hb:Nat.beq t k=true
  ·rw[hb]
   obtain rfl:=Nat.eq_of_beq_eq_true hb
   rfl
  ·rw[Bool.not_eq_true] at hb
   rw[hb,Q79]
   rfl
theorem RH.turn {c:Cx} {θ:List Loc} {E:List (Nat×En)} {S:Nat→Prop} {w1 w w':World} (h:RH c θ E S w1 w) {r:Nat} {e:En} (he:lkE E r=some e) {p:Nat×En} (hos:w'.os=w.os) (htape:w'.tape=w.tape) (hout:w'.output=w.output) (hsize:w.heap.size≤w'.heap.size)
  (hsame: ∀ b,b<w.heap.size→b ∉ (e.ck θ r).F→w'.heap[b]?=w.heap[b]?) (hok:(p.2.ck θ p.1).ok w') (hF: ∀ b∈(p.2.ck θ p.1).F,(b∈(e.ck θ r).F∨w.heap.size≤b)∧b<w'.heap.size) (hn:(p.2.ck θ p.1).F.Nodup) (hf:p.2.ok S w1 θ p.1):RH c θ (putE r p E) S w1 w':=by
 obtain⟨i,hi,hp⟩:=Qon he
 rw[hp]
 refine⟨h.k0,h.sub,?_,fun x hx=>?_⟩
 ·rw[List.map_set]
  exact h.sh.turn (k:=i) (c:=e.ck θ r) (by rw[getElem?_map,hi];rfl) hos htape hout hsize hsame hok hF hn
 ·rcases List.mem_or_eq_of_mem_set hx with hx | rfl
  ·exact h.ok x hx
  ·exact hf
theorem TI.cells_size {P:Program} {t n:Nat} {i:TI} (h:i.chk P t=true) (hn:i.cells=some n) (w:World):(sizeOf t).run P w= .ok n w:=by
 rcases TI.one_of h with ⟨m,o,rfl⟩ | rfl | ⟨h1,h2⟩
 ·cases hn
  simp only[TI.chk,Bool.and_eq_true] at h
  exact(Qp6 h.1 w).2
 ·cases hn
 ·rw[h2] at hn;cases hn
  exact(Qp5 h1 w).2
theorem Ybt {θ:List Loc} {a:Act} {e:Operand→Option V} {sz:Nat}: ∀ {parts:List (Nat×Operand)} {k:Nat} {cs:List V},(∀ p∈parts,∀ v,e p.2=some v→v.con θ=some (a.eval p.2))→litV e sz k parts=some cs→
  ∃ us:List Value,parts.map (fun p=>(p.1,a.eval p.2))=(us.zipIdx k).map (fun x=>(x.2,x.1))∧(∀ u∈us,u.cells.size=sz)∧conL θ cs=some (us.flatMap fun u=>u.cells.toList)∧us.length=parts.length
 | [],k,cs,_,h=>by cases h;exact⟨[],rfl,by simp,rfl,rfl⟩
 | (i, x) :: r, k, cs, he, h => by
  simp only[litV] at h
  unfold litC at h
  split at h
  ·rename_i v cs' hb hv hcs'
   obtain rfl:=Nat.eq_of_beq_eq_true hb
   unfold litD at h
   split at h
   ·rename_i ds hds
    cases hb2:Nat.beq ds.length sz with
    | false=>rw[hb2] at h;cases h
    | true =>
     rw[hb2] at h
     cases h
     obtain⟨l,hl,hc⟩:=V.cells_ok hds (he (i,x) (by simp) v hv)
     obtain⟨us,h1,h2,h3,h4⟩:=Ybt (fun p hp=>he p (mem_cons_of_mem _ hp)) hcs'
     have hlen:=Qhi hl
     have:=Nat.eq_of_beq_eq_true hb2
     refine⟨a.eval x::us,?_,?_,?_,by simp[h4]⟩
     ·rw[map_cons,List.zipIdx_cons,map_cons,h1]
     ·intro u hu
      rcases List.mem_cons.1 hu with rfl | hu
      ·simp only at hc;rw[hc];simp;omega
      ·exact h2 u hu
     ·rw[flatMap_cons]
      simp only at hc
      rw[hc]
      exact Qot hl h3
   ·cases h
  ·cases h
theorem R.newvar {c:Cx} {θ:List Loc} {σ:St} {a:Act} {w:World} (h:R c θ σ a w) {cs:List V} {l:List Value} (hl:conL θ cs=some l) (T:TypeId) (cap:Nat) {d:Nat} (hd:Nat.blt d σ.n=true) {v:V} {u:Value} (hv:v.con (θ++[⟨some ⟨w.heap.size,0,none⟩,cap,[w.heap.size]⟩])=some u):
  R c (θ++[⟨some ⟨w.heap.size,0,none⟩,cap,[w.heap.size]⟩]) ⟨σ.n,σ.m+1,(d,v)::σ.ρ,(σ.m,.var cs T)::σ.E⟩ (a.put (some d) u) (w.alloc (.cells l.toArray T)):=by
 obtain⟨S,w1,hh⟩:=h.heap
 have hg:(θ++[⟨some ⟨w.heap.size,0,none⟩,cap,[w.heap.size]⟩])[σ.m]?=some ⟨some ⟨w.heap.size,0,none⟩,cap,[w.heap.size]⟩:=by rw[←h.len];exact Qfu
 refine⟨by rw[length_append,h.len];rfl,(h.env.ext).put hd hv,S,w1,?_⟩
 refine hh.ext.new (w':=w.alloc (.cells l.toArray T)) ((Below.refl _ _).alloc (Nat.le_refl _) _) ?_ ?_ ?_ trivial
 ·intro w2 h2
  refine⟨_,w.heap.size,l,hg,rfl,rfl,Qkx hl,?_⟩
  exact(h2 w.heap.size (by show _∈locF _ _;rw[Qaj hg];simp)).trans (heap_alloc_new w _)
 ·intro b hb
  have hb':b∈locF (θ++[⟨some ⟨w.heap.size,0,none⟩,cap,[w.heap.size]⟩]) σ.m:=hb
  rw[Qaj hg] at hb'
  simp only[mem_singleton] at hb'
  subst hb'
  simp
 ·show(locF _ σ.m).Nodup
  rw[Qaj hg]
  simp
theorem R.newlit {c:Cx} {θ:List Loc} {σ:St} {a:Act} {w:World} (h:R c θ σ a w) {cs:List V} {l:List Value} (hl:conL θ cs=some l) (T:TypeId) (cap:Nat) {d:Nat} (hd:Nat.blt d σ.n=true) {v:V} {u:Value} (hv:v.con (θ++[⟨some ⟨w.heap.size,0,none⟩,cap,[w.heap.size]⟩])=some u):
  R c (θ++[⟨some ⟨w.heap.size,0,none⟩,cap,[w.heap.size]⟩]) ⟨σ.n,σ.m+1,(d,v)::σ.ρ,(σ.m,.lit cs T cap)::σ.E⟩ (a.put (some d) u) (w.alloc (.cells l.toArray T)):=by
 obtain⟨S,w1,hh⟩:=h.heap
 have hg:(θ++[⟨some ⟨w.heap.size,0,none⟩,cap,[w.heap.size]⟩])[σ.m]?=some ⟨some ⟨w.heap.size,0,none⟩,cap,[w.heap.size]⟩:=by rw[←h.len];exact Qfu
 refine⟨by rw[length_append,h.len];rfl,(h.env.ext).put hd hv,S,w1,?_⟩
 refine hh.ext.new (w':=w.alloc (.cells l.toArray T)) ((Below.refl _ _).alloc (Nat.le_refl _) _) ?_ ?_ ?_ trivial
 ·intro w2 h2
  refine⟨_,w.heap.size,l,⟨hg,rfl⟩,rfl,rfl,Qkx hl,?_⟩
  exact(h2 w.heap.size (by show _∈locF _ _;rw[Qaj hg];simp)).trans (heap_alloc_new w _)
 ·intro b hb
  have hb':b∈locF (θ++[⟨some ⟨w.heap.size,0,none⟩,cap,[w.heap.size]⟩]) σ.m:=hb
  rw[Qaj hg] at hb'
  simp only[mem_singleton] at hb'
  subst hb'
  simp
 ·show(locF _ σ.m).Nodup
  rw[Qaj hg]
  simp
theorem R.pt0 {c:Cx} {θ:List Loc} {σ:St} {a:Act} {w:World} (h:R c θ σ a w) {l:Loc} {A:Addr} (hA:l.A=some A):(V.pt σ.m 0).con (θ++[l])=some (.pointer (some (A.add 0))):=by
 have hg:(θ++[l])[σ.m]?=some l:=by rw[←h.len];exact Qfu
 obtain⟨A',cap,F⟩:=l
 cases hA
 simp only[V.con,hg]
theorem R.sl0 {c:Cx} {θ:List Loc} {σ:St} {a:Act} {w:World} (h:R c θ σ a w) {l:Loc} (n:Nat):(V.sl σ.m n).con (θ++[l])=some (.slice l.A n l.cap):=by
 have hg:(θ++[l])[σ.m]?=some l:=by rw[←h.len];exact Qfu
 simp only[V.con,hg]
section
variable {c:Cx} {σ σ':St} {θ:List Loc} {a:Act} {w:World} {ty:TypeId} {pos:String} {after:Array Edge} {g:Option (Nat×Bool)} {K:Act→World→Prop} {Q:Exit→Act→World→Prop}
theorem Ye4 {d:Nat} {T:TypeId} {o:Option (List V)} {op:Op} (hs:nvK σ d T o=some σ') (h:R c θ σ a w)
  (hrun: ∀ cs,o=some cs→ ∃ l,conL θ cs=some l∧(execOp a.eval ⟨some d,op,ty,pos,after,g⟩).run c.P w= .ok (.value (.pointer (some ((⟨w.heap.size,0,none⟩:Addr).add 0)))) (w.alloc (.cells l.toArray T)))
  (hK: ∀ η a' w',R c (θ++η) σ' a' w'→K a' w'):Oper.wp c.P ⟨some d,op,ty,pos,after,g⟩ a w K Q:=by
 unfold nvK at hs
 split at hs
 ·rename_i cs
  cases hd:Nat.blt d σ.n with
  | false=>rw[hd] at hs;cases hs
  | true =>
   rw[hd] at hs
   cases hs
   obtain⟨l,hl,hr⟩:=hrun cs rfl
   unfold Oper.wp
   rw[hr]
   exact hK _ _ _ (h.newvar hl T 0 hd (h.pt0 rfl))
 ·cases hs
theorem Yh1 {d:Nat} {op:Op} (hs:ptK σ d (pv c.ti c.zr (ev σ.ρ) (evs σ.ρ) σ.E op)=some σ') (h:R c θ σ a w) (hK: ∀ η a' w',R c (θ++η) σ' a' w'→K a' w'):Oper.wp c.P ⟨some d,op,ty,pos,after,g⟩ a w K Q:=by
 unfold ptK at hs
 split at hs
 ·rename_i v hv
  cases hd:Nat.blt d σ.n with
  | false=>rw[hd] at hs;cases hs
  | true =>
   rw[hd] at hs
   cases hs
   obtain⟨u,hu,hy⟩:=Ymp h (ty:=ty) hv
   unfold Oper.wp
   rw[hy]
   exact hK [] _ _ (by rw[append_nil];exact h.put hd hu)
 ·cases hs
theorem Yhw {dst:Option Tmp} {op:Op} (hs:stO c.ti c.zr σ dst op=some σ') (h:R c θ σ a w)
    (hK: ∀ η a' w',R c (θ++η) σ' a' w'→K a' w'):Oper.wp c.P ⟨dst,op,ty,pos,after,g⟩ a w K Q:=by
  have hE:=h.env.env
  unfold stO at hs
  split at hs
  ·
    rename_i d T x
    refine Ye4 hs h (fun cs hcs=>?_) hK
    unfold Qq6 at hcs
    split at hcs
    · rename_i v hv
      obtain⟨l,hl,hcells⟩:=V.cells_ok hcs (h.env.con hv)
      refine⟨l,hl,?_⟩
      simp[execOp,Instr.box,newVar,newRow,hcells,Addr.add]
    · cases hcs
  ·
    rename_i d T
    refine Ye4 hs h (fun cs hcs=>?_) hK
    unfold Qqy at hcs
    split at hcs
    · rename_i z hz
      obtain⟨l,hl,hcells⟩:=V.cells_ok (θ:=θ) hcs rfl
      refine⟨l,hl,?_⟩
      simp[execOp,Instr.alloc,newVar,newRow,c.zok T z hz,hcells,Addr.add]
    · cases hcs
  ·
    rename_i d t len parts
    unfold bsK at hs
    split at hs
    · rename_i e sz by' hti
      unfold blK at hs
      split at hs
      · rename_i z cs hz hcs
        cases hb:an (an (an (an (an (Nat.beq parts.toList.length len) (Nat.blt 0 sz)) (Nat.ble (len*sz) 16777216)) (Nat.blt 0 len)) (Nat.beq z.cells.size sz)) (Nat.blt d σ.n) with
        | false=>rw[hb] at hs;cases hs
        | true =>
          rw[hb] at hs
          cases hs
          simp only[Yer,Bool.and_eq_true] at hb
          obtain⟨⟨⟨⟨⟨hb1,hb2⟩,hb3⟩,hb4⟩,hb5⟩,hd⟩:=hb
          have hb1:=Nat.eq_of_beq_eq_true hb1
          have hb3:=Nat.le_of_ble_eq_true hb3
          have hb5:=Nat.eq_of_beq_eq_true hb5
          have hb2:0<sz:=by simpa using hb2
          have hb4:0<len:=by simpa using hb4
          have hti':=c.tiok t
          rw[hti] at hti'
          simp only[TI.chk,Bool.and_eq_true] at hti'
          obtain⟨hu,inf,hinf,his,_⟩:=Qbd hti'.2
          have hsz:(sizeOf e).run c.P w= .ok sz w:=by simp[sizeOf,typeInfo,hinf,his]
          obtain⟨us,h1,h2,h3,h4⟩:=Ybt (θ:=θ) (a:=a) (fun p _ v hv=>h.env.con hv) hcs
          have hul:us.length=len:=by rw[h4,hb1]
          have hfill:=Go.Great.fill_whole hb2 us ((Array.range (len*sz)).map (z.cells[· % z.cells.size]!)) h2 (by simp[hul])
          have hm:(parts.map fun(x:Nat×Operand)=>match x with | (i,x)=>(i,a.eval x)).toList=parts.toList.map fun p=>(p.1,a.eval p.2):=by rw[Array.toList_map]
          have hne: ¬ len*sz=0:=by have:=Nat.mul_pos hb4 hb2;omega
          have hng : ¬ len * sz > 2 ^ 24 := by have : (2 : Nat) ^ 24 = 16777216 := by decide
                                               omega
          have:(execOp a.eval ⟨some d,.buildSlice t len parts,ty,pos,after,g⟩).run c.P w= .ok (.value (.slice (some ⟨w.heap.size,0,none⟩) len len)) (w.alloc (.cells (us.flatMap fun u=>u.cells.toList).toArray e)):=by
            simp only[execOp,Instr.buildSlice,Sem.run_bind,run_underlying hu,Result.andThen_ok,hsz,hng,if_false,hne,c.zok e z hz,Sem.run_pure,hm,h1,hfill]
            simp[newRow]
          unfold Oper.wp
          rw[this]
          exact hK _ _ _ (h.newlit h3 e len hd (h.sl0 len))
      · cases hs
    · cases hs
  ·
    rename_i t x y
    unfold stV at hs
    split at hs
    · rename_i r off v hx hy
      unfold stW at hs
      split at hs
      · rename_i cs T ds n he hds hn
        cases hb:an (an (Nat.beq ds.length n) (Nat.ble (off+n) cs.length)) (oneL ds) with
        | false=>rw[hb] at hs;cases hs
        | true =>
          rw[hb] at hs
          cases hs
          simp only[Yer,Bool.and_eq_true] at hb
          obtain⟨⟨hb1,hb2⟩,hb3⟩:=hb
          have hl1:=Nat.eq_of_beq_eq_true hb1
          have hl2:=Nat.le_of_ble_eq_true hb2
          obtain⟨S,w1,hh⟩:=h.heap
          obtain⟨lc,b,ccs,h1,h2,h3,h4,h5⟩:=(hh.sh.ok _ (List.mem_map.2 ⟨_,Qe1 he,rfl⟩)).here
          obtain⟨lc',A',h1',h2',hp⟩:=Qqz (h.env.con hx)
          simp only at h1
          rw[h1] at h1';cases h1'
          rw[h2] at h2';cases h2'
          obtain⟨dl,hdl,hcells⟩:=V.cells_ok hds (h.env.con hy)
          have hlen:=Qhi h4
          have hdlen:=Qhi hdl
          have e:(⟨b,0,none⟩:Addr).add off=⟨b,off,none⟩:=by unfold Addr.add;split<;>simp_all
          have hst:=run_storeCells_at c.P b off T dl 0 ccs.toArray w h5 (by simp;omega) (List.all_eq_true.1 (Qx7 hb3 hdl))
          have hsz: ∀ w,(sizeOf t).run c.P w= .ok n w:=fun w=>TI.cells_size (c.tiok t) hn w
          have:(execOp a.eval ⟨none,.store t x y,ty,pos,after,g⟩).run c.P w= .ok .skip (w.setRow b (ccs.take off++dl++ccs.drop (off+n)).toArray):=by
            have hs:(a.eval y).cells.size=n:=by rw[hcells];simp;omega
            simp only[execOp,hp,Instr.storeAt,Instr.sureAddr,storeVar,Sem.run_bind,Sem.run_pure,Result.andThen_ok,hsz,hs,ne_eq,not_true_eq_false,if_false,e]
            rw[hcells,show dl.toArray.toList=dl from rfl,hst]
            simp only[Nat.add_zero,hdlen,hl1,Result.andThen_ok]
          unfold Oper.wp
          rw[this]
          refine hK [] _ _ ?_
          rw[append_nil]
          refine⟨h.len,h.env,S,w1,?_⟩
          show RH c θ (setE r _ σ.E) S w1 _
          rw[Q79]
          refine hh.turn he rfl rfl rfl (by simp) (fun b' _ hn'=>setRow_other w b b' _ ?_) ?_ ?_ ?_ trivial
          · intro e'
            subst e'
            refine hn' ?_
            show b'∈locF θ r
            rw[Qaj h1,h3]
            simp
          · intro w2 hw2
            refine⟨lc,b,_,h1,h2,h3,Qyv h4 hdl off n,?_⟩
            exact(hw2 b (by show _∈locF _ _;rw[Qaj h1,h3];simp)).trans (setRow_heap w b _ _ T _ h5)
          · intro b' hb'
            have hb'':b'∈locF θ r:=hb'
            rw[Qaj h1,h3,mem_singleton] at hb''
            subst hb''
            refine⟨.inl (by show _∈locF _ _;rw[Qaj h1,h3];simp),?_⟩
            rw[size_setRow]
            exact(Array.getElem?_eq_some_iff.1 h5).1
          · show (locF θ r).Nodup
            rw[Qaj h1,h3]
            simp
      · cases hs
    · cases hs
  all_goals first | exact Yh1 hs h hK | cases hs
end
def OpS (c:Cx) (σ:St) (all:Array Oper) (o:Oper) (σ':St):Prop:=
 ∀ θ a w,R c θ σ a w→ ∀ (K:Act→World→Prop) (Q:Exit→Act→World→Prop),(∀ η a' w',R c (θ++η) σ' a' w'→K a' w')→
  if Region.wanted o (yielded all a.tmps) then o.wp c.P a w K Q else K (a.put o.dst undef) w
theorem R.app0 {c:Cx} {θ:List Loc} {σ:St} {a:Act} {w:World} (h:R c θ σ a w):R c (θ++[]) σ a w:=by rw[List.append_nil];exact h
theorem OpS.of {c:Cx} {σ σ':St} {all:Array Oper} {dst:Option Tmp} {op:Op} {ty:TypeId} {pos:String} {after:Array Edge}
  (h: ∀ θ a w,R c θ σ a w→ ∀ (K:Act→World→Prop) (Q:Exit→Act→World→Prop),(∀ η a' w',R c (θ++η) σ' a' w'→K a' w')→Oper.wp c.P ⟨dst,op,ty,pos,after,none⟩ a w K Q):OpS c σ all ⟨dst,op,ty,pos,after,none⟩ σ':=by
 intro θ a w hR K Q hK
 rw[if_pos (by simp[Region.wanted])]
 exact h θ a w hR K Q hK
theorem OpS.st {c:Cx} {σ σ':St} {all:Array Oper} {dst:Option Tmp} {op:Op} {ty:TypeId} {pos:String} {after:Array Edge} (hs:stO c.ti c.zr σ dst op=some σ'):OpS c σ all ⟨dst,op,ty,pos,after,none⟩ σ':=
 OpS.of fun θ a w h K Q hK=>Yhw hs h hK
theorem Run.op {c:Cx} {res:List Re} {σ σ':St} {o:Oper} {r:List Oper} {all:Array Oper} {k:List It} (ho:OpS c σ all o σ') (h:Run c res σ' (.ops r all::k)):Run c res σ (.ops (o::r) all::k):=by
 intro θ a w hR
 rw[Qpy]
 refine wpList_step fun K hK=>?_
 exact ho θ a w hR K _ fun η a' w' h'=>hK _ _ (h _ a' w' h')
def nthO:List Oper→Nat→Option Oper
 | [],_=>none
 | x::r,k=>bif Nat.beq k 0 then some x else nthO r (Nat.pred k)
def grdO (ρ:List (Nat×V)):Option Oper→Option V
 | some ⟨some t,_,_,_,_,_⟩=>lk ρ t
 | _=>none
def grd (ρ:List (Nat×V)) (all:Array Oper) (j:Nat):Option V:=grdO ρ (nthO all.toList j)
def beqB:Bool→Bool→Bool
 | true,true=>true
 | false,false=>true
 | _,_=>false
theorem Qj1: ∀ {l:List Oper} {k:Nat} {o:Oper},nthO l k=some o→l[k]?=some o
 | [],_,_,h=>by cases h
 | x::r,0,o,h=>by simpa [nthO] using h
 | x::r,k+1,o,h=>by simp[nthO] at h;simpa using Qj1 h
theorem Q68 {c:Cx} {θ:List Loc} {σ:St} {a:Act} {w:World} (h:R c θ σ a w) {all:Array Oper} {j:Nat} {v:V} (hg:grd σ.ρ all j=some v): ∃ u,v.con θ=some u∧yielded all a.tmps j=(match u with | .bool b=>some b | _=>none):=by
 unfold grd grdO at hg
 split at hg
 ·rename_i t _ _ _ _ _ ho
  have h1:=Qj1 ho
  rw[Array.getElem?_toList] at h1
  obtain⟨h2,h3⟩:=h.env.get t _ hg
  refine⟨_,h2,?_⟩
  unfold yielded
  simp only[h1,Option.bind_some]
  have hlt:t<a.tmps.size:=by rw[h.env.size];exact h3
  rw[Array.getD_eq_getD_getElem?,Array.getElem?_eq_getElem hlt]
  simp only[Option.getD_some]
  cases a.tmps[t]<;>rfl
 ·cases hg
theorem Yb3 {c:Cx} {θ:List Loc} {σ:St} {a:Act} {w:World} (h:R c θ σ a w) {all:Array Oper} {j:Nat} {b:Bool} (hg:grd σ.ρ all j=some (.v (.bool b))):yielded all a.tmps j=some b:=by
 obtain⟨u,hu,hy⟩:=Q68 h hg
 cases hu
 exact hy
theorem Ycy {a b:Bool} (h:beqB a b=true):a=b:=by cases a<;>cases b<;>first | rfl | cases h
theorem Yas {a b:Bool} (h:beqB a b=false):a=!b:=by cases a<;>cases b<;>first | rfl | cases h
theorem OpS.off {c:Cx} {σ:St} {all:Array Oper} {d:Nat} {op:Op} {ty:TypeId} {pos:String} {after:Array Edge} {j:Nat} {b want:Bool} (hg:grd σ.ρ all j=some (.v (.bool b))) (hb:beqB b want=false) (hd:Nat.blt d σ.n=true):OpS c σ all ⟨some d,op,ty,pos,after,some (j,want)⟩ (put d (.v undef) σ):=by
 intro θ a w hR K Q hK
 have hy:=Yb3 hR hg
 have hb':=Yas hb
 rw[if_neg (by simp[Region.wanted,hy,hb'])]
 exact hK [] _ _ (hR.put hd (v:= .v undef) rfl).app0
def gBV (want:Bool):Option V→Option Bool
 | some (.v (.bool b))=>some (wnt want b)
 | some (.gd g (.v (.bool b)))=>some (g&&wnt want b)
 | _=>none
def gB (ρ:List (Nat×V)) (all:Array Oper) (j:Nat) (want:Bool):Option Bool:=gBV want (grd ρ all j)
theorem Q70 {want b:Bool}:(some b==some want)=wnt want b:=by cases want<;>cases b<;>rfl
theorem Q53 {c:Cx} {θ:List Loc} {σ:St} {a:Act} {w:World} (h:R c θ σ a w) {all:Array Oper} {o:Oper} {j:Nat} {want B:Bool} (ho:o.guard=some (j,want)) (hg:gB σ.ρ all j want=some B):Region.wanted o (yielded all a.tmps)=B:=by
 unfold gB gBV at hg
 simp only[Region.wanted,ho]
 split at hg
 ·rename_i b hb
  cases hg
  rw[Yb3 h hb]
  exact Q70
 ·rename_i g b hb
  cases hg
  obtain⟨u,hu,hy⟩:=Q68 h hb
  rw[hy]
  cases g with
  | true=>simp only[V.con,Option.some.injEq] at hu;subst hu;rw[Bool.true_and];exact Q70
  | false=>simp only[V.con,Option.some.injEq] at hu;subst hu;rfl
 ·cases hg
def gPw (p:Prop):Option Value→Option (V×Prop)
 | some r=>some (.v r,p)
 | none=>none
def gPk (ρ:List (Nat×V)) (B:Bool) (acc:Prop) (c x y:Operand):Option V→Option V→Option V→Option (V×Prop)
 | some (.v (.bool b)),some u,some v=>gPw (Qf8 B acc ρ [c]∧Qf8 (B&&b) True ρ [x]∧Qf8 (B&&!b) True ρ [y]) (Qx5 b x y u v)
 | _,_,_=>none
def gGo (p:Prop):Option V→Option (V×Prop)
 | some v=>some (v,p)
 | none=>none
def gOp (ti:Nat→TI) (zr:Nat→Option Value) (ρ:List (Nat×V)) (E:List (Nat×En)) (B:Bool) (op:Op) (acc:Prop):Option (V×Prop):=
 match op with
 | .pick c x y=>gPk ρ B acc c x y (evG ρ c) (evG ρ x) (evG ρ y)
 | .move x=>gGo (Qf8 B acc ρ [x]) (pv ti zr (evG ρ) (fun _=>none) E (.move x))
 | .assign x=>gGo (Qf8 B acc ρ [x]) (pv ti zr (evG ρ) (fun _=>none) E (.assign x))
 | .binOp o t x y u=>gGo (Qf8 B acc ρ [x,y]) (pv ti zr (evG ρ) (fun _=>none) E (.binOp o t x y u))
 | .unOp o t x=>gGo (Qf8 B acc ρ [x]) (pv ti zr (evG ρ) (fun _=>none) E (.unOp o t x))
 | .load t x=>gGo (Qf8 B acc ρ [x]) (pv ti zr (evG ρ) (fun _=>none) E (.load t x))
 | .fieldAddr t x f=>gGo (Qf8 B acc ρ [x]) (pv ti zr (evG ρ) (fun _=>none) E (.fieldAddr t x f))
 | .build t ps=>gGo (Qf8 B acc ρ (ps.toList.map (·.2))) (pv ti zr (evG ρ) (fun _=>none) E (.build t ps))
 | .nilCheck x=>gGo (Qf8 B acc ρ [x]) (pv ti zr (evG ρ) (fun _=>none) E (.nilCheck x))
 | .extract x i=>gGo (Qf8 B acc ρ [x]) (pv ti zr (evG ρ) (fun _=>none) E (.extract x i))
 | .convert s t x=>gGo (Qf8 B acc ρ [x]) (pv ti zr (evG ρ) (fun _=>none) E (.convert s t x))
 | .call c=>gGo (Qf8 B acc ρ c.operands.toList) (pv ti zr (evG ρ) (fun _=>none) E (.call c))
 | _=>none
theorem Ydn {θ:List Loc} {v:V} {B:Bool} {p:Prop} (h:v.side B p) (hB:B=true):v.con θ=v.strip.con θ∧p:=by
 cases v with
 | gd b x =>
  obtain⟨h1,h2⟩:=h
  have:=h1 hB
  subst this
  exact⟨rfl,h2⟩
 | v=>exact⟨rfl,h⟩
 | sl=>exact⟨rfl,h⟩
 | pt=>exact⟨rfl,h⟩
 | ag=>exact⟨rfl,h⟩
 | fn=>exact⟨rfl,h⟩
 | tu=>exact⟨rfl,h⟩
theorem Q77 {v:V} {B:Bool} {p:Prop} (h:v.side B p):p:=by
 cases v with
 | gd b x=>exact h.2
 | v=>exact h
 | sl=>exact h
 | pt=>exact h
 | ag=>exact h
 | fn=>exact h
 | tu=>exact h
theorem Qsl {B:Bool} {acc:Prop} {ρ:List (Nat×V)}: ∀ {l:List Operand},Qf8 B acc ρ l→acc
 | [],h=>h
 | x :: r, h => by
  simp only[Qf8] at h
  unfold sdV at h
  split at h
  ·exact Qsl (Q77 h)
  ·exact Qsl h
theorem Qho {n:Nat} {θ:List Loc} {ρ:List (Nat×V)} {a:Act} (h:EnvV n θ ρ a) {B:Bool} (hB:B=true) {acc:Prop}: ∀ {l:List Operand},Qf8 B acc ρ l→ ∀ x∈l,∀ v,evG ρ x=some v→v.con θ=some (a.eval x)∧ev? (selfρ a) x=some (a.eval x)
 | [],_,x,hx,_,_=>by cases hx
 | y :: r, hp, x, hx, v, hv => by
  simp only[Qf8] at hp
  unfold sdV at hp
  rcases List.mem_cons.1 hx with rfl | hx
  ·unfold evG stO' at hv
   split at hv
   ·rename_i u hu
    cases hv
    rw[hu] at hp
    have:=(Ydn (θ:=θ) hp hB).1
    rw[←this]
    exact⟨h.con hu,h.ev1 hu⟩
   ·cases hv
  ·split at hp
   ·exact Qho h hB (Q77 hp) x hx v hv
   ·exact Qho h hB hp x hx v hv
theorem Q2l {c:Cx} {θ:List Loc} {σ:St} {a:Act} {w:World} (h:R c θ σ a w) {B:Bool} (hB:B=true) {op:Op} {ty:TypeId} {acc:Prop} {v:V} {p:Prop} (hv:gOp c.ti c.zr σ.ρ σ.E B op acc=some (v,p)) (hp:p): ∃ u,v.con θ=some u∧Qb7 c.P a w op ty u:=by
 have gen: ∀ op l,op.operands.toList=l→gGo (Qf8 B acc σ.ρ l) (pv c.ti c.zr (evG σ.ρ) (fun _=>none) σ.E op)=some (v,p)→ ∃ u,v.con θ=some u∧Qb7 c.P a w op ty u:=by
  intro op l hl hv
  unfold gGo at hv
  split at hv
  ·rename_i v' hv'
   cases hv
   exact Ye3 h ⟨fun x hx v hv=>Qho h.env hB hp x (by rw[←hl];exact hx) v hv,fun xs _ vs hvs=>by cases hvs⟩ hv'
  ·cases hv
 cases op with
 | pick cc x y =>
  simp only[gOp] at hv
  unfold gPk at hv
  split at hv
  ·rename_i b u u' hc hx hy
   unfold gPw at hv
   split at hv
   ·rename_i r hr
    cases hv
    obtain⟨p1,p2,p3⟩:=hp
    have h1:=(Qho h.env hB p1 cc (by simp) _ hc)
    have hcc:ev? (selfρ a) cc=some (.bool b):=by
     have:=h1.1
     simp only[V.con,Option.some.injEq] at this
     rw[this];exact h1.2
    refine⟨r,rfl,?_⟩
    cases hb:b with
    | true =>
     have h2:=Qho h.env (B:=B&&b) (by simp[hB,hb]) p2 x (by simp) _ hx
     have:u.con θ=some r:=by
      unfold Qx5 at hr
      split at hr
      ·cases hx;split at hr
       ·cases hr;subst hb;rfl
       ·cases hr
      ·split at hr
       ·cases hr;subst hb;simp[V.con]
       ·cases hr
      ·split at hr
       ·cases hr;subst hb;rfl
       ·cases hr
     rw[this] at h2
     exact Qxo h.env.env hcc hb (by rw[h2.2,←h2.1])
    | false =>
     have h2:=Qho h.env (B:=B&&!b) (by simp[hB,hb]) p3 y (by simp) _ hy
     have:u'.con θ=some r:=by
      unfold Qx5 at hr
      split at hr
      ·split at hr
       ·cases hr;subst hb;simp[V.con]
       ·cases hr
      ·cases hy;split at hr
       ·cases hr;subst hb;rfl
       ·cases hr
      ·split at hr
       ·cases hr;subst hb;rfl
       ·cases hr
     rw[this] at h2
     exact Qxp h.env.env hcc hb (by rw[h2.2,←h2.1])
   ·cases hv
  ·cases hv
 | move=>exact gen _ _ (by simp[Op.operands]) hv
 | assign=>exact gen _ _ (by simp[Op.operands]) hv
 | binOp=>exact gen _ _ (by simp[Op.operands]) hv
 | unOp=>exact gen _ _ (by simp[Op.operands]) hv
 | load=>exact gen _ _ (by simp[Op.operands]) hv
 | fieldAddr=>exact gen _ _ (by simp[Op.operands]) hv
 | build=>exact gen _ _ (by simp[Op.operands]) hv
 | nilCheck=>exact gen _ _ (by simp[Op.operands]) hv
 | extract=>exact gen _ _ (by simp[Op.operands]) hv
 | convert=>exact gen _ _ (by simp[Op.operands]) hv
 | call=>exact gen _ _ (by simp[Op.operands]) hv
 | _=>cases hv
theorem OpS.g0 {c:Cx} {σ:St} {all:Array Oper} {d:Nat} {op:Op} {ty:TypeId} {pos:String} {after:Array Edge} {acc:Prop} {v:V} {p:Prop} (hv:gOp c.ti c.zr σ.ρ σ.E true op acc=some (v,p)) (hp:p) (hd:Nat.blt d σ.n=true):OpS c σ all ⟨some d,op,ty,pos,after,none⟩ (put d v σ):=
 OpS.of fun θ a w h K Q hK => by
  obtain⟨u,hu,hy⟩:=Q2l h rfl (ty:=ty) hv hp
  unfold Oper.wp
  rw[hy]
  exact hK [] _ _ (h.put hd hu).app0
theorem OpS.g1 {c:Cx} {σ:St} {all:Array Oper} {d:Nat} {op:Op} {ty:TypeId} {pos:String} {after:Array Edge} {j:Nat} {want B:Bool} (hg:gB σ.ρ all j want=some B) {acc:Prop} {v:V} {p:Prop} (hv:gOp c.ti c.zr σ.ρ σ.E B op acc=some (v,p)) (hp:p) (hd:Nat.blt d σ.n=true):OpS c σ all ⟨some d,op,ty,pos,after,some (j,want)⟩ (put d (.gd B v) σ):=by
 intro θ a w h K Q hK
 have hw:=Q53 h (o:=⟨some d,op,ty,pos,after,some (j,want)⟩) rfl hg
 rw[hw]
 cases B with
 | true =>
  rw[if_pos rfl]
  obtain⟨u,hu,hy⟩:=Q2l h rfl (ty:=ty) hv hp
  unfold Oper.wp
  rw[hy]
  exact hK [] _ _ (h.put hd (v:= .gd true v) hu).app0
 | false =>
  rw[if_neg (by simp)]
  exact hK [] _ _ (h.put hd (v:= .gd false v) rfl).app0
def Qrl (id:Nat):List It→Option (List It)
 | []=>none
 | .blk i::k=>bif Nat.beq i id then some k else Qrl id k
 | .code _::k=>Qrl id k
 | .ops _ _::k=>Qrl id k
 | .goal _::k=>Qrl id k
def stK (σ:St):Option (List It)→Option (St×List It)
 | some k=>some (σ,k)
 | none=>none
def cdK (σ:St) (y z:Code) (k:List It):Option V→Option (St×List It)
 | some (.v (.bool true))=>some (σ,.code y::k)
 | some (.v (.bool false))=>some (σ,.code z::k)
 | _=>none
def opK (r:List Oper) (all:Array Oper) (k:List It):Option St→Option (St×List It)
 | some σ=>some (σ,.ops r all::k)
 | none=>none
def gdK (σ:St) (d:Nat) (want:Bool) (o:Oper) (r:List Oper) (all:Array Oper) (k:List It):Option V→Option (St×List It)
 | some (.v (.bool b)) => bif beqB b want then some (σ, .ops (o :: r) all :: k)
   else bif Nat.blt d σ.n then some (put d (.v undef) σ,.ops r all::k) else none
 | some (.v (.tuple _))=>bif Nat.blt d σ.n then some (put d (.v undef) σ,.ops r all::k) else none
 | _=>none
def adv1 (ti:Nat→TI) (zr:Nat→Option Value) (σ:St):List It→Option (St×List It)
 | .code (.seq x y)::k=>some (σ,.code x :: .code y::k)
 | .code .skip::k=>some (σ,k)
 | .code (.block id b)::k=>some (σ,.code b :: .blk id::k)
 | .blk _::k=>some (σ,k)
 | .code (.exit id)::k=>stK σ (Qrl id k)
 | .code (.region _ ops false)::k=>some (σ,.ops ops.toList ops::k)
 | .code (.cond x y z)::k=>cdK σ y z k (ev σ.ρ x)
 | .ops [] _::k=>some (σ,k)
 | .ops (⟨dst,op,_,_,_,none⟩::r) all::k=>opK r all k (stO ti zr σ dst op)
 | .ops (⟨some d,op,ty,pos,after,some (j,want)⟩::r) all::k=>gdK σ d want ⟨some d,op,ty,pos,after,none⟩ r all k (grd σ.ρ all j)
 | _=>none
theorem Qsc {c:Cx} {res:List Re} {id:Nat} {a:Act} {w:World}: ∀ {k k':List It},Qrl id k=some k'→kQ c res k' .normal a w→kQ c res k (.exit id) a w
 | [],_,h,_=>by cases h
 | .blk i :: k, k', h, hq => by
  simp only[Qrl] at h
  show Exit.inBlock i (kQ c res k) (.exit id) a w
  simp only[Exit.inBlock]
  by_cases hb:Nat.beq i id=true
  ·rw[hb] at h
   cases h
   obtain rfl:=Nat.eq_of_beq_eq_true hb
   rw[if_pos rfl]
   exact hq
  ·rw[Bool.not_eq_true] at hb
   rw[hb] at h
   have hne: ¬ id=i:=fun e=>by subst e;simp at hb
   rw[if_neg hne]
   exact Qsc h hq
 | .code _::k,k',h,hq=>Qsc (k:=k) h hq
 | .ops _ _::k,k',h,hq=>Qsc (k:=k) h hq
 | .goal _::k,k',h,hq=>Qsc (k:=k) h hq
theorem Run.on {c:Cx} {res:List Re} {σ:St} {dst:Option Tmp} {op:Op} {ty:TypeId} {pos:String} {after:Array Edge} {j:Nat} {b want:Bool} {r:List Oper} {all:Array Oper} {k:List It} (hg:grd σ.ρ all j=some (.v (.bool b))) (hb:beqB b want=true) (h:Run c res σ (.ops (⟨dst,op,ty,pos,after,none⟩::r) all::k)):Run c res σ (.ops (⟨dst,op,ty,pos,after,some (j,want)⟩::r) all::k):=by
 intro θ a w hR
 have:=h θ a w hR
 rw[Qpy] at this ⊢
 have hy:=Yb3 hR hg
 obtain rfl:=Ycy hb
 unfold wpList at this ⊢
 rw[if_pos (by simp[Region.wanted])] at this
 rw[if_pos (by simp[Region.wanted,hy])]
 exact this
theorem Run.adv1 {c:Cx} {res:List Re} {σ σ':St} {k k':List It} (hs:adv1 c.ti c.zr σ k=some (σ',k')) (h:Run c res σ' k'):Run c res σ k:=by
 unfold Fw.adv1 at hs
 split at hs
 ·cases hs;exact fun θ a w hR=>wp_seq (h θ a w hR)
 ·cases hs;exact fun θ a w hR=>wp_skip (h θ a w hR)
 ·cases hs;exact fun θ a w hR=>wp_block (h θ a w hR)
 ·cases hs;exact fun θ a w hR=>h θ a w hR
 ·unfold stK at hs
  split at hs
  ·rename_i hb
   cases hs
   exact fun θ a w hR=>wp_exit (Qsc hb (h θ a w hR))
  ·cases hs
 ·cases hs;exact fun θ a w hR=>wp_region_list (h θ a w hR)
 ·unfold cdK at hs
  split at hs
  ·rename_i hx
   cases hs
   exact fun θ a w hR=>wp_cond_true (Option.some.inj (hR.env.con hx)).symm (h θ a w hR)
  ·rename_i hx
   cases hs
   exact fun θ a w hR=>wp_cond_false (Option.some.inj (hR.env.con hx)).symm (h θ a w hR)
  ·cases hs
 ·cases hs;exact fun θ a w hR=>h θ a w hR
 ·unfold opK at hs
  split at hs
  ·rename_i hst
   cases hs
   exact Run.op (OpS.st hst) h
  ·cases hs
 ·unfold gdK at hs
  split at hs
  ·rename_i b hg
   cases hb:beqB b _ with
   | true =>
    rw[hb] at hs
    cases hs
    exact Run.on hg hb h
   | false =>
    rw[hb] at hs
    simp only[cond_false] at hs
    cases hd:Nat.blt _ σ.n with
    | false=>rw[hd] at hs;cases hs
    | true =>
     rw[hd] at hs
     cases hs
     exact Run.op (OpS.off hg hb hd) h
  ·rename_i t hg
   cases hd:Nat.blt _ σ.n with
   | false=>rw[hd] at hs;cases hs
   | true =>
    rw[hd] at hs
    cases hs
    refine Run.op (fun θ a w hR K Q hK=>?_) h
    obtain⟨u,hu,hy⟩:=Q68 hR hg
    cases hu
    rw[if_neg (by simp[Region.wanted,hy])]
    exact hK [] _ _ (hR.put hd (v:= .v undef) rfl).app0
  ·cases hs
 ·cases hs
def advN (ti:Nat→TI) (zr:Nat→Option Value):Nat→Option (St×List It)→Option (St×List It)
 | 0,x=>x
 | n+1,some (σ,k)=>advN ti zr n (adv1 ti zr σ k)
 | _+1,none=>none
theorem Yc4 {ti:Nat→TI} {zr:Nat→Option Value}: ∀ (n:Nat),advN ti zr n none=none
 | 0=>rfl
 | _+1=>rfl
theorem Run.advN {c:Cx} {res:List Re}: ∀ (n:Nat) {σ σ':St} {k k':List It},advN c.ti c.zr n (some (σ,k))=some (σ',k')→Run c res σ' k'→Run c res σ k
 | 0,_,_,_,_,hs,h=>by cases hs;exact h
 | n + 1, σ, σ', k, k', hs, h => by
  simp only[Fw.advN] at hs
  cases h1:Fw.adv1 c.ti c.zr σ k with
  | none=>rw[h1,Yc4] at hs;cases hs
  | some x =>
   obtain⟨σ1,k1⟩:=x
   rw[h1] at hs
   exact Run.adv1 h1 (Run.advN n hs h)
def gK (σ:St) (d:Nat) (r:List Oper):Option (V×Prop)→Option (St×List Oper×Prop)
 | some (v,q)=>bif Nat.blt d σ.n then some (put d v σ,r,q) else none
 | none=>none
def gK1 (B:Bool):Option (V×Prop)→Option (V×Prop)
 | some (v,q)=>some (.gd B v,q)
 | none=>none
def gK2 (ti:Nat→TI) (zr:Nat→Option Value) (ρ:List (Nat×V)) (E:List (Nat×En)) (op:Op) (p:Prop):Option Bool→Option (V×Prop)
 | some B=>gK1 B (gOp ti zr ρ E B op p)
 | none=>none
def adG1 (ti:Nat→TI) (zr:Nat→Option Value) (σ:St) (all:Array Oper) (p:Prop):List Oper→Option (St×List Oper×Prop)
 | ⟨some d,op,_,_,_,none⟩::r=>gK σ d r (gOp ti zr σ.ρ σ.E true op p)
 | ⟨some d,op,_,_,_,some (j,want)⟩::r=>gK σ d r (gK2 ti zr σ.ρ σ.E op p (gB σ.ρ all j want))
 | _=>none
def adG (ti:Nat→TI) (zr:Nat→Option Value) (all:Array Oper):Nat→Option (St×List Oper×Prop)→Option (St×List Oper×Prop)
 | 0,x=>x
 | n+1,some (σ,l,p)=>adG ti zr all n (adG1 ti zr σ all p l)
 | _+1,none=>none
theorem Yes {ti:Nat→TI} {zr:Nat→Option Value} {all:Array Oper}: ∀ (n:Nat),adG ti zr all n none=none
 | 0=>rfl
 | _+1=>rfl
theorem Yg4 {B:Bool} {acc:Prop} {ρ:List (Nat×V)} {l:List Operand} {o:Option V} {v:V} {p:Prop} (hv:gGo (Qf8 B acc ρ l) o=some (v,p)) (hp:p):acc:=by
 unfold gGo at hv
 split at hv
 ·cases hv;exact Qsl hp
 ·cases hv
theorem Q3a {ti:Nat→TI} {zr:Nat→Option Value} {ρ:List (Nat×V)} {E:List (Nat×En)} {B:Bool} {op:Op} {acc:Prop} {v:V} {p:Prop} (hv:gOp ti zr ρ E B op acc=some (v,p)) (hp:p):acc:=by
 unfold gOp at hv
 split at hv
 ·unfold gPk at hv
  split at hv
  ·unfold gPw at hv
   split at hv
   ·cases hv;exact Qsl hp.1
   ·cases hv
  ·cases hv
 all_goals first | exact Yg4 hv hp | cases hv
theorem Yhk {c:Cx} {res:List Re} {σ σ':St} {l l':List Oper} {all:Array Oper} {k:List It} {p q:Prop} (hs:adG1 c.ti c.zr σ all p l=some (σ',l',q)) (hq:q):p∧(Run c res σ' (.ops l' all::k)→Run c res σ (.ops l all::k)):=by
 unfold adG1 at hs
 split at hs
 ·unfold gK at hs
  split at hs
  ·rename_i v q' hv
   cases hd:Nat.blt _ σ.n with
   | false=>rw[hd] at hs;cases hs
   | true =>
    rw[hd] at hs
    cases hs
    exact⟨Q3a hv hq,fun h=>Run.op (OpS.g0 hv hq hd) h⟩
  ·cases hs
 ·unfold gK at hs
  split at hs
  ·rename_i v q' hv
   unfold gK2 at hv
   split at hv
   ·rename_i B hB
    unfold gK1 at hv
    split at hv
    ·rename_i v1 q1 hv1
     cases hv
     cases hd:Nat.blt _ σ.n with
     | false=>rw[hd] at hs;cases hs
     | true =>
      rw[hd] at hs
      cases hs
      exact⟨Q3a hv1 hq,fun h=>Run.op (OpS.g1 hB hv1 hq hd) h⟩
    ·cases hv
   ·cases hv
  ·cases hs
 ·cases hs
theorem Yf7 {c:Cx} {res:List Re} {all:Array Oper} {k:List It}: ∀ {n:Nat} {σ σ':St} {l l':List Oper} {p q:Prop},adG c.ti c.zr all n (some (σ,l,p))=some (σ',l',q)→q→p∧(Run c res σ' (.ops l' all::k)→Run c res σ (.ops l all::k))
 | 0,_,_,_,_,_,_,hs,hq=>by cases hs;exact⟨hq,id⟩
 | n + 1, σ, σ', l, l', p, q, hs, hq => by
  simp only[adG] at hs
  cases h1:adG1 c.ti c.zr σ all p l with
  | none=>rw[h1,Yes] at hs;cases hs
  | some x =>
   obtain⟨σ1,r,q1⟩:=x
   rw[h1] at hs
   obtain⟨hq1,h2⟩:=Yf7 (res:=res) (k:=k) hs hq
   obtain⟨hp,h3⟩:=Yhk (res:=res) (k:=k) h1 hq1
   exact⟨hp,fun h=>h3 (h2 h)⟩
theorem Run.adG {c:Cx} {res:List Re} {all:Array Oper} {k:List It} (n:Nat) {σ σ':St} {l l':List Oper} {q:Prop} (hs:adG c.ti c.zr all n (some (σ,l,True))=some (σ',l',q)) (hq:q) (h:Run c res σ' (.ops l' all::k)):Run c res σ (.ops l all::k):=(Yf7 hs hq).2 h
end
section
structure SysOk (P:Program) (ti:Nat→TI) (zr:Nat→Option Value) (G:World→Prop):Prop where
 tiok: ∀ t,(ti t).chk P t=true
 zok: ∀ t z,zr t=some z→ ∀ w,(zeroValue t).run P w= .ok z w
 stab: ∀ w w',G w→Keep (Old w) w w'→G w'
def mkcx {P:Program} {ti:Nat→TI} {zr:Nat→Option Value} {G:World→Prop} (s:SysOk P ti zr G) (fn:Func) (w:World) (hG:G w):Cx:=⟨P,fn,ti,zr,G,Old w,w,s.tiok,s.zok,fun w' hk=>s.stab _ _ hG hk,fun _ h=>h,fun R=>R⟩
def Qnr (m:Nat):Ar0→V×List (Nat×En)×Nat
 | .c x=>(.v x,[],0)
 | .st _ d s x=>(.ag (opn false x m s.fk).1,(opn false x m s.fk).2,nsl s.fk)
 | .sl α d xs=>(.sl m xs.length,[(m,.ros α d xs)],1)
 | .rp _ d s x=>(.pt m 0,(m,.roc (opn false x (m+1) s.fk).1)::(opn false x (m+1) s.fk).2,nsl s.fk+1)
def Qld:Nat→List Ar0→List V×List (Nat×En)×Nat
 | _,[]=>([],[],0)
 | m,x::r=>((Qnr m x).1::(Qld (m+(Qnr m x).2.2) r).1,(Qnr m x).2.1++(Qld (m+(Qnr m x).2.2) r).2.1,(Qnr m x).2.2+(Qld (m+(Qnr m x).2.2) r).2.2)
def Qpg (m:Nat):Arg→V×List (Nat×En)×Nat
 | .o a=>Qnr m a
 | .fn f caps=>(.fn f (Qld m caps).1,(Qld m caps).2.1,(Qld m caps).2.2)
def Qka:Nat→List Arg→List V×List (Nat×En)×Nat
 | _,[]=>([],[],0)
 | m,x::r=>((Qpg m x).1::(Qka (m+(Qpg m x).2.2) r).1,(Qpg m x).2.1++(Qka (m+(Qpg m x).2.2) r).2.1,(Qpg m x).2.2+(Qka (m+(Qpg m x).2.2) r).2.2)
def Qm2:Nat→List V→List (Nat×V)
 | _,[]=>[]
 | i,v::r=>(i,v)::Qm2 (i+1) r
def ini (n:Nat) (args:List Arg):St:=⟨n,(Qka 0 args).2.2,Qm2 0 (Qka 0 args).1,(Qka 0 args).2.1⟩
def Qjv (S:Nat→Prop) (w:World) (θ:List Loc) (M:List (Nat×En)):Prop:= ∀ e∈M,e.2.ok S w θ e.1∧ ∀ θ r,e.2.ck θ r=⟨[],fun _=>True⟩
theorem Qjv.ext {S:Nat→Prop} {w:World} {θ θ':List Loc} {M:List (Nat×En)} (h:Qjv S w θ M):Qjv S w (θ++θ') M:=fun e he=>⟨En.ok_ext (h e he).1,(h e he).2⟩
theorem Qjv.app {S:Nat→Prop} {w:World} {θ:List Loc} {M N:List (Nat×En)} (h:Qjv S w θ M) (h':Qjv S w θ N):Qjv S w θ (M++N):=fun e he=>(List.mem_append.1 he).elim (h e) (h' e)
theorem Qjv.nil {S:Nat→Prop} {w:World} {θ:List Loc}:Qjv S w θ []:=fun _ h=>by cases h
theorem Q8z {w:World} {v:Value} {θ:List Loc} {x:Ar0} (h:x.R w v): ∃ θ',θ'.length=(Qnr θ.length x).2.2∧(Qnr θ.length x).1.con (θ++θ')=some v∧Qjv (Old w) w (θ++θ') (Qnr θ.length x).2.1:=by
 cases x with
 | c x=>cases h;exact⟨[],rfl,rfl,Qjv.nil⟩
 | st α d s x =>
  obtain⟨cs,rfl,hr⟩:=h
  obtain⟨θ',hl,hc,he⟩:=Qng (θ:=θ) (s.op hr)
  exact⟨θ',hl,by simp only[Qnr,V.con,hc,Option.map_some],he⟩
 | sl α d xs =>
  have h':SlR (Old w) w v xs:=h
  obtain⟨l,hv,_⟩:=Ybg h'
  have hg:(θ++[l])[θ.length]?=some l:=Qfu
  refine⟨[l],rfl,by simp only[Qnr,V.con,hg,hv],fun e he=>?_⟩
  rcases List.mem_cons.1 he with rfl | he
  ·exact⟨⟨l,hg,by rw[←hv];exact h'⟩,fun _ _=>rfl⟩
  ·cases he
 | rp α d s x =>
  obtain⟨A,cs,rfl,hb,hca,hr⟩:=h
  let l:Loc:=⟨some A,0,[]⟩
  obtain⟨θ',hl,hc,he⟩:=Qng (θ:=θ++[l]) (s.op hr)
  rw[length_append,length_singleton,append_assoc] at hc
  have hg:(θ++([l]++θ'))[θ.length]?=some l:=Qfu
  refine⟨[l]++θ',by rw[length_append,hl,Nat.add_comm];rfl,by simp only[Qnr,V.con,hg];rfl,fun e hm=>?_⟩
  rcases List.mem_cons.1 hm with rfl | hm
  ·exact⟨⟨l,A,cs,hg,rfl,hc,hb,hca⟩,fun _ _=>rfl⟩
  ·rw[length_append,length_singleton,append_assoc] at he
   exact he e hm
theorem Q6l {w:World}: ∀ {vs:List Value} {θ:List Loc} {xs:List Ar0},AsR w vs xs→ ∃ θ',θ'.length=(Qld θ.length xs).2.2∧conL (θ++θ') (Qld θ.length xs).1=some vs∧Qjv (Old w) w (θ++θ') (Qld θ.length xs).2.1
 | [],θ,[],_=>⟨[],rfl,rfl,Qjv.nil⟩
 | [],θ,_::_,h=>h.elim
 | _::_,θ,[],h=>h.elim
 | v :: vs, θ, x :: xs, h => by
  obtain⟨θ1,l1,c1,f1⟩:=Q8z (θ:=θ) h.1
  obtain⟨θ2,l2,c2,f2⟩:=Q6l (θ:=θ++θ1) h.2
  rw[length_append,l1,append_assoc] at c2 f2
  rw[length_append,l1] at l2
  have c1':=V.con_ext (θ':=θ2) c1
  have f1':=f1.ext (θ':=θ2)
  rw[append_assoc] at c1' f1'
  exact⟨θ1++θ2,by rw[length_append,l1,l2];rfl,Qgo c1' c2,f1'.app f2⟩
theorem Yep {w:World} {v:Value} {θ:List Loc} {x:Arg} (h:x.R w v): ∃ θ',θ'.length=(Qpg θ.length x).2.2∧(Qpg θ.length x).1.con (θ++θ')=some v∧Qjv (Old w) w (θ++θ') (Qpg θ.length x).2.1:=by
 cases x with
 | o a=>exact Q8z h
 | fn f caps =>
  obtain⟨vs,rfl,h⟩:=h
  obtain⟨θ',hl,hc,hf⟩:=Q6l (θ:=θ) h
  exact⟨θ',hl,by simp only[Qpg,V.con,hc,Option.map_some],hf⟩
theorem Qzj {w:World}: ∀ {vs:List Value} {θ:List Loc} {xs:List Arg},Q4k w vs xs→ ∃ θ',θ'.length=(Qka θ.length xs).2.2∧conL (θ++θ') (Qka θ.length xs).1=some vs∧Qjv (Old w) w (θ++θ') (Qka θ.length xs).2.1
 | [],θ,[],_=>⟨[],rfl,rfl,Qjv.nil⟩
 | [],θ,_::_,h=>h.elim
 | _::_,θ,[],h=>h.elim
 | v :: vs, θ, x :: xs, h => by
  obtain⟨θ1,l1,c1,f1⟩:=Yep (θ:=θ) h.1
  obtain⟨θ2,l2,c2,f2⟩:=Qzj (θ:=θ++θ1) h.2
  rw[length_append,l1,append_assoc] at c2 f2
  rw[length_append,l1] at l2
  have c1':=V.con_ext (θ':=θ2) c1
  have f1':=f1.ext (θ':=θ2)
  rw[append_assoc] at c1' f1'
  exact⟨θ1++θ2,by rw[length_append,l1,l2];rfl,Qgo c1' c2,f1'.app f2⟩
theorem Qsk {θ:List Loc}: ∀ {vs:List V} {us:List Value} {i t:Nat} {v:V},conL θ vs=some us→lk (Qm2 i vs) t=some v→i≤t∧ ∃ u,us[t - i]?=some u∧v.con θ=some u
 | [],_,_,_,_,_,h=>by cases h
 | x :: r, us, i, t, v, hc, h => by
  obtain⟨a,b,rfl,h1,h2⟩:=Qgf hc
  simp only[Qm2,lk] at h
  by_cases e:Nat.beq i t=true
  ·rw[e] at h
   obtain rfl:=Nat.eq_of_beq_eq_true e
   cases h
   exact⟨Nat.le_refl _,a,by simp,h1⟩
  ·rw[Bool.not_eq_true] at e
   rw[e] at h
   obtain⟨hle,u,hu,hv⟩:=Qsk h2 h
   refine⟨by omega,u,?_,hv⟩
   rw[show t - i=(t - (i+1))+1 by omega]
   simpa using hu
def Qrj:List Arg→Prop
 | []=>True
 | .o (.c _)::xs=>Qrj xs
 | .o (.st _ d _ x)::xs=>d.good x∧Qrj xs
 | .o (.sl α d ys)::xs=>(@instDatList α d).good ys∧Qrj xs
 | .o (.rp _ d _ x)::xs=>d.good x∧Qrj xs
 | .fn _ _::xs=>Qrj xs
theorem Ycz {w:World}: ∀ {vs:List Value} {xs:List Arg},Q4k w vs xs→Qrj xs
 | [],[],_=>trivial
 | [],_::_,h=>h.elim
 | _::_,[],h=>h.elim
 | v :: vs, x :: xs, h => by
  obtain⟨h1,h2⟩:=h
  have ih:=Ycz h2
  cases x with
  | fn f caps=>exact ih
  | o a => cases a with
   | c x=>exact ih
   | st α d s x=>obtain⟨cs,_,hr⟩:=h1;exact⟨Dat.rd_good hr,ih⟩
   | sl α d ys=>exact⟨(@instDatList α d).rd_good (B:=Old w) (w:=w) (cs:=[v]) ⟨v,rfl,h1⟩,ih⟩
   | rp α d s x=>obtain⟨A,cs,_,_,_,hr⟩:=h1;exact⟨Dat.rd_good hr,ih⟩
theorem CT.of {P:Program} {ti:Nat→TI} {zr:Nat→Option Value} {G:World→Prop} (s:SysOk P ti zr G) {f:FuncId} {fn:Func} {code:Code} {n:Nat} {args:List Arg} {res:List Re} (hf:P.funcs[f]?=some fn) (hb:fn.body=some code) (hn:fn.ntmps=n) (hl:Nat.ble args.length n=true)
  (h: ∀ w (hG:G w),Qrj args→Run (mkcx s fn w hG) res (ini n args) [.code code]):CT P G f args res:=by
 intro w vs hG ha
 refine calls_of_wp hf hb ?_
 obtain⟨θ',hlen,hc,hfa⟩:=Qzj (θ:=[]) ha
 simp only[List.nil_append,length_nil] at hc hfa hlen
 have hvl:vs.length=args.length:=by
  clear hc hfa hlen hl h
  induction vs generalizing args with
  | nil => cases args with
   | nil=>rfl
   | cons=>exact ha.elim
  | cons v vs ih => cases args with
   | nil=>exact ha.elim
   | cons x xs=>rw[length_cons,length_cons,ih ha.2]
 have hle:=Nat.le_of_ble_eq_true hl
 refine h w hG (Ycz ha) θ' _ w ⟨hlen,⟨?_,rfl,fun t v hv=>?_⟩,Old w,w,?_⟩
 ·show(vs.toArray++Array.replicate (fn.ntmps - vs.toArray.size) undef).size=n
  simp[hn];omega
 ·obtain⟨_,u,hu,hcu⟩:=Qsk hc hv
  rw[Nat.sub_zero] at hu
  have hlt:=(List.getElem?_eq_some_iff.1 hu).1
  refine⟨?_,by show t<n;omega⟩
  rw[hcu]
  simp[Array.getD_eq_getD_getElem?,Array.getElem?_append_left (show t<vs.toArray.size by simpa using hlt),hu]
 ·have h0:RH (mkcx s fn w hG) [] [] (Old w) w w:=⟨Keep.refl _ _,fun _ h=>h,SH.start w,fun e he=>by cases he⟩
  have h1:=h0.facts (θ':=θ') (M:=(Qka 0 args).2.1) hfa
  simpa [ini] using h1
structure Pay:Type 1 where
 α:Type
 d:Dat α
 xs:List α
def En.pay:En→Option Pay
 | .own α d xs=>some ⟨α,d,xs⟩
 | .ros α d xs=>some ⟨α,d,xs⟩
 | _=>none
def En.payO:En→Option Pay
 | .own α d xs=>some ⟨α,d,xs⟩
 | _=>none
def payE (E:List (Nat×En)) (r:Nat):Option Pay:=match lkE E r with
 | some e=>e.pay
 | none=>none
def Qoo (E:List (Nat×En)) (r:Nat):Option Pay:=match lkE E r with
 | some e=>e.payO
 | none=>none
def SlOk (E:List (Nat×En)) (α:Type) (d:Dat α) (xs:List α):V→Prop
 | .sl r n=>n=xs.length∧payE E r=some ⟨α,d,xs⟩
 | .v x=>x= .slice none 0 0∧xs=[]
 | _=>False
def Qxh (E:List (Nat×En)) (α:Type) (d:Dat α) (xs:List α):V→Prop
 | .sl r n=>n=xs.length∧Qoo E r=some ⟨α,d,xs⟩
 | .v x=>x= .slice none 0 0∧xs=[]
 | _=>False
def FkV (E:List (Nat×En)) {α:Type} (x:α):List (Fk α)→List V→Prop
 | [],[]=>True
 | .int g::fs,v::vs=>v= .v (.int .i64 (g x))∧FkV E x fs vs
 | .byte g::fs,v::vs=>v= .v (.int .u8 (g x).toNat)∧FkV E x fs vs
 | .bool g::fs,v::vs=>v= .v (.bool (g x))∧FkV E x fs vs
 | .str g::fs,v::vs=>v= .v (.string (g x))∧FkV E x fs vs
 | .sl β d g::fs,v::vs=>SlOk E β d (g x) v∧FkV E x fs vs
 | _,_=>False
def FkO (E:List (Nat×En)) {α:Type} (x:α):List (Fk α)→List V→Prop
 | [],[]=>True
 | .int g::fs,v::vs=>v= .v (.int .i64 (g x))∧FkO E x fs vs
 | .byte g::fs,v::vs=>v= .v (.int .u8 (g x).toNat)∧FkO E x fs vs
 | .bool g::fs,v::vs=>v= .v (.bool (g x))∧FkO E x fs vs
 | .str g::fs,v::vs=>v= .v (.string (g x))∧FkO E x fs vs
 | .sl β d g::fs,v::vs=>Qxh E β d (g x) v∧FkO E x fs vs
 | _,_=>False
def agC:V→Option (List V)
 | .ag cs=>some cs
 | .v (.agg l)=>some (l.toList.map .v)
 | _=>none
def Qun (E:List (Nat×En)) (r:Nat):Option (List V):=match lkE E r with
 | some e=>e.cells
 | none=>none
def Ar0.ok (E:List (Nat×En)) (v:V):Ar0→Prop
 | .c x=>v= .v x
 | .st _ _ s x => Dat.good x ∧ match agC v with
  | some cs=>FkV E x s.fk cs
  | none=>False
 | .sl α d xs=>SlOk E α d xs v
 | .rp _ _ s x => Dat.good x ∧ match v with
  | .pt r off => off = 0 ∧ match Qun E r with
   | some cs=>FkV E x s.fk cs
   | none=>False
  | _=>False
def AsOk (E:List (Nat×En)):List V→List Ar0→Prop
 | [],[]=>True
 | v::vs,x::xs=>x.ok E v∧AsOk E vs xs
 | _,_=>False
def Arg.ok (E:List (Nat×En)) (v:V):Arg→Prop
 | .o a=>a.ok E v
 | .fn f caps => match v with
  | .fn g cs=>g=f∧AsOk E cs caps
  | _=>False
def Qmv (E:List (Nat×En)):List V→List Arg→Prop
 | [],[]=>True
 | v::vs,x::xs=>x.ok E v∧Qmv E vs xs
 | _,_=>False
section
variable {c:Cx} {θ:List Loc} {E:List (Nat×En)} {S:Nat→Prop} {w1 w:World}
theorem RH.lt (h:RH c θ E S w1 w): ∀ b,S b→b<w.heap.size:=fun b hb=>by have:=h.sh.dom b hb;have:=h.sh.size;omega
theorem Ygs {α:Type} [Dat α] {B:Nat→Prop}:SlR B w (.slice none 0 0) ([]:List α):=⟨none,0,rfl,by simp,by simp[maxLen],fun h=>absurd rfl h⟩
theorem RH.own (h:RH c θ E S w1 w) {r:Nat} {α:Type} {d:Dat α} {xs:List α} (he:lkE E r=some (.own α d xs)): ∃ l,θ[r]?=some l∧SlO w (.slice l.A xs.length l.cap) xs l.F:=
 (h.sh.ok _ (List.mem_map.2 ⟨_,Qe1 he,rfl⟩)).here
theorem Qx6 {r:Nat} {α:Type} {d:Dat α} {xs:List α} (h:payE E r=some ⟨α,d,xs⟩):lkE E r=some (.own α d xs)∨lkE E r=some (.ros α d xs):=by
 unfold payE at h
 split at h
 ·rename_i e he
  cases e with
  | own α' d' ys=>cases h;exact .inl he
  | ros α' d' ys=>cases h;exact .inr he
  | var=>cases h
  | lit=>cases h
  | roc=>cases h
  | itr=>cases h
  | any=>cases h
  | pin=>cases h
 ·cases h
theorem Ql0 {r:Nat} {α:Type} {d:Dat α} {xs:List α} (h:Qoo E r=some ⟨α,d,xs⟩):lkE E r=some (.own α d xs):=by
 unfold Qoo at h
 split at h
 ·rename_i e he
  cases e with
  | own α' d' ys=>cases h;exact he
  | ros α' d' ys=>cases h
  | var=>cases h
  | lit=>cases h
  | roc=>cases h
  | itr=>cases h
  | any=>cases h
  | pin=>cases h
 ·cases h
theorem RH.slOk (h:RH c θ E S w1 w) {α:Type} {d:Dat α} {xs:List α} {v:V} {u:Value} (hv:v.con θ=some u) (hs:SlOk E α d xs v):SlR (Old w) w u xs:=by
 cases v with
 | v x =>
  obtain⟨rfl,rfl⟩:=hs
  cases hv
  exact Ygs
 | sl r n =>
  obtain⟨rfl,hp⟩:=hs
  simp only[V.con] at hv
  rcases Qx6 hp with he | he
  ·obtain⟨l,hl,ho⟩:=h.own he
   rw[hl] at hv
   cases hv
   exact ho.rd fun b hb=>ho.lt b hb
  ·obtain⟨l,hl,ho⟩:=h.ok _ (Qe1 he)
   simp only at hl
   rw[hl] at hv
   cases hv
   exact h.sh.up ho
 | pt=>exact hs.elim
 | ag=>exact hs.elim
 | fn=>exact hs.elim
 | tu=>exact hs.elim
 | gd=>exact hs.elim
theorem RH.fkV (h:RH c θ E S w1 w) {α:Type} {x:α}: ∀ {fk:List (Fk α)} {cs:List V} {us:List Value},conL θ cs=some us→FkV E x fk cs→GdL x fk→RdL (Old w) w x fk us
 | [],[],us,hc,_,_=>by cases hc;rfl
 | [],_::_,_,_,hf,_=>hf.elim
 | f::fs,[],_,_,hf,_=>by cases f<;>exact hf.elim
 | f :: fs, v :: vs, us, hc, hf, hg => by
  obtain⟨a,b,rfl,h1,h2⟩:=Qgf hc
  cases f with
  | int g=>obtain⟨rfl,hf⟩:=hf;cases h1;exact⟨_,_,rfl,⟨rfl,hg.1⟩,h.fkV h2 hf hg.2⟩
  | byte g=>obtain⟨rfl,hf⟩:=hf;cases h1;exact⟨_,_,rfl,rfl,h.fkV h2 hf hg.2⟩
  | bool g=>obtain⟨rfl,hf⟩:=hf;cases h1;exact⟨_,_,rfl,rfl,h.fkV h2 hf hg.2⟩
  | str g=>obtain⟨rfl,hf⟩:=hf;cases h1;exact⟨_,_,rfl,⟨rfl,hg.1⟩,h.fkV h2 hf hg.2⟩
  | sl β d g=>obtain⟨hs,hf⟩:=hf;exact⟨_,_,rfl,h.slOk h1 hs,h.fkV h2 hf hg.2⟩
theorem Yf6 {v:V} {cs:List V} {u:Value} (h:agC v=some cs) (hv:v.con θ=some u): ∃ us,conL θ cs=some us∧u= .agg us.toArray:=by
 cases v with
 | ag cs' =>
  cases h
  simp only[V.con,Option.map_eq_some_iff] at hv
  obtain⟨l,hl,rfl⟩:=hv
  exact⟨l,hl,rfl⟩
 | v x =>
  cases hv
  cases u<;>simp only[agC] at h<;>cases h
  exact⟨_,Q6a _,rfl⟩
 | sl=>cases h
 | pt=>cases h
 | fn=>cases h
 | tu=>cases h
 | gd=>cases h
theorem RH.arOk (h:RH c θ E S w1 w) {v:V} {u:Value} {x:Ar0} (hv:v.con θ=some u) (ho:x.ok E v):x.R w u:=by
 cases x with
 | c x=>obtain rfl:=ho;cases hv;rfl
 | st α d s x =>
  obtain⟨hg,ho⟩:=ho
  split at ho
  ·rename_i cs hcs
   obtain⟨us,hus,rfl⟩:=Yf6 hcs hv
   exact⟨us,rfl,s.cl (h.fkV hus ho (s.gd hg))⟩
  ·exact ho.elim
 | sl α d xs=>exact h.slOk hv ho
 | rp α d s x =>
  obtain⟨hg,ho⟩:=ho
  cases v with
  | pt r off =>
   obtain⟨rfl,ho⟩:=ho
   split at ho
   ·rename_i cs hcs
    unfold Qun at hcs
    split at hcs
    ·rename_i e he
     obtain⟨l,A,ccs,h1,h2,h3,h4⟩:=h.at he hcs
     obtain⟨l',A',h1',h2',rfl⟩:=Qqz hv
     rw[h1] at h1';cases h1'
     rw[h2] at h2';cases h2'
     refine⟨A,ccs,rfl,?_,h4,s.cl (h.fkV h3 ho (s.gd hg))⟩
     cases e with
     | var cs' T =>
      obtain⟨l',b,ccs',h1',h2',_,_,h5⟩:=(h.sh.ok _ (List.mem_map.2 ⟨_,Qe1 he,rfl⟩)).here
      simp only at h1'
      rw[h1] at h1';cases h1'
      rw[h2] at h2';cases h2'
      exact(Array.getElem?_eq_some_iff.1 h5).1
     | lit cs' T n =>
      obtain⟨l',b,ccs',⟨h1',_⟩,h2',_,_,h5⟩:=(h.sh.ok _ (List.mem_map.2 ⟨_,Qe1 he,rfl⟩)).here
      simp only at h1'
      rw[h1] at h1';cases h1'
      rw[h2] at h2';cases h2'
      exact(Array.getElem?_eq_some_iff.1 h5).1
     | roc cs' =>
      obtain⟨l',A',ccs',h1',h2',_,h4',_⟩:=h.ok _ (Qe1 he)
      simp only at h1'
      rw[h1] at h1';cases h1'
      rw[h2] at h2';cases h2'
      exact h.lt _ h4'
     | own=>cases hcs
     | ros=>cases hcs
     | itr=>cases hcs
     | any=>cases hcs
     | pin=>cases hcs
    ·cases hcs
   ·exact ho.elim
  | v=>exact ho.elim
  | sl=>exact ho.elim
  | ag=>exact ho.elim
  | fn=>exact ho.elim
  | tu=>exact ho.elim
  | gd=>exact ho.elim
theorem RH.asOk (h:RH c θ E S w1 w): ∀ {vs:List V} {us:List Value} {xs:List Ar0},conL θ vs=some us→AsOk E vs xs→AsR w us xs
 | [],us,[],hc,_=>by cases hc;trivial
 | [],_,_::_,_,ho=>ho.elim
 | _::_,_,[],_,ho=>ho.elim
 | v :: vs, us, x :: xs, hc, ho => by
  obtain⟨a,b,rfl,h1,h2⟩:=Qgf hc
  exact⟨h.arOk h1 ho.1,h.asOk h2 ho.2⟩
theorem RH.argOk (h:RH c θ E S w1 w) {v:V} {u:Value} {x:Arg} (hv:v.con θ=some u) (ho:x.ok E v):x.R w u:=by
 cases x with
 | o a=>exact h.arOk hv ho
 | fn f caps =>
  cases v with
  | fn g cs =>
   obtain⟨rfl,ho⟩:=ho
   simp only[V.con,Option.map_eq_some_iff] at hv
   obtain⟨l,hl,rfl⟩:=hv
   exact⟨l,rfl,h.asOk hl ho⟩
  | v=>exact ho.elim
  | sl=>exact ho.elim
  | pt=>exact ho.elim
  | ag=>exact ho.elim
  | tu=>exact ho.elim
  | gd=>exact ho.elim
theorem RH.argsOk (h:RH c θ E S w1 w): ∀ {vs:List V} {us:List Value} {xs:List Arg},conL θ vs=some us→Qmv E vs xs→Q4k w us xs
 | [],us,[],hc,_=>by cases hc;trivial
 | [],_,_::_,_,ho=>ho.elim
 | _::_,_,[],_,ho=>ho.elim
 | v :: vs, us, x :: xs, hc, ho => by
  obtain⟨a,b,rfl,h1,h2⟩:=Qgf hc
  exact⟨h.argOk h1 ho.1,h.argsOk h2 ho.2⟩
end
theorem EnvV.back {n:Nat} {θ:List Loc} {ρ:List (Nat×V)} {a a':Act} (h:EnvV n θ ρ a) {d:Nat} {u:Value} (hE:Env n ((d,u)::selfρ a) a') {v:V} (hv:v.con θ=some u) (hd:Nat.blt d n=true):EnvV n θ ((d,v)::ρ) a':=by
 refine⟨hE.size,hE.defers,fun t x hx=>?_⟩
 simp only[lk] at hx
 by_cases e:Nat.beq d t=true
 ·rw[e] at hx
  obtain rfl:=Nat.eq_of_beq_eq_true e
  cases hx
  have:=hE.get d u (by simp[lk?])
  exact⟨by rw[hv,this],by simpa using hd⟩
 ·rw[Bool.not_eq_true] at e
  rw[e] at hx
  obtain⟨h1,h2⟩:=h.get t x hx
  refine⟨?_,h2⟩
  rw[h1,hE.get t (a.tmps.getD t undef)]
  simp only[lk?,e,cond_false]
  unfold selfρ
  rw[lk?_self,if_pos (by rw[h.size];exact List.mem_range.2 h2)]
theorem Run.cond {c:Cx} {res:List Re} {σ:St} {k:List It} {x:Operand} {y z:Code} {b:Bool} (hx:ev σ.ρ x=some (.v (.bool b))) (ht:b=true→Run c res σ (.code y::k)) (hf:b=false→Run c res σ (.code z::k)):Run c res σ (.code (.cond x y z)::k):=by
 intro θ a w h
 exact wp_cond_split (Option.some.inj (h.env.con hx)).symm (fun e=>ht e θ a w h) (fun e=>hf e θ a w h)
def V.names:V→List Nat
 | .sl r _=>[r]
 | .ag cs=>namesL cs
 | _=>[]
where namesL:List V→List Nat
 | []=>[]
 | .sl r _::l=>r::namesL l
 | _::l=>namesL l
def Re.ok (E:List (Nat×En)) (v:V):Re→Prop
 | .c x=>v= .v x
 | .st _ _ s x => Dat.good x ∧ match agC v with
  | some cs=>FkO E x s.fk cs
  | none=>False
 | .sl α d xs=>Qxh E α d xs v
def Yav (E:List (Nat×En)):List V→List Re→Prop
 | [],[]=>True
 | v::vs,x::xs=>x.ok E v∧Yav E vs xs
 | _,_=>False
def Qq0:List V→List Re→List Nat
  | v::vs,.c _::rs=>Qq0 vs rs
  | v :: vs, .st _ _ _ _ :: rs => (match agC v with
    | some cs=>V.names.namesL cs
    | none=>[])++Qq0 vs rs
  | v::vs,.sl _ _ _::rs=>V.names.namesL [v]++Qq0 vs rs
  | _,_=>[]
section
variable {c:Cx} {θ:List Loc} {E:List (Nat×En)} {S:Nat→Prop} {w1 w:World}
theorem Q21 {α:Type} [Dat α] {w:World}:SlO w (.slice none 0 0) ([]:List α) []:= .inl ⟨rfl,rfl,rfl⟩
theorem RH.slOwn (h:RH c θ E S w1 w) {α:Type} {d:Dat α} {xs:List α} {v:V} {u:Value} (hv:v.con θ=some u) (hs:Qxh E α d xs v):SlO w u xs ((V.names.namesL [v]).flatMap (locF θ)):=by
 cases v with
 | v x =>
  obtain⟨rfl,rfl⟩:=hs
  cases hv
  exact Q21
 | sl r n =>
  obtain⟨rfl,hp⟩:=hs
  simp only[V.con] at hv
  obtain⟨l,hl,ho⟩:=h.own (Ql0 hp)
  rw[hl] at hv
  cases hv
  have:(V.names.namesL [V.sl r xs.length]).flatMap (locF θ)=l.F:=by
   show locF θ r++[]=l.F
   rw[Qaj hl,append_nil]
  rw[this]
  exact ho
 | pt=>exact hs.elim
 | ag=>exact hs.elim
 | fn=>exact hs.elim
 | tu=>exact hs.elim
 | gd=>exact hs.elim
theorem Ql9 (v:V) (vs:List V):V.names.namesL (v::vs)=V.names.namesL [v]++V.names.namesL vs:=by cases v<;>rfl
theorem RH.fkO (h:RH c θ E S w1 w) {α:Type} {x:α}: ∀ {fk:List (Fk α)} {cs:List V} {us:List Value},conL θ cs=some us→FkO E x fk cs→GdL x fk→OwL w x fk us ((V.names.namesL cs).flatMap (locF θ))
 | [],[],us,hc,_,_=>by cases hc;exact⟨rfl,rfl⟩
 | [],_::_,_,_,hf,_=>hf.elim
 | f::fs,[],_,_,hf,_=>by cases f<;>exact hf.elim
 | f :: fs, v :: vs, us, hc, hf, hg => by
  obtain⟨a,b,rfl,h1,h2⟩:=Qgf hc
  rw[Ql9,List.flatMap_append]
  cases f with
  | int g=>obtain⟨rfl,hf⟩:=hf;cases h1;exact⟨_,_,_,_,rfl,rfl,⟨⟨rfl,hg.1⟩,rfl⟩,h.fkO h2 hf hg.2⟩
  | byte g=>obtain⟨rfl,hf⟩:=hf;cases h1;exact⟨_,_,_,_,rfl,rfl,⟨rfl,rfl⟩,h.fkO h2 hf hg.2⟩
  | bool g=>obtain⟨rfl,hf⟩:=hf;cases h1;exact⟨_,_,_,_,rfl,rfl,⟨rfl,rfl⟩,h.fkO h2 hf hg.2⟩
  | str g=>obtain⟨rfl,hf⟩:=hf;cases h1;exact⟨_,_,_,_,rfl,rfl,⟨⟨rfl,hg.1⟩,rfl⟩,h.fkO h2 hf hg.2⟩
  | sl β d g=>obtain⟨hs,hf⟩:=hf;exact⟨_,_,_,_,rfl,rfl,h.slOwn h1 hs,h.fkO h2 hf hg.2⟩
theorem RH.resOk (h:RH c θ E S w1 w): ∀ {vs:List V} {us:List Value} {xs:List Re},conL θ vs=some us→Yav E vs xs→ResL w us ((Qq0 vs xs).flatMap (locF θ)) xs
 | [],us,[],hc,_=>by cases hc;rfl
 | [],_,_::_,_,ho=>ho.elim
 | _::_,_,[],_,ho=>ho.elim
 | v :: vs, us, x :: xs, hc, ho => by
  obtain⟨a,b,rfl,h1,h2⟩:=Qgf hc
  have ih:=h.resOk h2 ho.2
  cases x with
  | c x =>
   obtain⟨rfl,_⟩:=ho
   cases h1
   exact⟨[],_,rfl,⟨rfl,rfl⟩,ih⟩
  | st α d s x =>
   obtain⟨⟨hg,ho⟩,_⟩:=ho
   split at ho
   ·rename_i cs hcs
    obtain⟨us',hus,rfl⟩:=Yf6 hcs h1
    simp only[Qq0,hcs,List.flatMap_append]
    exact⟨_,_,rfl,⟨us',rfl,s.omk (h.fkO hus ho (s.gd hg))⟩,ih⟩
   ·exact ho.elim
  | sl α d xs =>
   simp only[Qq0,List.flatMap_append]
   exact⟨_,_,rfl,h.slOwn h1 ho.1,ih⟩
def ownN (E:List (Nat×En)) (r:Nat):Prop:= ∃ p,Qoo E r=some p
theorem RH.nodup (h:RH c θ E S w1 w): ∀ {rs:List Nat},rs.Nodup→(∀ r∈rs,ownN E r)→(rs.flatMap (locF θ)).Nodup∧ ∀ b∈rs.flatMap (locF θ),¬ S b
 | [],_,_=>⟨by simp,fun b hb=>by cases hb⟩
 | r :: rs, hn, ho => by
  obtain⟨h1,h2⟩:=h.nodup (List.nodup_cons.1 hn).2 fun r hr=>ho r (by simp[hr])
  have hap:=Qbs.1 h.sh.apart
  have key: ∀ r,ownN E r→ ∃ i:Nat,∃ e,E[i]?=some (r,e)∧(e.ck θ r).F=locF θ r:=by
   intro r ⟨⟨α,d,xs⟩,hp⟩
   obtain⟨i,hi,_⟩:=Qrs (Ql0 hp)
   exact⟨i,_,hi,rfl⟩
  obtain⟨i,e,hi,hF⟩:=key r (ho r (by simp))
  have hLi:(E.map fun e=>e.2.ck θ e.1)[i]?=some (e.ck θ r):=by rw[List.getElem?_map,hi];rfl
  refine⟨?_,?_⟩
  ·rw[flatMap_cons]
   refine List.nodup_append.2 ⟨by rw[←hF];exact hap.1 i _ hLi,h1,fun a ha b hb hab=>?_⟩
   subst hab
   obtain⟨r',hr',hb'⟩:=mem_flatMap.1 hb
   obtain⟨j,e',hj,hF'⟩:=key r' (ho r' (by simp[hr']))
   have hLj:(E.map fun e=>e.2.ck θ e.1)[j]?=some (e'.ck θ r'):=by rw[List.getElem?_map,hj];rfl
   refine hap.2 i j _ _ hLi hLj ?_ a (by rw[hF];exact ha) (by rw[hF'];exact hb')
   intro e
   subst e
   rw[hi] at hj
   cases hj
   exact(List.nodup_cons.1 hn).1 hr'
  ·intro b hb
   rw[flatMap_cons] at hb
   rcases List.mem_append.1 hb with hb | hb
   ·exact(h.sh.ge _ (mem_of_getElem? hLi) b (by rw[hF];exact hb)).1
   ·exact h2 b hb
end
theorem Qx2 {E:List (Nat×En)} {α:Type} {d:Dat α} {xs:List α} {v:V} (h:Qxh E α d xs v): ∀ r∈V.names.namesL [v],ownN E r:=by
 intro r hr
 cases v with
 | sl r' n =>
  have:r=r':=by simpa [V.names.namesL] using hr
  subst this
  exact⟨_,h.2⟩
 | _=>cases hr
theorem Qlb {E:List (Nat×En)} {α:Type} {x:α}: ∀ {fk:List (Fk α)} {cs:List V},FkO E x fk cs→ ∀ r∈V.names.namesL cs,ownN E r
 | [],[],_,r,hr=>by cases hr
 | [],_::_,h,_,_=>h.elim
 | f::fs,[],h,_,_=>by cases f<;>exact h.elim
 | f :: fs, v :: vs, h, r, hr => by
  rw[Ql9] at hr
  cases f with
  | sl β d g =>
   rcases List.mem_append.1 hr with hr | hr
   ·exact Qx2 h.1 r hr
   ·exact Qlb h.2 r hr
  | int g=>obtain⟨rfl,h⟩:=h;exact Qlb h r (by simpa [V.names.namesL] using hr)
  | byte g=>obtain⟨rfl,h⟩:=h;exact Qlb h r (by simpa [V.names.namesL] using hr)
  | bool g=>obtain⟨rfl,h⟩:=h;exact Qlb h r (by simpa [V.names.namesL] using hr)
  | str g=>obtain⟨rfl,h⟩:=h;exact Qlb h r (by simpa [V.names.namesL] using hr)
theorem Qom {E:List (Nat×En)}: ∀ {vs:List V} {xs:List Re},Yav E vs xs→ ∀ r∈Qq0 vs xs,ownN E r
 | [],[],_,r,hr=>by cases hr
 | [],_::_,h,_,_=>h.elim
 | _::_,[],h,_,_=>h.elim
 | v :: vs, x :: xs, h, r, hr => by
  cases x with
  | c x=>exact Qom h.2 r hr
  | sl α d ys =>
   rcases List.mem_append.1 hr with hr | hr
   ·exact Qx2 h.1 r hr
   ·exact Qom h.2 r hr
  | st α d s y =>
   obtain⟨⟨_,h1⟩,h2⟩:=h
   rcases List.mem_append.1 hr with hr | hr
   ·split at h1
    ·rename_i cs hcs
     rw[hcs] at hr
     exact Qlb h1 r hr
    ·exact h1.elim
   ·exact Qom h2 r hr
def rvS (tmps:Array Value):ResultVar→Sem Value
 | .tmp t=>pure (tmps.getD t undef)
 | .cell a t=>do loadVar t (←asAddr (tmps.getD a undef))
def RvL (P:Program) (w:World) (tmps:Array Value):List ResultVar→List Value→Prop
 | [],us=>us=[]
 | r::rs,us=> ∃ u us',us=u::us'∧(rvS tmps r).run P w= .ok u w∧RvL P w tmps rs us'
theorem Q2i {fn:Func} {rs:List ResultVar} {us:List Value} (h:fn.results.toList=rs) (hl:Nat.ble rs.length 4=true) {tmps:Array Value} {P:Program} {w:World} (hr:RvL P w tmps rs us):(results fn tmps).run P w= .ok (pack us) w:=by
 have h':fn.results=rs.toArray:=Array.toList_inj.1 h
 have e:results fn tmps=(do
   let vs ←fn.results.mapM (rvS tmps)
   pure (if h:vs.size=1 then vs[0] else .tuple vs)):=rfl
 rw[e,h']
 match rs,hl,hr with
 | [],_,hr=>obtain rfl:=hr;simp[pack]
 | [a],_,⟨u,_,e1,h1,e2⟩=>cases e2;cases e1;simp[pack,h1]
 | [a,b],_,⟨u,_,e1,h1,⟨u2,_,e3,h2,e4⟩⟩=>cases e4;cases e3;cases e1;simp[pack,h1,h2]
 | [a,b,c],_,⟨u,_,e1,h1,⟨u2,_,e3,h2,⟨u3,_,e5,h3,e6⟩⟩⟩=>cases e6;cases e5;cases e3;cases e1;simp[pack,h1,h2,h3]
 | [a,b,c,d],_,⟨u,_,e1,h1,⟨u2,_,e3,h2,⟨u3,_,e5,h3,⟨u4,_,e7,h4,e8⟩⟩⟩⟩=>cases e8;cases e7;cases e5;cases e3;cases e1;simp[pack,h1,h2,h3,h4]
 | a::b::c::d::e::r,hl,_=>simp at hl
def rvV (ti:Nat→TI) (ρ:List (Nat×V)) (E:List (Nat×En)):ResultVar→Option V
 | .tmp t=>lk ρ t
 | .cell a t=>ldV (ti t) E (lk ρ a)
def rvsV (ti:Nat→TI) (ρ:List (Nat×V)) (E:List (Nat×En)):List ResultVar→Option (List V)
 | []=>some []
 | r::rs=>Qa9 (rvV ti ρ E r) (rvsV ti ρ E rs)
theorem Yhy {c:Cx} {θ:List Loc} {σ:St} {a:Act} {w:World} (h:R c θ σ a w) {r:ResultVar} {v:V} (hv:rvV c.ti σ.ρ σ.E r=some v): ∃ u,v.con θ=some u∧(rvS a.tmps r).run c.P w= .ok u w:=by
 cases r with
 | tmp t=>exact⟨_,(h.env.get t v hv).1,by simp[rvS]⟩
 | cell s t =>
  simp only[rvV] at hv
  unfold ldV at hv
  split at hv
  ·rename_i r off hx
   have hc:=(h.env.get s _ hx).1
   obtain⟨S,w1,hh⟩:=h.heap
   cases he:lkE σ.E r with
   | none=>rw[he] at hv;cases hv
   | some e =>
    rw[he] at hv
    have key: ∀ cs,e.cells=some cs→ldC (c.ti t) off cs=some v→ ∃ u,v.con θ=some u∧(rvS a.tmps (.cell s t)).run c.P w= .ok u w:=by
     intro cs hcs hv
     obtain⟨l,A,ccs,h1,h2,h3,h4⟩:=hh.at he hcs
     obtain⟨l',A',h1',h2',hp⟩:=Qqz hc
     rw[h1] at h1';cases h1'
     rw[h2] at h2';cases h2'
     have hti:=c.tiok t
     unfold ldC at hv
     split at hv
     ·cases hv
     ·rename_i n offs heq
      rw[heq] at hti
      simp only[TI.chk,Bool.and_eq_true] at hti
      cases hb:Nat.ble (off+n) cs.length with
      | false=>rw[hb] at hv;cases hv
      | true =>
       rw[hb] at hv
       cases hv
       have hlen:=Qhi h3
       have hle:=Nat.le_of_ble_eq_true hb
       refine⟨.agg ((ccs.drop off).take n).toArray,by simp only[V.con,Qob n (Qoc off h3),Option.map_some],?_⟩
       simp only[rvS,hp,asAddr,Sem.run_bind,Sem.run_pure,Result.andThen_ok]
       exact Qpu (h4.part rfl) hti.1 (by rw[length_take,length_drop];omega)
     ·rename_i hno hst
      obtain⟨u,hu,hcu⟩:=Qql h3 (Qpi hv)
      refine⟨u,hcu,?_⟩
      simp only[rvS,hp,asAddr,Sem.run_bind,Sem.run_pure,Result.andThen_ok]
      refine Qpt (h4.cell hu) ?_
      rcases TI.one_of hti with ⟨n,o,e⟩ | e | h
      ·exact absurd e (by intro h;exact hst n o h)
      ·exact absurd e (by intro h;exact hno h)
      ·exact h.1
    cases e with
    | var cs T=>exact key cs rfl hv
    | roc cs=>exact key cs rfl hv
    | lit cs T n=>cases hv
    | own=>cases hv
    | ros=>cases hv
    | itr=>cases hv
    | any=>cases hv
    | pin=>cases hv
  ·cases hv
theorem Q6y {c:Cx} {θ:List Loc} {σ:St} {a:Act} {w:World} (h:R c θ σ a w): ∀ {rs:List ResultVar} {vs:List V},rvsV c.ti σ.ρ σ.E rs=some vs→ ∃ us,conL θ vs=some us∧RvL c.P w a.tmps rs us
 | [],vs,hv=>by cases hv;exact⟨[],rfl,rfl⟩
 | r :: rs, vs, hv => by
  simp only[rvsV] at hv
  cases h1:rvV c.ti σ.ρ σ.E r with
  | none=>rw[h1] at hv;cases hv
  | some v =>
   cases h2:rvsV c.ti σ.ρ σ.E rs with
   | none=>rw[h1,h2] at hv;cases hv
   | some b =>
    rw[h1,h2] at hv
    cases hv
    obtain⟨u,hu,hr⟩:=Yhy h h1
    obtain⟨us,hus,hrs⟩:=Q6y h h2
    exact⟨u::us,Qgo hu hus,u,us,rfl,hr,hrs⟩
theorem Run.ret {c:Cx} {res:List Re} {σ:St} {k:List It} {rs:List ResultVar} (hr:c.fn.results.toList=rs) (hl:Nat.ble rs.length 4=true) {vs:List V} (hv:rvsV c.ti σ.ρ σ.E rs=some vs) (ho:Yav σ.E vs res) (hn:(Qq0 vs res).Nodup) (hQ: ∀ w' v,ResR c.S0 c.w0 w' v res→c.Q (fun w' v=>ResR c.S0 c.w0 w' v res) w' v):Run c res σ (.code .ret::k):=by
 intro θ a w h
 have key:post c res .ret a w:=by
  obtain⟨S,w1,hh⟩:=h.heap
  have hn':=hh.nodup hn (Qom ho)
  obtain⟨us,hus,hrl⟩:=Q6y h hv
  exact⟨h.env.defers,_,Q2i hr hl hrl,_,rfl,hQ _ _ ⟨h.keep,_,_,rfl,hh.resOk hus ho,hn'.1,fun b hb hS=>hn'.2 b hb (hh.sub b hS)⟩⟩
 refine wp_ret ?_
 clear hv ho hn hr
 induction k with
 | nil=>exact key
 | cons x k ih=>cases x<;>exact ih
end
section
section
variable {c:Cx} {σ:St} {all:Array Oper} {ty:TypeId} {pos:String} {after:Array Edge} {d:Nat}
def Qcp (σ:St) (d:Nat) (res:List Re):St:=⟨σ.n,σ.m+(Qgg σ.m res).2.2,(d,Qkk (Qgg σ.m res).1)::σ.ρ,(Qgg σ.m res).2.1++σ.E⟩
theorem R.res' {θ:List Loc} {a a':Act} {w w':World} (h:R c θ σ a w) {res:List Re} {v:Value} (hR:ResR (Old w) w w' v res) (hd:Nat.blt d σ.n=true) (hE:Env σ.n ((d,v)::selfρ a) a'):
  ∃ η,R c (θ++η) (Qcp σ d res) a' w':=by
 obtain⟨hk,vs,F,rfl,hr,hn,hF⟩:=hR
 obtain⟨S,w1,hh⟩:=h.heap
 have hb:=hk.below
 obtain⟨θ',l1,c1,f1,e1⟩:=Q6k (θ:=θ) hr
 rw[h.len] at l1 c1 f1 e1
 refine⟨θ',by rw[length_append,h.len,l1];rfl,(h.env.ext (θ':=θ')).back hE (Q5t c1) hd,S,w1,?_⟩
 exact hh.news hb f1 e1 (fun b hb=>Nat.le_of_not_lt (hF b hb)) hn
theorem Q7j {res:List Re} {f:FuncId} {x:Operand} {cs:List V} {xs:Array Operand} {ts:Array TypeId} {args:List Arg} {vs:List V} (hct:CT c.P c.G f args res) (hfn:FnOk c.P f)
    {θ:List Loc} {a:Act} {w:World} (h:R c θ σ a w) {us:List Value} (hus:conL θ vs=some us) (hm:xs.toList.map (ev? (selfρ a))=us.map some) (hx:(V.fn f cs).con θ=some (a.eval x)) (hargs:Qmv σ.E (vs++cs) args) (hd:Nat.blt d σ.n=true) {g:Option (Nat×Bool)}
    {K:Act→World→Prop} {Q:Exit→Act→World→Prop} (hK: ∀ v a' w',ResR (Old w) w w' v res→Env σ.n ((d,v)::selfρ a) a'→a'=a.put (some d) v→K a' w'):Oper.wp c.P ⟨some d,.call { callee:= .value x,args:=xs,argTypes:=ts },ty,pos,after,g⟩ a w K Q:=by
  obtain⟨S,w1,hh⟩:=h.heap
  obtain⟨fn,hf,hb,hn⟩:=hfn
  have hn': ¬ fn.name= "runtime.NumGoroutine" := by simpa using hn
  have hb': ¬ fn.body=none:=by intro e;rw[e] at hb;cases hb
  simp only[V.con,Option.map_eq_some_iff] at hx
  obtain⟨capt,hcapt,hfv⟩:=hx
  have hmm:xs.map a.eval=us.toArray:=by
    apply Array.toList_inj.1
    rw[Array.toList_map,Fw.evals h.env.env hm]
  unfold Oper.wp
  have:(execOp a.eval ⟨some d,.call { callee:= .value x,args:=xs,argTypes:=ts },ty,pos,after,g⟩).run c.P w= .ok (.enter f (us++capt).toArray) w:=by
    simp[execOp,resolve,hmm,←hfv,Deferred.ofValue,invoke,callFunc,hf,hn',hb']
  rw[this,Oper.upon_enter]
  refine(hct w (us++capt) h.g (hh.argsOk (Qot hus hcapt) hargs)).mono fun e w' hr=>?_
  obtain⟨v,rfl,hR⟩:=hr
  exact hK v _ w' hR (h.env.env.put hd v) rfl
theorem OpS.call {res:List Re} {f:FuncId} {x:Operand} {cs:List V} {xs:Array Operand} {ts:Array TypeId} {args:List Arg} {vs:List V}
    (hct:CT c.P c.G f args res) (hfn:FnOk c.P f) (hx:ev σ.ρ x=some (.fn f cs)) (hev:evs σ.ρ xs.toList=some vs) (hargs:Qmv σ.E (vs++cs) args) (hd:Nat.blt d σ.n=true):
    OpS c σ all ⟨some d,.call { callee:= .value x,args:=xs,argTypes:=ts },ty,pos,after,none⟩ (Qcp σ d res):=
  OpS.of fun θ a w h K Q hK => by
    obtain⟨us,hus,hm⟩:=h.env.evsL hev
    refine Q7j hct hfn h hus hm (h.env.con hx) hargs hd fun v a' w' hR hE _=>?_
    obtain⟨η,hR'⟩:=h.res' hR hd hE
    exact hK η a' w' hR'
def Q00:List Re→Prop
 | []=>True
 | .c _::xs=>Q00 xs
 | .st _ d _ x::xs=>d.good x∧Q00 xs
 | .sl α d ys::xs=>(@instDatList α d).good ys∧Q00 xs
theorem Yhz {w:World}: ∀ {vs:List Value} {F:List Nat} {xs:List Re},ResL w vs F xs→Q00 xs
 | [],_,[],_=>trivial
 | [],_,_::_,h=>h.elim
 | _::_,_,[],h=>h.elim
 | v :: vs, F, x :: xs, h => by
  obtain⟨G,H,rfl,h1,h2⟩:=h
  have ih:=Yhz h2
  cases x with
  | c x=>exact ih
  | st α d s x=>obtain⟨cs,_,ho⟩:=h1;exact⟨Dat.rd_good (Dat.own_rd (B:=fun _=>True) ho fun _ _=>trivial),ih⟩
  | sl α d ys =>
   have h1':SlO w v ys G:=h1
   exact⟨(@instDatList α d).rd_good (B:=fun _=>True) (w:=w) (cs:=[v]) ⟨v,rfl,h1'.rd fun _ _=>trivial⟩,ih⟩
def OpSg (c:Cx) (σ:St) (all:Array Oper) (o:Oper) (σ':St) (G:Prop):Prop:=
 ∀ θ a w,R c θ σ a w→ ∀ (K:Act→World→Prop) (Q:Exit→Act→World→Prop),(∀ η a' w',R c (θ++η) σ' a' w'→G→K a' w')→
  if Region.wanted o (yielded all a.tmps) then o.wp c.P a w K Q else K (a.put o.dst undef) w
theorem Run.opg {c:Cx} {res:List Re} {σ σ':St} {o:Oper} {r:List Oper} {all:Array Oper} {k:List It} {G:Prop} (ho:OpSg c σ all o σ' G) (h:G→Run c res σ' (.ops r all::k)):Run c res σ (.ops (o::r) all::k):=by
 intro θ a w hR
 rw[Qpy]
 refine wpList_step fun K hK=>?_
 exact ho θ a w hR K _ fun η a' w' h' hg=>hK _ _ (h hg _ a' w' h')
theorem OpSg.call {res:List Re} {f:FuncId} {x:Operand} {cs:List V} {xs:Array Operand} {ts:Array TypeId} {args:List Arg} {vs:List V}
    (hct:CT c.P c.G f args res) (hfn:FnOk c.P f) (hx:ev σ.ρ x=some (.fn f cs)) (hev:evs σ.ρ xs.toList=some vs) (hargs:Qmv σ.E (vs++cs) args) (hd:Nat.blt d σ.n=true):
    OpSg c σ all ⟨some d,.call { callee:= .value x,args:=xs,argTypes:=ts },ty,pos,after,none⟩ (Qcp σ d res) (Q00 res):=by
  intro θ a w h K Q hK
  rw[if_pos (by simp[Region.wanted])]
  obtain⟨us,hus,hm⟩:=h.env.evsL hev
  refine Q7j hct hfn h hus hm (h.env.con hx) hargs hd fun v a' w' hR hE _=>?_
  have hg:Q00 res:=by obtain⟨_,vs,F,_,hr,_⟩:=hR;exact Yhz hr
  obtain⟨η,hR'⟩:=h.res' hR hd hE
  exact hK η a' w' hR' hg
theorem OpS.callG {u:Value} {f:FuncId} {x:Operand} {cs:List V} {xs:Array Operand} {ts:Array TypeId} {args:List Arg} {vs:List V} {j:Nat} {want B:Bool} (hB:gB σ.ρ all j want=some B)
    (hct:B=true→CT c.P c.G f args [.c u]) (hfn:FnOk c.P f) (hx:ev σ.ρ x=some (.fn f cs)) (hev: ∀ x∈xs.toList,(evG σ.ρ x).isSome=true) (hvs:xs.toList.map (evG σ.ρ)=vs.map some) (hside:B=true→Qf8 B True σ.ρ xs.toList) (hargs:B=true→Qmv σ.E (vs++cs) args) (hd:Nat.blt d σ.n=true):
    OpS c σ all ⟨some d,.call { callee:= .value x,args:=xs,argTypes:=ts },ty,pos,after,some (j,want)⟩ (put d (.gd B (.v u)) σ):=by
  intro θ a w h K Q hK
  have hw:=Q53 h (o:=⟨some d,.call { callee:= .value x,args:=xs,argTypes:=ts },ty,pos,after,some (j,want)⟩) rfl hB
  rw[hw]
  cases B with
  | true =>
    rw[if_pos rfl]
    have key: ∀ (l:List Operand) (vs:List V),(∀ x∈l,x∈xs.toList)→l.map (evG σ.ρ)=vs.map some→ ∃ us,conL θ vs=some us∧l.map (ev? (selfρ a))=us.map some:=by
      intro l
      induction l with
      | nil => intro vs _ h2; cases vs with
        | nil=>exact⟨[],rfl,rfl⟩
        | cons=>simp at h2
      | cons y l ih => intro vs h1 h2; cases vs with
        | nil=>simp at h2
        | cons v vs =>
          simp only[map_cons,List.cons.injEq] at h2
          obtain⟨us,hus,hm⟩:=ih vs (fun x hx=>h1 x (by simp[hx])) h2.2
          have:=Qho h.env rfl (hside rfl) y (h1 y (by simp)) v h2.1
          exact⟨a.eval y::us,Qgo this.1 hus,by rw[map_cons,map_cons,hm,this.2]⟩
    obtain⟨us,hus,hm⟩:=key xs.toList vs (fun _ h=>h) hvs
    refine Q7j (hct rfl) hfn h hus hm (h.env.con hx) (hargs rfl) hd fun v a' w' hR hE he=>?_
    obtain⟨hk,us',F,rfl,hr,hn,hF⟩:=hR
    cases us' with
    | nil=>exact hr.elim
    | cons u' r =>
      cases r with
      | cons=>obtain⟨_,_,_,_,h3⟩:=hr;exact h3.elim
      | nil =>
        obtain⟨G,H,rfl,⟨rfl,rfl⟩,rfl⟩:=hr
        subst he
        obtain⟨S,w1,hh⟩:=h.heap
        refine hK [] _ w' ?_
        rw[append_nil]
        exact⟨h.len,h.env.put hd (v:= .gd true (.v u')) rfl,S,w1,hh.same hk.below⟩
  | false =>
    rw[if_neg (by simp)]
    exact hK [] _ _ (h.put hd (v:= .gd false (.v u)) rfl).app0
def Qdt {α:Type} (σ:St) (d:Nat) (x:α) (fk:List (Fk α)):St:=⟨σ.n,σ.m+1+nsl fk,(d,.pt σ.m 0)::σ.ρ,(σ.m,.roc (opn false x (σ.m+1) fk).1)::(opn false x (σ.m+1) fk).2++σ.E⟩
theorem OpS.index {α:Type} {dα:Dat α} [s:Str α] [Inhabited α] {t e by' r len:Nat} {x y:Operand} {i:Int} {k:Nat} {xs:List α} (hx:ev σ.ρ x=some (.sl r len)) (hy:ev σ.ρ y=some (.v (.int .i64 i))) (hp:lkE σ.E r=some (.ros α dα xs)) (hl:len=xs.length) (ht:c.ti t= .sl e (Dat.sz α) by') (hd:Nat.blt d σ.n=true) (hi:i=k) (hk:k<xs.length):
  OpS c σ all ⟨some d,.indexAddr t x y,ty,pos,after,none⟩ (Qdt σ d (nth xs k) s.fk):=
 OpS.of fun θ a w h K Q hK => by
  subst hi
  subst hl
  obtain⟨S,w1,hh⟩:=h.heap
  obtain⟨l,hl,hr⟩:=hh.ok _ (Qe1 hp)
  simp only at hl
  have hc:=h.env.con hx
  simp only[V.con,hl,Option.some.injEq] at hc
  obtain⟨ad,cs,hA,_,hrd,hcs,hb⟩:=SlR.elem hr hk
  have hti:=c.tiok t
  rw[ht] at hti
  simp only[TI.chk,Bool.and_eq_true] at hti
  have hx':=h.env.is hx (by rw[h.env.con hx,←hc,hA])
  have hy':=h.env.isv hy
  have hyy:=Qkf (P:=c.P) (w:=w) (ty:=ty) h.env.env hx' hy' (by omega) (by omega) hti.2
  unfold Oper.wp
  rw[hyy]
  let A':Addr:=(ad.add (k*Dat.sz α))
  let lc:Loc:=⟨some A',0,[]⟩
  obtain⟨θ',hl',hc',he'⟩:=Qng (θ:=θ++[lc]) (s.op hrd)
  rw[length_append,length_singleton,h.len,append_assoc] at hc' he'
  have hg:(θ++([lc]++θ'))[σ.m]?=some lc:=by rw[←h.len];exact Qfu
  refine hK ([lc]++θ') _ w ⟨?_,(h.env.ext (θ':=[lc]++θ')).put hd ?_,S,w1,?_⟩
  ·rw[length_append,length_append,h.len,hl']
   show σ.m+(1+nsl s.fk)=σ.m+1+nsl s.fk
   omega
  ·simp only[V.con,hg,lc,A',Int.toNat_natCast]
  ·have hfa: ∀ e∈(σ.m,En.roc (opn false (nth xs k) (σ.m+1) s.fk).1)::(opn false (nth xs k) (σ.m+1) s.fk).2,e.2.ok S w1 (θ++([lc]++θ')) e.1∧ ∀ θ r,e.2.ck θ r=⟨[],fun _=>True⟩:=by
    intro e he
    rcases List.mem_cons.1 he with rfl | he
    ·exact⟨⟨lc,A',cs,hg,rfl,hc',by show S A'.block;simp only[A',Qms];exact hb,hcs⟩,fun _ _=>rfl⟩
    ·exact he' e he
   exact hh.facts hfa
def Qav (s:ByteArray) (k:Nat):UInt8:=s.data.getD k 0
theorem Qrk {P:Program} {n:Nat} {ρ:List (Nat×Value)} {a:Act} {w:World} (hE:Env n ρ a) {x y:Operand} {t:Nat} {s:ByteArray} {i:Int} {k:Nat} (hx:ev? ρ x=some (.string s)) (hy:ev? ρ y=some (.int .i64 i)) (hi:i=k) (hk:k<s.size) (hu:P.underlying t=some .string):
  Qb7 P a w (.index t x y) ty (.int .u8 (Qav s k).toNat):=by
 intro _ _ _ _
 subst hi
 have h1:s[k]?=some (Qav s k):=by
  simp[Qav,getElem?_pos,hk,Array.getD_eq_getD_getElem?]
  rfl
 simp[execOp,hE.eval hx,hE.eval hy,Instr.index,asIntOf,run_underlying hu,h1]
theorem OpS.sidx {t:Nat} {x y:Operand} {i:Int} {k:Nat} {s:ByteArray} (hx:ev σ.ρ x=some (.v (.string s))) (hy:ev σ.ρ y=some (.v (.int .i64 i))) (ht:c.ti t= .str) (hd:Nat.blt d σ.n=true) (hi:i=k) (hk:k<s.size):
  OpS c σ all ⟨some d,.index t x y,ty,pos,after,none⟩ (put d (.v (.int .u8 (Qav s k).toNat)) σ):=
 OpS.of fun θ a w h K Q hK => by
  have hti:=c.tiok t
  rw[ht] at hti
  simp only[TI.chk,Bool.and_eq_true] at hti
  have hu:c.P.underlying t=some .string:=by
   have:=hti.2
   split at this
   ·assumption
   ·cases this
  unfold Oper.wp
  rw[Qrk (ty:=ty) h.env.env (h.env.isv hx) (h.env.isv hy) hi hk hu]
  exact hK [] _ _ (h.put hd rfl).app0
theorem OpS.cat {t t':Nat} {x y:Operand} {p q:ByteArray} (hx:ev σ.ρ x=some (.v (.string p))) (hy:ev σ.ρ y=some (.v (.string q))) (hd:Nat.blt d σ.n=true) (hs:p.size+q.size≤9223372036854775807):
  OpS c σ all ⟨some d,.binOp .add t x y t',ty,pos,after,none⟩ (put d (.v (.string (p++q))) σ):=
 OpS.of fun θ a w h K Q hK => by
  unfold Oper.wp
  rw[Ya8 (P:=c.P) (w:=w) (ty:=ty) h.env.env (h.env.isv hx) (h.env.isv hy) hs]
  exact hK [] _ _ (h.put hd rfl).app0
theorem OpS.rem {t t':Nat} {x y:Operand} {k:IntKind} {i j:Int} (hx:ev σ.ρ x=some (.v (.int k i))) (hy:ev σ.ρ y=some (.v (.int k j))) (hd:Nat.blt d σ.n=true) (hj:j≠0):
  OpS c σ all ⟨some d,.binOp .rem t x y t',ty,pos,after,none⟩ (put d (.v (.int k (i.tmod j))) σ):=
 OpS.of fun θ a w h K Q hK => by
  unfold Oper.wp
  rw[Ydf (P:=c.P) (w:=w) (ty:=ty) h.env.env (h.env.isv hx) (h.env.isv hy) hj]
  exact hK [] _ _ (h.put hd rfl).app0
end
theorem RH.freeze {c:Cx} {θ:List Loc} {E:List (Nat×En)} {S:Nat→Prop} {w1 w:World} (h:RH c θ E S w1 w) {r:Nat} {α:Type} {d:Dat α} {xs:List α} (he:lkE E r=some (.own α d xs)): ∃ S',RH c θ (putE r (r,.ros α d xs) E) S' w w:=by
 obtain⟨i,hi,hp⟩:=Qon he
 obtain⟨l,hl,ho⟩:=h.own he
 rw[hp]
 have hap:=Qbs.1 h.sh.apart
 have hLi:(E.map fun e=>e.2.ck θ e.1)[i]?=some ((En.own α d xs).ck θ r):=by rw[List.getElem?_map,hi];rfl
 have hFe:((En.own α d xs).ck θ r).F=l.F:=Qaj hl
 refine⟨fun b=>S b∨b∈l.F,h.k0.trans (h.sh.keep.mono h.sub),fun b hb=> .inl (h.sub b hb),⟨Keep.refl _ _,?_,?_,?_,?_⟩,?_⟩
 ·intro b hb
  rcases hb with hb | hb
  ·exact h.lt b hb
  ·exact ho.lt b hb
 ·intro x hx
  rw[List.map_set] at hx
  rcases List.mem_or_eq_of_mem_set hx with hx | rfl
  ·exact h.sh.ok x hx
  ·exact fun _ _=>trivial
 ·intro x hx b hb
  rw[List.map_set] at hx
  obtain⟨j,hj⟩:=List.getElem?_of_mem hx
  rw[List.getElem?_set] at hj
  by_cases e:i=j
  ·subst e
   rw[if_pos rfl] at hj
   split at hj
   ·cases hj;cases hb
   ·cases hj
  ·rw[if_neg e] at hj
   have h1:=h.sh.ge x (mem_of_getElem? hj) b hb
   refine⟨fun hS=>?_,h1.2⟩
   rcases hS with hS | hS
   ·exact h1.1 hS
   ·exact hap.2 i j _ _ hLi hj e b (by rw[hFe];exact hS) hb
 ·rw[List.map_set]
  refine Qbs.2 ⟨fun j x hj=>?_,fun j k x y hj hk hjk b hb hby=>?_⟩
  ·rw[List.getElem?_set] at hj
   split at hj
   ·split at hj
    ·cases hj;exact List.nodup_nil
    ·cases hj
   ·exact hap.1 j x hj
  ·rw[List.getElem?_set] at hj hk
   by_cases e:i=j
   ·rw[if_pos e] at hj
    split at hj
    ·cases hj;cases hb
    ·cases hj
   ·rw[if_neg e] at hj
    by_cases e':i=k
    ·rw[if_pos e'] at hk
     split at hk
     ·cases hk;cases hby
     ·cases hk
    ·rw[if_neg e'] at hk
     exact hap.2 j k x y hj hk hjk b hb hby
 ·intro x hx
  rcases List.mem_or_eq_of_mem_set hx with hx | rfl
  ·have:=h.ok x hx
   obtain⟨r',e'⟩:=x
   cases e' with
   | ros β d' ys =>
    obtain⟨l',h1,h2⟩:=this
    exact⟨l',h1,(h2.below h.sh.keep).mono fun b hb=> .inl hb⟩
   | roc cs =>
    obtain⟨l',A,ccs,h1,h2,h3,h4,h5⟩:=this
    exact⟨l',A,ccs,h1,h2,h3,.inl h4,h5.keep h.sh.keep h4⟩
   | var=>trivial
   | own=>trivial
   | lit=>trivial
   | itr=>trivial
   | any=>trivial
   | pin=>exact this
  ·exact⟨l,hl,ho.rd fun b hb=> .inr hb⟩
theorem Run.freeze {c:Cx} {res:List Re} {σ:St} {k:List It} (r:Nat) {α:Type} {d:Dat α} {xs:List α} (he:lkE σ.E r=some (.own α d xs)) (h:Run c res ⟨σ.n,σ.m,σ.ρ,putE r (r,.ros α d xs) σ.E⟩ k):Run c res σ k:=by
 intro θ a w hR
 obtain⟨S,w1,hh⟩:=hR.heap
 obtain⟨S',hf⟩:=hh.freeze he
 exact h θ a w ⟨hR.len,hR.env,S',w,hf⟩
theorem Run.nil {c:Cx} {res:List Re} {σ:St} {k:List It} (t:Nat) {α:Type} {d:Dat α} (hl:lk σ.ρ t=some (.v (.slice none 0 0))) (h:Run c res ⟨σ.n,σ.m+1,(t,.sl σ.m 0)::σ.ρ,(σ.m,.own α d [])::σ.E⟩ k):Run c res σ k:=by
 intro θ a w hR
 obtain⟨S,w1,hh⟩:=hR.heap
 have hg:(θ++[(⟨none,0,[]⟩:Loc)])[σ.m]?=some ⟨none,0,[]⟩:=by rw[←hR.len];exact Qfu
 refine h (θ++[⟨none,0,[]⟩]) a w ⟨by rw[length_append,hR.len];rfl,⟨hR.env.size,hR.env.defers,fun t' v hv=>?_⟩,S,w1,?_⟩
 ·simp only[lk] at hv
  by_cases e:Nat.beq t t'=true
  ·rw[e] at hv
   obtain rfl:=Nat.eq_of_beq_eq_true e
   cases hv
   obtain⟨h1,h2⟩:=hR.env.get t _ hl
   refine⟨?_,h2⟩
   rw[←h1]
   simp only[V.con,hg]
  ·rw[Bool.not_eq_true] at e
   rw[e] at hv
   obtain⟨h1,h2⟩:=hR.env.get t' v hv
   exact⟨V.con_ext h1,h2⟩
 ·refine hh.ext.new (Below.refl _ _) (r:=σ.m) (e:= .own α d []) ?_ ?_ ?_ trivial
  ·intro w2 _
   exact⟨_,hg,Q21⟩
  ·intro b hb
   have hb':b∈locF (θ++[(⟨none,0,[]⟩:Loc)]) σ.m:=hb
   rw[Qaj hg] at hb'
   cases hb'
  ·show(locF _ σ.m).Nodup
   rw[Qaj hg]
   exact List.nodup_nil
mutual
def V.ren (f:List Nat):V→Option V
 | .v x=>some (.v x)
 | .sl r n => match f[r]? with
  | some q=>some (.sl q n)
  | none=>none
 | .pt r o => match f[r]? with
  | some q=>some (.pt q o)
  | none=>none
 | .ag cs => match renL f cs with
  | some l=>some (.ag l)
  | none=>none
 | .fn g cs => match renL f cs with
  | some l=>some (.fn g l)
  | none=>none
 | .tu cs => match renL f cs with
  | some l=>some (.tu l)
  | none=>none
 | .gd b x => match x.ren f with
  | some y=>some (.gd b y)
  | none=>none
def renL (f:List Nat):List V→Option (List V)
 | []=>some []
 | x :: r => match x.ren f, renL f r with
  | some a,some b=>some (a::b)
  | _,_=>none
end
def renθ (f:List Nat) (θ:List Loc):List Loc:=f.map fun q=>θ.getD q ⟨none,0,[]⟩
theorem renθ_get {f:List Nat} {θ:List Loc} {i q:Nat} {l:Loc} (h:f[i]?=some q) (hl:θ[q]?=some l):(renθ f θ)[i]?=some l:=by
 simp[renθ,h,hl]
mutual
theorem V.ren_con {f:List Nat} {θ:List Loc}: ∀ {v u:V} {x:Value},v.ren f=some u→u.con θ=some x→v.con (renθ f θ)=some x
 | .v y,u,x,h,hc=>by simp only[V.ren] at h;cases h;exact hc
 | .sl r n, u, x, h, hc => by
  simp only[V.ren] at h
  split at h
  ·rename_i q hq
   cases h
   simp only[V.con] at hc ⊢
   split at hc
   ·rename_i l hl
    rw[renθ_get hq hl]
    exact hc
   ·cases hc
  ·cases h
 | .pt r n, u, x, h, hc => by
  simp only[V.ren] at h
  split at h
  ·rename_i q hq
   cases h
   simp only[V.con] at hc ⊢
   split at hc
   ·rename_i A cap F hl
    rw[renθ_get hq hl]
    exact hc
   ·cases hc
  ·cases h
 | .ag cs, u, x, h, hc => by
  simp only[V.ren] at h
  split at h
  ·rename_i l hl
   cases h
   simp only[V.con,Option.map_eq_some_iff] at hc ⊢
   obtain⟨us,hus,e⟩:=hc
   exact⟨us,Qm3 hl hus,e⟩
  ·cases h
 | .fn g cs, u, x, h, hc => by
  simp only[V.ren] at h
  split at h
  ·rename_i l hl
   cases h
   simp only[V.con,Option.map_eq_some_iff] at hc ⊢
   obtain⟨us,hus,e⟩:=hc
   exact⟨us,Qm3 hl hus,e⟩
  ·cases h
 | .tu cs, u, x, h, hc => by
  simp only[V.ren] at h
  split at h
  ·rename_i l hl
   cases h
   simp only[V.con,Option.map_eq_some_iff] at hc ⊢
   obtain⟨us,hus,e⟩:=hc
   exact⟨us,Qm3 hl hus,e⟩
  ·cases h
 | .gd b y, u, x, h, hc => by
  simp only[V.ren] at h
  split at h
  ·rename_i l hl
   cases h
   cases b with
   | true=>simp only[V.con] at hc ⊢;exact V.ren_con hl hc
   | false=>exact hc
  ·cases h
theorem Qm3 {f:List Nat} {θ:List Loc}: ∀ {cs ds:List V} {l:List Value},renL f cs=some ds→conL θ ds=some l→conL (renθ f θ) cs=some l
 | [],ds,l,h,hc=>by simp only[renL] at h;cases h;exact hc
 | x :: r, ds, l, h, hc => by
  simp only[renL] at h
  split at h
  ·rename_i a b h1 h2
   cases h
   obtain⟨u,us,rfl,h3,h4⟩:=Qgf hc
   exact Qgo (V.ren_con h1 h3) (Qm3 h2 h4)
  ·cases h
end
def En.ren (f:List Nat):En→Option En
 | .var cs T => match renL f cs with
  | some l=>some (.var l T)
  | none=>none
 | .lit cs T n => match renL f cs with
  | some l=>some (.lit l T n)
  | none=>none
 | .roc cs => match renL f cs with
  | some l=>some (.roc l)
  | none=>none
 | .own α d xs=>some (.own α d xs)
 | .ros α d xs=>some (.ros α d xs)
 | .itr s p=>some (.itr s p)
 | .any P=>some (.any P)
 | .pin l=>some (.pin l)
theorem En.ren_ck {f:List Nat} {θ:List Loc} {r q:Nat} {e e':En} {w:World} (hf:f[r]?=some q) (h:e.ren f=some e') (hp:(e'.ck θ q).p w):(e.ck (renθ f θ) r).F=(e'.ck θ q).F∧ ∀ w',(e'.ck θ q).p w'→(e.ck (renθ f θ) r).p w':=by
 cases e with
 | var cs T =>
  simp only[En.ren] at h
  split at h
  ·rename_i l' hl'
   cases h
   obtain⟨l,b,ccs,hl,_⟩:=hp
   refine⟨by show locF _ _=locF _ _;rw[Qaj hl,Qaj (renθ_get hf hl)],?_⟩
   rintro w' ⟨l2,b2,ccs2,h1,h2,h3,h4,h5⟩
   exact⟨l2,b2,ccs2,renθ_get hf h1,h2,h3,Qm3 hl' h4,h5⟩
  ·cases h
 | lit cs T n =>
  simp only[En.ren] at h
  split at h
  ·rename_i l' hl'
   cases h
   obtain⟨l,b,ccs,⟨hl,_⟩,_⟩:=hp
   refine⟨by show locF _ _=locF _ _;rw[Qaj hl,Qaj (renθ_get hf hl)],?_⟩
   rintro w' ⟨l2,b2,ccs2,⟨h1,h1'⟩,h2,h3,h4,h5⟩
   exact⟨l2,b2,ccs2,⟨renθ_get hf h1,h1'⟩,h2,h3,Qm3 hl' h4,h5⟩
  ·cases h
 | own α d xs =>
  simp only[En.ren] at h
  cases h
  obtain⟨l,hl,_⟩:=hp
  refine⟨by show locF _ _=locF _ _;rw[Qaj hl,Qaj (renθ_get hf hl)],?_⟩
  rintro w' ⟨l2,h1,h2⟩
  exact⟨l2,renθ_get hf h1,h2⟩
 | any P =>
  simp only[En.ren] at h
  cases h
  obtain⟨l,hl,_⟩:=hp
  refine⟨by show locF _ _=locF _ _;rw[Qaj hl,Qaj (renθ_get hf hl)],?_⟩
  rintro w' ⟨l2,h1,h2⟩
  exact⟨l2,renθ_get hf h1,h2⟩
 | itr s p =>
  simp only[En.ren] at h
  cases h
  obtain⟨l,b,hl,_⟩:=hp
  refine⟨by show locF _ _=locF _ _;rw[Qaj hl,Qaj (renθ_get hf hl)],?_⟩
  rintro w' ⟨l2,b2,h1,h2,h3,h4⟩
  exact⟨l2,b2,renθ_get hf h1,h2,h3,h4⟩
 | ros=>simp only[En.ren] at h;cases h;exact⟨rfl,fun _ _=>trivial⟩
 | pin=>simp only[En.ren] at h;cases h;exact⟨rfl,fun _ _=>trivial⟩
 | roc cs =>
  simp only[En.ren] at h
  split at h
  ·cases h;exact⟨rfl,fun _ _=>trivial⟩
  ·cases h
theorem En.ren_ok {f:List Nat} {θ:List Loc} {r q:Nat} {e e':En} {S:Nat→Prop} {w1:World} (hf:f[r]?=some q) (h:e.ren f=some e') (hp:e'.ok S w1 θ q):e.ok S w1 (renθ f θ) r:=by
 cases e with
 | var=>trivial
 | lit=>trivial
 | own=>trivial
 | itr=>trivial
 | any=>trivial
 | pin l=>simp only[En.ren] at h;cases h;exact renθ_get hf hp
 | ros α d xs=>simp only[En.ren] at h;cases h;obtain⟨l,h1,h2⟩:=hp;exact⟨l,renθ_get hf h1,h2⟩
 | roc cs =>
  simp only[En.ren] at h
  split at h
  ·rename_i l' hl'
   cases h
   obtain⟨l,A,ccs,h1,h2,h3,h4,h5⟩:=hp
   exact⟨l,A,ccs,renθ_get hf h1,h2,Qm3 hl' h3,h4,h5⟩
  ·cases h
def nthE:List (Nat×En)→Nat→Option (Nat×En)
 | [],_=>none
 | x::r,k=>bif Nat.beq k 0 then some x else nthE r (Nat.pred k)
theorem Ql8: ∀ {l:List (Nat×En)} {k:Nat} {o:Nat×En},nthE l k=some o→l[k]?=some o
 | [],_,_,h=>by cases h
 | x::r,0,o,h=>by simpa [nthE] using h
 | x::r,k+1,o,h=>by simp[nthE] at h;simpa using Ql8 h
def nthF:List Nat→Nat→Option Nat
 | [],_=>none
 | x::r,k=>bif Nat.beq k 0 then some x else nthF r (Nat.pred k)
theorem Qx9: ∀ {l:List Nat} {k:Nat} {o:Nat},nthF l k=some o→l[k]?=some o
 | [],_,_,h=>by cases h
 | x::r,0,o,h=>by simpa [nthF] using h
 | x::r,k+1,o,h=>by simp[nthF] at h;simpa using Qx9 h
def SubR (f:List Nat) (ρ:List (Nat×V)):List (Nat×V)→Prop
  | []=>True
  | (t, v) :: r => (match v.ren f with
    | some u=>lk ρ t=some u
    | none=>False)∧SubR f ρ r
def SubE (f:List Nat) (E:List (Nat×En)):List Nat→List (Nat×En)→Prop
  | [],[]=>True
  | i :: is, (r, e) :: E2 => (match nthF f r, e.ren f with
    | some q,some e'=>nthE E i=some (q,e')
    | _,_=>False)∧SubE f E is E2
  | _,_=>False
def Sub (f is:List Nat) (σ σ2:St):Prop:=σ2.n=σ.n∧f.length=σ2.m∧SubR f σ.ρ σ2.ρ∧SubE f σ.E is σ2.E
theorem Q6m {f:List Nat} {ρ:List (Nat×V)}: ∀ {ρ2:List (Nat×V)} {t:Nat} {v:V},SubR f ρ ρ2→lk ρ2 t=some v→ ∃ u,v.ren f=some u∧lk ρ t=some u
 | [],_,_,_,h=>by cases h
 | (t', v') :: r, t, v, hs, h => by
  simp only[lk] at h
  by_cases e:Nat.beq t' t=true
  ·rw[e] at h
   obtain rfl:=Nat.eq_of_beq_eq_true e
   cases h
   have:=hs.1
   split at this
   ·rename_i u hu
    exact⟨u,hu,this⟩
   ·exact this.elim
  ·rw[Bool.not_eq_true] at e
   rw[e] at h
   exact Q6m hs.2 h
theorem Qxs {f:List Nat} {E:List (Nat×En)}: ∀ {is:List Nat} {E2:List (Nat×En)},SubE f E is E2→ ∃ Z:List ((Nat×En)×(Nat×En)),Z.map (·.1)=E2∧is.map (fun i=>E[i]?)=Z.map (fun z=>some z.2)∧ ∀ z∈Z,f[z.1.1]?=some z.2.1∧z.1.2.ren f=some z.2.2∧z.2∈E
 | [],[],_=>⟨[],rfl,rfl,fun _ h=>by cases h⟩
 | [],_::_,h=>h.elim
 | _::_,[],h=>h.elim
 | i :: is, (r, e) :: E2, h => by
  obtain⟨h1,h2⟩:=h
  obtain⟨Z,hZ1,hZ2,hZ3⟩:=Qxs h2
  split at h1
  ·rename_i q e' hq he
   refine⟨((r,e),(q,e'))::Z,by rw[map_cons,hZ1],by rw[map_cons,map_cons,hZ2,Ql8 h1],fun z hz=>?_⟩
   rcases List.mem_cons.1 hz with rfl | hz
   ·exact⟨Qx9 hq,he,mem_of_getElem? (Ql8 h1)⟩
   ·exact hZ3 z hz
  ·exact h1.elim
theorem R.sub {c:Cx} {θ:List Loc} {σ σ2:St} {a:Act} {w:World} (h:R c θ σ a w) {f is:List Nat} (hs:Sub f is σ σ2) (hn:is.Nodup):R c (renθ f θ) σ2 a w:=by
 obtain⟨h1,h2,h3,h4⟩:=hs
 obtain⟨S,w1,hh⟩:=h.heap
 obtain⟨Z,hZ1,hZ2,hZ3⟩:=Qxs h4
 refine⟨by rw[←h2];simp[renθ],⟨by rw[h1];exact h.env.size,h.env.defers,fun t v hv=>?_⟩,S,w1,h.heap.elim fun _ _=>hh.k0,hh.sub,?_,?_⟩
 ·obtain⟨u,hu,hl⟩:=Q6m h3 hv
  obtain⟨h5,h6⟩:=h.env.get t u hl
  exact⟨V.ren_con hu h5,by rw[h1];exact h6⟩
 ·have hp:=hh.sh.pick (L':=Z.map fun z=>z.2.2.ck θ z.2.1) is hn (by
   have h1:(is.map fun i=>(σ.E.map fun e=>e.2.ck θ e.1)[i]?)=(is.map fun i=>σ.E[i]?).map (Option.map fun e=>e.2.ck θ e.1):=by
    rw[List.map_map]
    refine List.map_congr_left fun i _=>?_
    simp
   rw[h1,hZ2,List.map_map,List.map_map]
   rfl)
  have:=@SH.map2 S w1 w _ Z (fun z=>z.2.2.ck θ z.2.1) (fun z=>z.1.2.ck (renθ f θ) z.1.1) hp fun z hz hpz=>En.ren_ck (hZ3 z hz).1 (hZ3 z hz).2.1 hpz
  rw[←hZ1,List.map_map]
  exact this
 ·intro e he
  rw[←hZ1] at he
  obtain⟨z,hz,rfl⟩:=List.mem_map.1 he
  exact En.ren_ok (hZ3 z hz).1 (hZ3 z hz).2.1 (hh.ok _ (hZ3 z hz).2.2)
theorem Run.sub {c:Cx} {res:List Re} {σ:St} {k:List It} (f is:List Nat) (σ2:St) (hs:Sub f is σ σ2) (hn:is.Nodup) (h:Run c res σ2 k):Run c res σ k:=fun _ _ _ hR=>h _ _ _ (hR.sub hs hn)
def At (c:Cx) (σ2:St) (a:Act) (w:World):Prop:= ∃ θ,R c θ σ2 a w
theorem Run.mid {c:Cx} {res:List Re} {σ:St} {y:Code} {k:List It} (σ2:St) (h:Run c res σ (.code y :: .goal (At c σ2)::k)) (hk:Run c res σ2 k):Run c res σ (.code y::k):=by
 intro θ a w hR
 refine Code.wp_mono (fun e a w q=>?_) (h θ a w hR)
 cases e with
 | normal=>obtain⟨θ',hR'⟩:=q;exact hk θ' a w hR'
 | exit id=>exact q
 | goto l=>exact q
 | ret=>exact q
 | panic ch=>exact q
 | outgrown=>exact q
theorem Run.at {c:Cx} {res:List Re} {σ σ2:St} {k:List It} (f is:List Nat) (hs:Sub f is σ σ2) (hn:is.Nodup):Run c res σ (.goal (At c σ2)::k):=fun _ _ _ hR=>⟨_,hR.sub hs hn⟩
def Yex (c:Cx) {ι:Type} (st:ι→St) (post:ι→List Re) (inv:ι→Prop) (μ:ι→Nat) (i:ι) (a:Act) (w:World):Prop:= ∃ j,inv j∧post j=post i∧μ j<μ i∧ ∃ θ,R c θ (st j) a w
theorem Q94 {P:Program} {c:Code} {Q:Exit→Act→World→Prop} {ι:Type} (I:ι→Act→World→Prop) (μ:ι→Nat)
  (round: ∀ i a w,I i a w→c.wp P (Exit.then (fun a' w'=> ∃ j,I j a' w'∧μ j<μ i) Q) a w) (i:ι) (a:Act) (w:World) (h₀:I i a w):(Code.loop c).wp P Q a w:=by
 intro b k cs
 have key: ∀ n i a w,μ i=n→I i a w→
   ∃ e a' w',Q e a' w'∧Arrives P (lone (b.at a (.code c :: .inLoop c::k)) cs w) b k cs e a' w':=by
  intro n
  induction n using Nat.strongRecOn with
  | _ n ih =>
   intro i a w hn hI
   obtain⟨e,a₁,w₁,hq,harr⟩:=round i a w hI b (.inLoop c::k) cs
   cases e with
   | normal =>
    obtain⟨j,hI₁,hlt⟩:=hq
    obtain⟨e₂,a₂,w₂,hq₂,harr₂⟩:=ih (μ j) (hn▸hlt) j a₁ w₁ rfl hI₁
    exact⟨e₂,a₂,w₂,hq₂,.of_steps (Steps.trans harr (.one step_inLoop)) harr₂⟩
   | exit id=>exact⟨_,a₁,w₁,hq,.pass (x:= .inLoop c) rfl (fun _ _=> .inl (by simp)) harr⟩
   | goto l=>exact⟨_,a₁,w₁,hq,.pass (x:= .inLoop c) rfl (fun _ _=> .inl (by simp)) harr⟩
   | ret=>exact⟨_,a₁,w₁,hq,.pass (x:= .inLoop c) rfl (fun _ _=> .inl (by simp)) harr⟩
   | panic ch=>exact⟨_,a₁,w₁,hq,.pass (x:= .inLoop c) rfl (fun _ _=> .inl (by simp)) harr⟩
   | outgrown=>exact⟨_,a₁,w₁,hq,.pass (x:= .inLoop c) rfl (fun _ _=> .inl (by simp)) harr⟩
 obtain⟨e,a',w',hq,harr⟩:=key _ i a w rfl h₀
 exact⟨e,a',w',hq,.of_steps (.one step_loop) harr⟩
theorem Run.loop {c:Cx} {res:List Re} {σ:St} {b:Code} {k:List It} {ι:Type} (st:ι→St) (post:ι→List Re) (inv:ι→Prop) (μ:ι→Nat) (i0:ι) (f is:List Nat) (hp:res=post i0) (h0:inv i0) (hs:Sub f is σ (st i0)) (hn:is.Nodup)
  (body: ∀ i,inv i→Run c (post i) (st i) (.code b :: .goal (Yex c st post inv μ i)::k)):Run c res σ (.code (.loop b)::k):=by
 subst hp
 intro θ a w hR
 refine Q94 (fun i a w=>inv i∧post i=post i0∧ ∃ θ,R c θ (st i) a w) μ ?_ i0 a w ⟨h0,rfl,_,hR.sub hs hn⟩
 rintro i a w ⟨hi,hpi,θ,hRi⟩
 have:=body i hi θ a w hRi
 rw[hpi] at this
 refine Code.wp_mono (fun e a w q=>?_) this
 cases e with
 | normal =>
  obtain⟨j,h1,h2,h3,h4⟩:=q
  exact⟨j,⟨h1,h2.trans hpi,h4⟩,h3⟩
 | exit id=>exact q
 | goto l=>exact q
 | ret=>exact q
 | panic ch=>exact q
 | outgrown=>exact q
theorem Run.again {c:Cx} {res:List Re} {σ:St} {k:List It} {ι:Type} {st:ι→St} {post:ι→List Re} {inv:ι→Prop} {μ:ι→Nat} {i:ι} (j:ι) (f is:List Nat) (hi:inv j) (hp:post j=post i) (hm:μ j<μ i) (hs:Sub f is σ (st j)) (hn:is.Nodup):Run c res σ (.goal (Yex c st post inv μ i)::k):=
 fun θ a w hR=>⟨j,hi,hp,hm,_,hR.sub hs hn⟩
end
section
def ElOk (E:List (Nat×En)) (sz:Nat) {α:Type} (d:Dat α) (fk:List (Fk α)):List α→List V→Prop
 | [],cs=>cs=[]
 | y::ys,cs=>Dat.good y∧FkO E y fk (cs.take sz)∧ElOk E sz d fk ys (cs.drop sz)
theorem Q61 (n:Nat): ∀ {cs:List V},V.names.namesL cs=[]→V.names.namesL (cs.take n)=[]∧V.names.namesL (cs.drop n)=[]:=by
 induction n with
 | zero=>intro cs h;exact⟨by simp[V.names.namesL],by simpa using h⟩
 | succ n ih =>
  intro cs h
  cases cs with
  | nil=>exact⟨rfl,rfl⟩
  | cons v vs =>
   rw[Ql9] at h
   obtain⟨h1,h2⟩:=List.append_eq_nil_iff.1 h
   obtain⟨h3,h4⟩:=ih h2
   refine⟨?_,h4⟩
   rw[List.take_succ_cons,Ql9,h1,h3]
   rfl
theorem RH.elems {c:Cx} {θ:List Loc} {E:List (Nat×En)} {S:Nat→Prop} {w1 w:World} (h:RH c θ E S w1 w) {α:Type} {d:Dat α} (s:@Str α d):
  ∀ {ys:List α} {cs:List V} {us:List Value},conL θ cs=some us→V.names.namesL cs=[]→ElOk E (Dat.sz α) d s.fk ys cs→us.length=ys.length*Dat.sz α∧ ∀ w' i y,ys[i]?=some y→Dat.own w' (cut (Dat.sz α) us i) y []:=by
 intro ys
 induction ys with
 | nil =>
  intro cs us hc hn ho
  have:cs=[]:=ho
  subst this
  cases hc
  exact⟨by simp,fun _ i y hi=>by simp at hi⟩
 | cons y ys ih =>
  intro cs us hc hn ho
  obtain⟨hg,h1,h2⟩:=ho
  obtain⟨n1,n2⟩:=Q61 (Dat.sz α) hn
  have o1:=s.omk (h.fkO (Qob (Dat.sz α) hc) h1 (s.gd hg))
  rw[n1] at o1
  have hl:=Dat.rd_len (Dat.own_rd (B:=fun _=>True) o1 fun _ _=>trivial)
  obtain⟨i1,i2⟩:=ih (Qoc (Dat.sz α) hc) n2 h2
  rw[length_take] at hl
  rw[length_drop] at i1
  refine⟨by rw[length_cons,Nat.add_mul,Nat.one_mul];omega,fun w' i z hz=>?_⟩
  cases i with
  | zero =>
   simp at hz
   subst hz
   have o2:Dat.own w' (us.take (Dat.sz α)) y []:=Dat.own_same o1 fun b hb=>by cases hb
   simpa [cut] using o2
  | succ i =>
   have:=i2 w' i z (by simpa using hz)
   unfold cut at this ⊢
   rw[List.drop_drop] at this
   rwa [Nat.add_mul,Nat.one_mul,Nat.add_comm (i*Dat.sz α)]
theorem RH.lit {c:Cx} {θ:List Loc} {E:List (Nat×En)} {S:Nat→Prop} {w1 w:World} (h:RH c θ E S w1 w) {r:Nat} {cs:List V} {T n:Nat} (he:lkE E r=some (.lit cs T n)) {α:Type} {d:Dat α} (s:@Str α d) {ys:List α} (hl:ys.length=n) (hm:n≤maxLen) (hn:V.names.namesL cs=[]) (ho:ElOk E (Dat.sz α) d s.fk ys cs):RH c θ (putE r (r,.own α d ys) E) S w1 w:=by
 obtain⟨l,b,ccs,⟨h1,h1'⟩,h2,h3,h4,h5⟩:=(h.sh.ok _ (List.mem_map.2 ⟨_,Qe1 he,rfl⟩)).here
 simp only at h1
 refine h.turn he rfl rfl rfl (Nat.le_refl _) (fun _ _ _=>rfl) ?_ ?_ ?_ trivial
 ·intro w2 hw2
  refine⟨l,h1,?_⟩
  have hF:l.F=[b]:=h3
  obtain⟨hlen,hown⟩:=h.elems s h4 hn ho
  rw[h2,h1',hF]
  subst hl
  refine Qhj.2 (.inr ⟨b,ys.length,ccs.toArray,T,List.replicate ys.length [],rfl,?_,Nat.le_refl _,hm,by simp[hlen],by simp,by simp,fun i y hi=>⟨[],?_,?_⟩⟩)
  ·exact(hw2 b (by show _∈locF θ r;rw[Qaj h1,h3];simp)).trans h5
  ·rw[List.getElem?_replicate,if_pos (List.getElem?_eq_some_iff.1 hi).1]
  ·exact hown w2 i y hi
 ·intro b' hb'
  refine⟨.inl hb',?_⟩
  have hb'':b'∈locF θ r:=hb'
  rw[Qaj h1,h3,mem_singleton] at hb''
  subst hb''
  exact(Array.getElem?_eq_some_iff.1 h5).1
 ·show(locF θ r).Nodup
  rw[Qaj h1,h3]
  simp
theorem Run.lit {c:Cx} {res:List Re} {σ:St} {k:List It} (r:Nat) {α:Type} {d:Dat α} [s:@Str α d] (ys:List α) {cs:List V} {T n:Nat} (he:lkE σ.E r=some (.lit cs T n)) (hl:ys.length=n) (hm:Nat.ble n 1000=true) (hn:V.names.namesL cs=[]) (ho:ElOk σ.E (Dat.sz α) d s.fk ys cs) (h:Run c res ⟨σ.n,σ.m,σ.ρ,putE r (r,.own α d ys) σ.E⟩ k):Run c res σ k:=by
 intro θ a w hR
 obtain⟨S,w1,hh⟩:=hR.heap
 exact h θ a w ⟨hR.len,hR.env,S,w1,hh.lit he s hl (by have:=Nat.le_of_ble_eq_true hm;unfold maxLen;omega) hn ho⟩
section
variable {c:Cx} {σ:St} {all:Array Oper} {ty:TypeId} {pos:String} {after:Array Edge} {d:Nat}
theorem RH.reown {θ:List Loc} {E:List (Nat×En)} {S:Nat→Prop} {w1 w w':World} (h:RH c θ E S w1 w) {r:Nat} {α:Type} {dα:Dat α} {xs zs:List α} (he:lkE E r=some (.own α dα xs)) {A:Option Addr} {cap:Nat} {F':List Nat} (hv:SlO w' (.slice A zs.length cap) zs F') (hn:F'.Nodup) (hos:w'.os=w.os) (htape:w'.tape=w.tape) (hout:w'.output=w.output) (hsize:w.heap.size≤w'.heap.size)
  (hsame: ∀ b,b<w.heap.size→b ∉ locF θ r→w'.heap[b]?=w.heap[b]?) (hF: ∀ b∈F',b∈locF θ r∨w.heap.size≤b):RH c (θ++[⟨A,cap,F'⟩]) (putE r (θ.length,.own α dα zs) E) S w1 w':=by
 have hg:(θ++[⟨A,cap,F'⟩])[θ.length]?=some ⟨A,cap,F'⟩:=Qfu
 have hex:=h.ext (θ':=[⟨A,cap,F'⟩])
 obtain⟨l,hl,_⟩:=h.own he
 have hlF:locF (θ++[⟨A,cap,F'⟩]) r=locF θ r:=by rw[Qaj hl,Qaj (Qem hl)]
 refine hex.turn he hos htape hout hsize (fun b hb hnb=>hsame b hb (by rw[←hlF];exact hnb)) ?_ ?_ ?_ trivial
 ·intro w2 hw2
  refine⟨_,hg,hv.same fun b hb=>hw2 b ?_⟩
  show b∈locF _ _
  rw[Qaj hg]
  exact hb
 ·intro b hb
  have hb':b∈locF (θ++[⟨A,cap,F'⟩]) θ.length:=hb
  rw[Qaj hg] at hb'
  refine⟨?_,hv.lt b hb'⟩
  rcases hF b hb' with h | h
  ·left;show b∈locF _ _;rw[hlF];exact h
  ·exact .inr h
 ·show(locF _ θ.length).Nodup
  rw[Qaj hg]
  exact hn
def Qey {α:Type} (σ:St) (d r:Nat) (dα:Dat α) (zs:List α):St:=⟨σ.n,σ.m+1,(d,.sl σ.m zs.length)::σ.ρ,putE r (σ.m,.own α dα zs) σ.E⟩
def Qdl {α:Type} (σ:St) (d:Nat) (dα:Dat α) (zs:List α):St:=⟨σ.n,σ.m+1,(d,.sl σ.m zs.length)::σ.ρ,(σ.m,.own α dα zs)::σ.E⟩
theorem Yc0 {a:Act} {w:World} {t:Nat} {x y:Operand} {u v v':Value} {w':World} {g:Option (Nat×Bool)} (hx:a.eval x=u) (hy:a.eval y=v) (h:(Builtin.append_ #[t,t] ty #[u,v]).run c.P w= .ok v' w'):
    (execOp a.eval ⟨some d,.call { callee:= .builtin .append,args:= #[x,y],argTypes:= #[t,t] },ty,pos,after,g⟩).run c.P w= .ok (.value v') w':=by
  simp only[execOp,resolve,invoke,builtin,Sem.run_bind,Sem.run_pure,Result.andThen_ok,List.map_toArray,map_cons,List.map_nil,hx,hy,h]
theorem OpS.app {α:Type} {dα:Dat α} [s:@Str α dα] {t e by' r q n len T:Nat} {x y:Operand} {z:Value} {xs ys:List α} {cs:List V} (hx:ev σ.ρ x=some (.sl r len)) (hr:lkE σ.E r=some (.own α dα xs)) (hl:len=xs.length) (hy:ev σ.ρ y=some (.sl q n)) (hq:lkE σ.E q=some (.lit cs T n))
    (ht:c.ti t= .sl e (Dat.sz α) by') (hz:c.zr e=some z) (hzs:z.cells.size=Dat.sz α) (hd:Nat.blt d σ.n=true) (hyl:ys.length=n) (hnm:V.names.namesL cs=[]) (ho:ElOk σ.E (Dat.sz α) dα s.fk ys cs) (h1:oneL cs=true) (hb:(xs.length+ys.length)*by'≤140737488355328) (hm:xs.length+ys.length≤9223372036854775807):
    OpS c σ all ⟨some d,.call { callee:= .builtin .append,args:= #[x,y],argTypes:= #[t,t] },ty,pos,after,none⟩ (Qey σ d r dα (xs++ys)):=
  OpS.of fun θ a w h K Q hK => by
    subst hl
    subst hyl
    obtain⟨S,w1,hh⟩:=h.heap
    obtain⟨l,hl,hown⟩:=hh.own hr
    obtain⟨lq,bq,ccs,⟨q1,q1'⟩,q2,q3,q4,q5⟩:=(hh.sh.ok _ (List.mem_map.2 ⟨_,Qe1 hq,rfl⟩)).here
    simp only at q1
    obtain⟨hlen,hel⟩:=hh.elems s q4 hnm ho
    have hti:=c.tiok t
    rw[ht] at hti
    simp only[TI.chk,Bool.and_eq_true] at hti
    have hcx:=h.env.con hx
    simp only[V.con,hl,Option.some.injEq] at hcx
    have hcy:=h.env.con hy
    simp only[V.con,q1,Option.some.injEq] at hcy
    have hF:l.F.Nodup:=by
      obtain⟨i,hi,_⟩:=Qon hr
      have:=hh.sh.nd (k:=i) (c:=(En.own α dα xs).ck θ r) (by rw[getElem?_map,hi];rfl)
      have h2:(locF θ r).Nodup:=this
      rwa [Qaj hl] at h2
    have hsrc:Src w (.slice lq.A ys.length lq.cap) ys.length ccs:=⟨lq.A,lq.cap,rfl,fun j u hj=>⟨_,q2,(Qcf.row q5) j u hj⟩⟩
    have hels:Qke w ccs ys (List.replicate ys.length []):=⟨by simp,fun i u hi=>⟨[],by rw[List.getElem?_replicate,if_pos (List.getElem?_eq_some_iff.1 hi).1],hel w i u hi⟩⟩
    have hfl:(List.replicate ys.length ([]:List Nat)).flatten=[]:=by simp
    have hone: ∀ u∈ccs,u.oneCell'=true:=List.all_eq_true.1 (Qx7 (θ:=θ) h1 q4)
    obtain⟨v',w',F',hrun,h3,h4,h5,h6,h7,h8,h9,h10⟩:=Qt2 (P:=c.P) (ty:=ty) hti.2 rfl (c.zok e z hz) hzs hown hF hsrc hlen hone hels (by rw[hfl];exact List.nodup_nil) (by rw[hfl];intro b hb;cases hb) hb (by unfold maxLen;omega)
    unfold Oper.wp
    rw[Yc0 hcx.symm hcy.symm hrun]
    obtain⟨A,cap,rfl,_⟩:=(h3.rd (B:=Old w') fun b hb=>h3.lt b hb).form
    have hlF:locF θ r=l.F:=Qaj hl
    have hre := hh.reown (w' := w') hr h3 h4 h5 h6 h7 h8 (fun b hb hnb => h9 b hb (by rw [← hlF]; exact hnb)) (fun b hb => by
      rcases h10 b hb with h | h | h
      · exact .inl (by rw[hlF];exact h)
      · rw[hfl] at h;cases h
      · exact .inr h)
    refine hK [⟨A,cap,F'⟩] _ w' ⟨by rw[length_append,h.len];rfl,(h.env.ext (θ':=[⟨A,cap,F'⟩])).put hd (h.sl0 (l:=⟨A,cap,F'⟩) _),S,w1,?_⟩
    show RH c _ (putE r (σ.m,.own α dα (xs++ys)) σ.E) S w1 w'
    rw[←h.len]
    exact hre
end
end
section
theorem szA {α:Type} (l:List α):l.toArray.size=l.length:=rfl
theorem gi (n:Int) (h: -9223372036854775808≤n∧n≤9223372036854775807:=by decide):I64 n:=by unfold I64;omega
theorem gn (n:Nat) (h:n≤9223372036854775807):I64 (n:Int):=by unfold I64;omega
theorem gs (s:ByteArray) (h:s.size≤9223372036854775807:=by decide):s.size≤maxLen:=h
def SD (c:Cx) (θ0:List Loc) (E0:List (Nat×En)) (w:World):Prop:= ∃ S w1,RH c θ0 E0 S w1 w
def Yge (c:Cx) (θ:List Loc) (E:List (Nat×En)):Prop:= ∀ e∈E,e.2.ok c.S0 c.w0 θ e.1
def RunD (c:Cx) (K:Act→World→Prop) (E0:List (Nat×En)) (m0:Nat) (ops:Array Oper) (n:Nat) (M:List (Nat×En)) (listed:Array Bool) (σ:St):Prop:=
 ∀ θ0 η a w,θ0.length=m0→R c (θ0++η) σ a w→SD c θ0 E0 w→Yge c θ0 E0→Qjv c.S0 c.w0 (θ0++η) M→wpAnyH c.P .any ops (Qqe K) (SD c θ0 E0) n listed a w
def Cx.rebase (c:Cx) (S:Nat→Prop) (w:World) (hk:Keep c.S0 c.w0 w) (hs: ∀ b,c.S0 b→S b) (hd: ∀ b,S b→b<w.heap.size):Cx:=⟨c.P,c.fn,c.ti,c.zr,c.G,S,w,c.tiok,c.zok,fun w' h=>c.gok w' (hk.trans (h.mono hs)),hd,c.Q⟩
theorem RH.rebase {c:Cx} {θ:List Loc} {E:List (Nat×En)} {S:Nat→Prop} {w1 w:World} (h:RH c θ E S w1 w):RH (c.rebase S w1 h.k0 h.sub h.sh.dom) θ E S w1 w:=⟨Keep.refl _ _,fun _ h=>h,h.sh,h.ok⟩
theorem RH.unbase {c:Cx} {S:Nat→Prop} {w1:World} {hk:Keep c.S0 c.w0 w1} {hs: ∀ b,c.S0 b→S b} {hd: ∀ b,S b→b<w1.heap.size} {θ:List Loc} {E:List (Nat×En)} {S2:Nat→Prop} {w2 w:World} (h:RH (c.rebase S w1 hk hs hd) θ E S2 w2 w):RH c θ E S2 w2 w:=
 ⟨hk.trans ((show Keep S w1 w2 from h.k0).mono hs),fun b hb=>h.sub b (hs b hb),h.sh,h.ok⟩
theorem R.unbase {c:Cx} {S:Nat→Prop} {w1:World} {hk:Keep c.S0 c.w0 w1} {hs: ∀ b,c.S0 b→S b} {hd: ∀ b,S b→b<w1.heap.size} {θ:List Loc} {σ:St} {a:Act} {w:World} (h:R (c.rebase S w1 hk hs hd) θ σ a w):R c θ σ a w:=
 let ⟨S2,w2,hh⟩:=h.heap;⟨h.len,h.env,S2,w2,hh.unbase⟩
theorem En.ok_up {c:Cx} {θ θ':List Loc} {E:List (Nat×En)} {S:Nat→Prop} {w1 w:World} (h:RH c θ' E S w1 w) {r:Nat} {e:En} (he:e.ok c.S0 c.w0 θ r):e.ok S w1 θ r:=by
 cases e with
 | var=>trivial
 | lit=>trivial
 | own=>trivial
 | itr=>trivial
 | any=>trivial
 | pin l=>exact he
 | ros α d xs =>
  obtain⟨l,hl,hr⟩:=he
  exact⟨l,hl,(hr.below h.k0).mono h.sub⟩
 | roc cs =>
  obtain⟨l,A,ccs,hl,h2,h3,h4,h5⟩:=he
  exact⟨l,A,ccs,hl,h2,h3,h.sub _ h4,h5.keep h.k0 h4⟩
theorem Qjv.up {c:Cx} {θ θ':List Loc} {E M:List (Nat×En)} {S:Nat→Prop} {w1 w:World} (h:RH c θ' E S w1 w) (hM:Qjv c.S0 c.w0 θ M):Qjv S w1 θ M:=fun e he=>⟨En.ok_up h (hM e he).1,(hM e he).2⟩
theorem RH.pickE {c:Cx} {θ:List Loc} {E E0:List (Nat×En)} {S:Nat→Prop} {w1 w:World} (h:RH c θ E S w1 w) {is:List Nat} (hp:is.map (nthE E)=E0.map some) (hn:is.Nodup):RH c θ E0 S w1 w:=by
 have hp':is.map (fun i=>E[i]?)=E0.map some:=by
  clear hn
  induction is generalizing E0 with
  | nil => cases E0 with
   | nil=>rfl
   | cons=>simp at hp
  | cons i is ih => cases E0 with
   | nil=>simp at hp
   | cons e E0 =>
    simp only[map_cons,List.cons.injEq] at hp ⊢
    exact⟨Ql8 hp.1,ih hp.2⟩
 refine⟨h.k0,h.sub,?_,fun e he=>?_⟩
 ·refine h.sh.pick is hn ?_
  have h1:(is.map fun i=>(E.map fun e=>e.2.ck θ e.1)[i]?)=(is.map fun i=>E[i]?).map (Option.map fun e=>e.2.ck θ e.1):=by
   rw[List.map_map]
   refine List.map_congr_left fun i _=>?_
   simp
  rw[h1,hp',List.map_map,List.map_map]
  rfl
 ·have : some e ∈ is.map (fun i => E[i]?) := by rw [hp']; exact List.mem_map.2 ⟨e, he, rfl⟩
  obtain⟨i,_,hi⟩:=List.mem_map.1 this
  exact h.ok e (mem_of_getElem? hi)
theorem Qor {θ ζ:List Loc} {r:Nat} {l l':Loc} (h:θ[r]?=some l) (h':(θ++ζ)[r]?=some l'):l'=l:=by
 rw[Qem h] at h'
 cases h'
 rfl
theorem Qyw {θ ζ:List Loc} {cs:List V} {l l':List Value} (h:conL θ cs=some l) (h':conL (θ++ζ) cs=some l'):l'=l:=by
 rw[Qkx h] at h'
 cases h'
 rfl
theorem En.ck_back {θ ζ:List Loc} {r:Nat} {e:En} {w:World} (h:(e.ck θ r).p w):(e.ck θ r).F=(e.ck (θ++ζ) r).F∧ ∀ w',(e.ck (θ++ζ) r).p w'→(e.ck θ r).p w':=by
 cases e with
 | var cs T =>
  obtain⟨l,b,ccs,hl,h2,h3,h4,_⟩:=h
  refine⟨by show locF _ _=locF _ _;rw[Qaj hl,Qaj (Qem hl)],?_⟩
  rintro w' ⟨l',b',ccs',h1',h2',h3',h4',h5'⟩
  obtain rfl:=Qor hl h1'
  obtain rfl:=Qyw h4 h4'
  exact⟨_,b',_,hl,h2',h3',h4,h5'⟩
 | lit cs T n =>
  obtain⟨l,b,ccs,⟨hl,hcap⟩,h2,h3,h4,_⟩:=h
  refine⟨by show locF _ _=locF _ _;rw[Qaj hl,Qaj (Qem hl)],?_⟩
  rintro w' ⟨l',b',ccs',⟨h1',h1''⟩,h2',h3',h4',h5'⟩
  obtain rfl:=Qor hl h1'
  obtain rfl:=Qyw h4 h4'
  exact⟨_,b',_,⟨hl,hcap⟩,h2',h3',h4,h5'⟩
 | own α d xs =>
  obtain⟨l,hl,_⟩:=h
  refine⟨by show locF _ _=locF _ _;rw[Qaj hl,Qaj (Qem hl)],?_⟩
  rintro w' ⟨l',h1,h2⟩
  obtain rfl:=Qor hl h1
  exact⟨_,hl,h2⟩
 | any P =>
  obtain⟨l,hl,_⟩:=h
  refine⟨by show locF _ _=locF _ _;rw[Qaj hl,Qaj (Qem hl)],?_⟩
  rintro w' ⟨l',h1,h2⟩
  obtain rfl:=Qor hl h1
  exact⟨_,hl,h2⟩
 | itr s p =>
  obtain⟨l,b,hl,h2,h3,_⟩:=h
  refine⟨by show locF _ _=locF _ _;rw[Qaj hl,Qaj (Qem hl)],?_⟩
  rintro w' ⟨l',b',h1',h2',h3',h4'⟩
  obtain rfl:=Qor hl h1'
  exact⟨_,b',hl,h2',h3',h4'⟩
 | ros=>exact⟨rfl,fun _ _=>trivial⟩
 | roc=>exact⟨rfl,fun _ _=>trivial⟩
 | pin=>exact⟨rfl,fun _ _=>trivial⟩
theorem En.ok_back {S S':Nat→Prop} {w1 w1':World} {θ ζ:List Loc} {r:Nat} {e:En} (h:e.ok S w1 θ r) (h':e.ok S' w1' (θ++ζ) r):e.ok S' w1' θ r:=by
 cases e with
 | var=>trivial
 | lit=>trivial
 | own=>trivial
 | itr=>trivial
 | any=>trivial
 | pin l=>exact h
 | ros α d xs =>
  obtain⟨l,hl,_⟩:=h
  obtain⟨l',h1,h2⟩:=h'
  obtain rfl:=Qor hl h1
  exact⟨_,hl,h2⟩
 | roc cs =>
  obtain⟨l,A,ccs,hl,h2,h3,_⟩:=h
  obtain⟨l',A',ccs',h1',h2',h3',h4',h5'⟩:=h'
  obtain rfl:=Qor hl h1'
  obtain rfl:=Qyw h3 h3'
  exact⟨_,A',_,hl,h2',h3,h4',h5'⟩
theorem RH.back {c:Cx} {θ ζ:List Loc} {E:List (Nat×En)} {S S':Nat→Prop} {w1 w1' w w':World} (h:RH c θ E S w1 w) (h':RH c (θ++ζ) E S' w1' w'):RH c θ E S' w1' w':=
 ⟨h'.k0,h'.sub,h'.sh.map2 (fun e he _=>En.ck_back ((h.sh.ok _ (List.mem_map.2 ⟨e,he,rfl⟩)).here)),fun e he=>En.ok_back (h.ok e he) (h'.ok e he)⟩
theorem Run.draw {c:Cx} {res:List Re} {σ:St} {id:Nat} {ops:Array Oper} {k:List It} (n:Nat) (hm:c.P.follows .mixedOrders=true) (hn:ops.size=n)
  (h: ∀ S w1 hk hs hd,RunD (c.rebase S w1 hk hs hd) (kQ c res k .normal) σ.E σ.m ops n [] (Array.replicate n false) σ):Run c res σ (.code (.region id ops true)::k):=by
 intro θ a w hR
 obtain⟨S,w1,hh⟩:=hR.heap
 have hh':=hh.drew.rebase
 have hR':R (c.rebase S w1 hh.k0 hh.sub hh.sh.dom) (θ++[]) σ a w.drew:=by rw[List.append_nil];exact⟨hR.len,hR.env,S,w1,hh'⟩
 have:=h S w1 hh.k0 hh.sub hh.sh.dom θ [] a w.drew hR.len hR' ⟨S,w1,hh'⟩ hh.ok Qjv.nil
 refine Code.wp_mono (Q:=Qqe (kQ c res k .normal)) (fun e a w h=>by obtain⟨rfl,h⟩:=h;exact h) (wp_region_held (P:=c.P) hm (by rw[hn];exact this))
def okD (ops:Array Oper):Array Bool→List Nat→Bool
 | _,[]=>true
 | listed,i::is=>Qrm ops listed i&&okD ops (listed.setIfInBounds i true) is
def Ql6:Array Bool→List Nat→Array Bool
 | l,[]=>l
 | l,i::is=>Ql6 (l.setIfInBounds i true) is
def tkK (σ:St) (d:Nat):Option (V×Prop)→Option (St×Prop)
 | some (v,q)=>bif Nat.blt d σ.n then some (put d v σ,q) else none
 | none=>none
def tk1 (ti:Nat→TI) (zr:Nat→Option Value) (ops:Array Oper) (E0:List (Nat×En)) (σ:St) (p:Prop):Option Oper→Option (St×Prop)
 | some ⟨some d,op,_,_,_,none⟩=>tkK σ d (gOp ti zr σ.ρ E0 true op p)
 | some ⟨some d,op,_,_,_,some (j,want)⟩=>tkK σ d (gK2 ti zr σ.ρ E0 op p (gB σ.ρ ops j want))
 | _=>none
def adD (ti:Nat→TI) (zr:Nat→Option Value) (ops:Array Oper) (E0:List (Nat×En)):List Nat→Option (St×Prop)→Option (St×Prop)
 | [],x=>x
 | i::is,some (σ,p)=>adD ti zr ops E0 is (tk1 ti zr ops E0 σ p (nthO ops.toList i))
 | _::_,none=>none
theorem Q81 {ti:Nat→TI} {zr:Nat→Option Value} {ops:Array Oper} {E0:List (Nat×En)}: ∀ (is:List Nat),adD ti zr ops E0 is none=none
 | []=>rfl
 | _::_=>rfl
theorem Ygr {ti:Nat→TI} {zr:Nat→Option Value} {ops:Array Oper} {E0:List (Nat×En)} {σ σ':St} {o:Option Oper} {p q:Prop} (h:tk1 ti zr ops E0 σ p o=some (σ',q)) (hq:q):p:=by
 unfold tk1 at h
 split at h
 ·unfold tkK at h
  split at h
  ·rename_i v p1 hv
   cases hd:Nat.blt _ σ.n with
   | false=>rw[hd] at h;cases h
   | true=>rw[hd] at h;cases h;exact Q3a hv hq
  ·cases h
 ·unfold tkK at h
  split at h
  ·rename_i v p1 hv
   unfold gK2 at hv
   split at hv
   ·unfold gK1 at hv
    split at hv
    ·rename_i hv1
     cases hv
     cases hd:Nat.blt _ σ.n with
     | false=>rw[hd] at h;cases h
     | true=>rw[hd] at h;cases h;exact Q3a hv1 hq
    ·cases hv
   ·cases hv
  ·cases h
 ·cases h
theorem Yc5 {ti:Nat→TI} {zr:Nat→Option Value} {ops:Array Oper} {E0:List (Nat×En)}: ∀ {is:List Nat} {σ σ':St} {p q:Prop},adD ti zr ops E0 is (some (σ,p))=some (σ',q)→q→p
 | [],_,_,_,_,h,hq=>by cases h;exact hq
 | i :: is, σ, σ', p, q, h, hq => by
  simp only[adD] at h
  cases h1:tk1 ti zr ops E0 σ p (nthO ops.toList i) with
  | none=>rw[h1,Q81] at h;cases h
  | some x =>
   obtain⟨σ1,p1⟩:=x
   rw[h1] at h
   exact Ygr h1 (Yc5 h hq)
theorem SD.r {c:Cx} {θ0 η:List Loc} {E0 M:List (Nat×En)} {σ:St} {a:Act} {w w2:World} (h:R c (θ0++η) σ a w) (hs:SD c θ0 E0 w2) (hM:Qjv c.S0 c.w0 (θ0++η) M):R c (θ0++η) ⟨σ.n,σ.m,σ.ρ,M++E0⟩ a w2:=
 ⟨h.len,h.env,let ⟨S,w1,hh⟩:=hs;⟨S,w1,hh.facts (Qjv.up hh hM)⟩⟩
theorem RunD.takes {c:Cx} {K:Act→World→Prop} {E0:List (Nat×En)} {m0:Nat} {ops:Array Oper} {n:Nat} {M:List (Nat×En)}: ∀ (is:List Nat) {listed:Array Bool} {σ σ':St} {p q:Prop},okD ops listed is=true→adD c.ti c.zr ops (M++E0) is (some (σ,p))=some (σ',q)→q→RunD c K E0 m0 ops n M (Ql6 listed is) σ'→RunD c K E0 m0 ops (n+is.length) M listed σ
 | [],_,_,_,_,_,_,h,hq,hr=>by cases h;exact hr
 | i :: is, listed, σ, σ', p, q, hb, h, hq, hr => by
  simp only[okD,Bool.and_eq_true] at hb
  have hB:=hb.1
  simp only[Qrm,Bool.and_eq_true] at hB
  simp only[adD] at h
  cases h1:tk1 c.ti c.zr ops (M++E0) σ p (nthO ops.toList i) with
  | none=>rw[h1,Q81] at h;cases h
  | some x =>
   obtain⟨σ1,p1⟩:=x
   rw[h1] at h
   have hp1:=Yc5 h hq
   have ih:=RunD.takes is hb.2 h hq hr
   unfold tk1 at h1
   split at h1
   ·rename_i d op ty pos after hi
    unfold tkK at h1
    split at h1
    ·rename_i v p2 hv
     cases hd:Nat.blt d σ.n with
     | false=>rw[hd] at h1;cases h1
     | true =>
      rw[hd] at h1
      cases h1
      intro θ0 η a w hl hR hS hB0 hM
      have hi':ops[i]?=some ⟨some d,op,ty,pos,after,none⟩:=by rw[←Array.getElem?_toList];exact Qj1 hi
      obtain⟨u,hu,_⟩:=Q2l (SD.r hR hS hM) rfl (ty:=ty) (σ:=⟨σ.n,σ.m,σ.ρ,M++E0⟩) hv hp1
      refine wpAnyH_take (v:=u) hi' hB.1.1 hB.1.2 hB.2 (fun c a w h=>by cases h.1) (.inl ⟨rfl,fun w2 hw2=>?_⟩) hS (ih θ0 η _ w hl (hR.put hd hu) hS hB0 hM)
      obtain⟨u2,hu2,hy⟩:=Q2l (SD.r hR hw2 hM) rfl (ty:=ty) (σ:=⟨σ.n,σ.m,σ.ρ,M++E0⟩) hv hp1
      rw[hu] at hu2
      cases hu2
      exact hy _ _ _ _
    ·cases h1
   ·rename_i d op ty pos after j want hi
    unfold tkK at h1
    split at h1
    ·rename_i v p2 hv
     unfold gK2 at hv
     split at hv
     ·rename_i B hBB
      unfold gK1 at hv
      split at hv
      ·rename_i v1 q1 hv1
       cases hv
       cases hd:Nat.blt d σ.n with
       | false=>rw[hd] at h1;cases h1
       | true =>
        rw[hd] at h1
        cases h1
        intro θ0 η a w hl hR hS hB0 hM
        have hi':ops[i]?=some ⟨some d,op,ty,pos,after,some (j,want)⟩:=by rw[←Array.getElem?_toList];exact Qj1 hi
        have hw:=Q53 hR (o:=⟨some d,op,ty,pos,after,some (j,want)⟩) rfl hBB
        cases B with
        | true =>
         obtain⟨u,hu,_⟩:=Q2l (SD.r hR hS hM) rfl (ty:=ty) (σ:=⟨σ.n,σ.m,σ.ρ,M++E0⟩) hv1 hp1
         refine wpAnyH_take (v:=u) hi' hB.1.1 hB.1.2 hB.2 (fun c a w h=>by cases h.1) (.inl ⟨hw,fun w2 hw2=>?_⟩) hS (ih θ0 η _ w hl (hR.put hd (v:= .gd true v1) hu) hS hB0 hM)
         obtain⟨u2,hu2,hy⟩:=Q2l (SD.r hR hw2 hM) rfl (ty:=ty) (σ:=⟨σ.n,σ.m,σ.ρ,M++E0⟩) hv1 hp1
         rw[hu] at hu2
         cases hu2
         exact hy _ _ _ _
        | false =>
         exact wpAnyH_take (v:=undef) hi' hB.1.1 hB.1.2 hB.2 (fun c a w h=>by cases h.1) (.inr ⟨hw,rfl⟩) hS (ih θ0 η _ w hl (hR.put hd (v:= .gd false v1) rfl) hS hB0 hM)
      ·cases hv
     ·cases hv
    ·cases h1
   ·cases h1
theorem RunD.only {c:Cx} {K:Act→World→Prop} {E0:List (Nat×En)} {m0:Nat} {ops:Array Oper} {n:Nat} {M:List (Nat×En)} (i:Nat) (is:List Nat) {listed:Array Bool} {σ σ':St} {o:Oper} (hr:Region.ready .any ops listed=[i]) (hi:nthO ops.toList i=some o) (ho:OpS c σ ops o σ') (hp:is.map (nthE σ'.E)=E0.map some) (hn:is.Nodup)
  (h:RunD c K E0 m0 ops n M (listed.setIfInBounds i true) σ'):RunD c K E0 m0 ops (n+1) M listed σ:=by
 intro θ0 η a w hl hR hS hB0 hM
 have hi':ops[i]?=some o:=by rw[←Array.getElem?_toList];exact Qj1 hi
 refine Ye8 i hi' hr ?_
 refine wpList_step fun K' hK'=>?_
 refine ho _ a w hR K' _ fun ζ a' w' hR'=>hK' _ _ ?_
 rw[append_assoc] at hR'
 have hS':SD c θ0 E0 w':=by
  obtain⟨S,w1,hh⟩:=hR'.heap
  obtain⟨S0,w0,hh0⟩:=hS
  exact⟨S,w1,hh0.back (hh.pickE hp hn)⟩
 exact⟨rfl,hS',h θ0 (η++ζ) a' w' hl hR' hS' hB0 (by rw[←append_assoc];exact hM.ext)⟩
theorem RunD.onlyg {c:Cx} {K:Act→World→Prop} {E0:List (Nat×En)} {m0:Nat} {ops:Array Oper} {n:Nat} {M:List (Nat×En)} (i:Nat) (is:List Nat) {listed:Array Bool} {σ σ':St} {o:Oper} {G:Prop} (hr:Region.ready .any ops listed=[i]) (hi:nthO ops.toList i=some o) (ho:OpSg c σ ops o σ' G) (hp:is.map (nthE σ'.E)=E0.map some) (hn:is.Nodup)
  (h:G→RunD c K E0 m0 ops n M (listed.setIfInBounds i true) σ'):RunD c K E0 m0 ops (n+1) M listed σ:=by
 intro θ0 η a w hl hR hS hB0 hM
 have hi':ops[i]?=some o:=by rw[←Array.getElem?_toList];exact Qj1 hi
 refine Ye8 i hi' hr ?_
 refine wpList_step fun K' hK'=>?_
 refine ho _ a w hR K' _ fun ζ a' w' hR' hg=>hK' _ _ ?_
 rw[append_assoc] at hR'
 have hS':SD c θ0 E0 w':=by
  obtain⟨S,w1,hh⟩:=hR'.heap
  obtain⟨S0,w0,hh0⟩:=hS
  exact⟨S,w1,hh0.back (hh.pickE hp hn)⟩
 exact⟨rfl,hS',h hg θ0 (η++ζ) a' w' hl hR' hS' hB0 (by rw[←append_assoc];exact hM.ext)⟩
def evsG (ρ:List (Nat×V)):List Operand→Option (List V)
 | []=>some []
 | x::r=>Qa9 (evG ρ x) (evsG ρ r)
theorem Q56 {ρ:List (Nat×V)}: ∀ {l:List Operand} {vs:List V},evsG ρ l=some vs→l.map (evG ρ)=vs.map some
 | [],vs,h=>by cases h;rfl
 | x :: r, vs, h => by
  simp only[evsG] at h
  cases h1:evG ρ x with
  | none=>rw[h1] at h;cases h
  | some v =>
   cases h2:evsG ρ r with
   | none=>rw[h1,h2] at h;cases h
   | some b =>
    rw[h1,h2] at h
    cases h
    rw[map_cons,map_cons,h1,Q56 h2]
def opAt (l:List Oper) (i:Nat):Oper:=match nthO l i with
 | some o=>o
 | none=>⟨none,.move (.const undef),0, "", #[],none⟩
def TkS (c:Cx) (E0 M:List (Nat×En)) (σ:St) (ops:Array Oper) (listed:Array Bool) (j:Nat) (σ1:St) (M1:List (Nat×En)):Prop:= ∀ (K:Act→World→Prop) (m0 n:Nat),RunD c K E0 m0 ops n M1 (listed.setIfInBounds j true) σ1→RunD c K E0 m0 ops (n+1) M listed σ
def Qf1 {α:Type} (σ:St) (x:α) (fk:List (Fk α)) (M:List (Nat×En)):List (Nat×En):=(σ.m,.roc (opn false x (σ.m+1) fk).1)::(opn false x (σ.m+1) fk).2++M
theorem TkS.idx {c:Cx} {E0 M:List (Nat×En)} {ops:Array Oper} {listed:Array Bool} {σ:St} {α:Type} {dα:Dat α} [s:Str α] [Inhabited α] {t e by' r len d:Nat} {x y:Operand} {ty:TypeId} {pos:String} {after:Array Edge} {i:Int} {xs:List α} (j k:Nat) (hk:k<xs.length) (hi':nthO ops.toList j=some ⟨some d,.indexAddr t x y,ty,pos,after,none⟩) (hB:Qrm ops listed j=true)
  (hx:ev σ.ρ x=some (.sl r len)) (hy:ev σ.ρ y=some (.v (.int .i64 i))) (hp:lkE (M++E0) r=some (.ros α dα xs)) (hl:len=xs.length) (hi:i=k) (ht:c.ti t= .sl e (Dat.sz α) by') (hd:Nat.blt d σ.n=true):TkS c E0 M σ ops listed j (Qdt σ d (nth xs k) s.fk) (Qf1 σ (nth xs k) s.fk M):=by
 intro K m0 n h
 subst hi
 subst hl
 intro θ0 η a w hl0 hR hS hB0 hM
 simp only[Qrm,Bool.and_eq_true] at hB
 have hj:ops[j]?=some ⟨some d,.indexAddr t x y,ty,pos,after,none⟩:=by rw[←Array.getElem?_toList];exact Qj1 hi'
 obtain⟨S,w1,hh⟩:=hR.heap
 have hpo:(En.ros α dα xs).ok c.S0 c.w0 (θ0++η) r:=by
  rcases List.mem_append.1 (Qe1 hp) with hm | hm
  ·exact(hM _ hm).1
  ·exact En.ok_ext (hB0 _ hm)
 obtain⟨l,hl,hr⟩:=hpo
 have hc:=hR.env.con hx
 simp only[V.con,hl,Option.some.injEq] at hc
 obtain⟨ad,cs,hA,_,hrd,hcs,hb⟩:=SlR.elem hr hk
 have hti:=c.tiok t
 rw[ht] at hti
 simp only[TI.chk,Bool.and_eq_true] at hti
 have hx':=hR.env.is hx (by rw[hR.env.con hx,←hc,hA])
 have hy':=hR.env.isv hy
 let A':Addr:=(ad.add (k*Dat.sz α))
 let lc:Loc:=⟨some A',0,[]⟩
 obtain⟨θ',hl',hc',he'⟩:=Qng (θ:=(θ0++η)++[lc]) (s.op hrd)
 rw[length_append,length_singleton,hR.len,append_assoc] at hc' he'
 have hg:((θ0++η)++([lc]++θ'))[σ.m]?=some lc:=by rw[←hR.len];exact Qfu
 have hfa:Qjv c.S0 c.w0 ((θ0++η)++([lc]++θ')) ((σ.m,En.roc (opn false (nth xs k) (σ.m+1) s.fk).1)::(opn false (nth xs k) (σ.m+1) s.fk).2):=by
  intro e he
  rcases List.mem_cons.1 he with rfl | he
  ·exact⟨⟨lc,A',cs,hg,rfl,hc',by show c.S0 A'.block;simp only[A',Qms];exact hb,hcs⟩,fun _ _=>rfl⟩
  ·exact he' e he
 have hR2:R c (θ0++(η++([lc]++θ'))) (Qdt σ d (nth xs k) s.fk) (a.put (some d) (.pointer (some (A'.add 0)))) w:=by
  rw[←append_assoc]
  refine⟨?_,(hR.env.ext (θ':=[lc]++θ')).put hd ?_,S,w1,?_⟩
  ·have h1:=hR.len
   have h2:(Qdt σ d (nth xs k) s.fk).m=σ.m+1+nsl s.fk:=rfl
   simp only[length_append,length_cons,length_nil] at h1 ⊢
   omega
  ·simp only[V.con,hg,lc]
  ·exact hh.facts (Qjv.up hh hfa)
 have hM2:Qjv c.S0 c.w0 (θ0++(η++([lc]++θ'))) (Qf1 σ (nth xs k) s.fk M):=by
  rw[←append_assoc]
  exact hfa.app hM.ext
 refine wpAnyH_take (v:= .pointer (some (A'.add 0))) hj hB.1.1 hB.1.2 hB.2 (fun c a w h=>by cases h.1) (.inl ⟨rfl,fun w2 _=>?_⟩) hS (h θ0 (η++([lc]++θ')) _ w hl0 hR2 hS hB0 hM2)
 have hyy:=Qkf (P:=c.P) (w:=w2) (ty:=ty) hR.env.env hx' hy' (by omega) (by omega) hti.2
 have:=hyy (some d) pos after none
 simpa using this
end
end Go.Proofs.YtppialklomgajaaGreatDoor.Fw
