/-
  The texts Fw, Data, Own, Focus, Glob, RG, RiG, Ri1, Ri2, Am, Am2, Am3, Am4, Am5, Am6, Am8, Am10, Am12, Am14, Am16, Am18, Ri3, Ri4, Ri5, Am23, Am24, Am25, Am26, Am29, Ri6, Ri7, Ri8 of this proof, one behind the other: what each proves stands at its head. No condition.
-/
import Derived.WideLaws
import Derived.WalkKit
import Derived.ProofKit
import Derived.Deep.Quiet
import Derived.Handy
import Derived.Deep.LoopGhost
import Derived.Deep.Slices
import Derived.Laws.StructEq
import Derived.OrdersHeld
import Derived.OpenShut
import Derived.FnData
import Derived.ChangeArms
import Derived.ChangeOld
import Derived.Carry
import Derived.Great.FillDense
import Derived.Laws.RangeString
import Derived.Laws.IdiomStrings
import Derived.Lib.SliceRun
import Derived.Laws.Externs
namespace Go.Proofs.YtapfpflmcgfbkaaGreatDoor.Fw
open Go.RowKit
def lk?:List (Nat×Value)→Nat→Option Value
 | [],_=>none
 | (t,v)::r,k=>bif Nat.beq t k then some v else lk? r k
def ev? (ρ:List (Nat×Value)):Operand→Option Value
 | .tmp t=>lk? ρ t
 | .const v=>some v
 | .global g=>some (.pointer (some ⟨g,0,none⟩))
 | .func f=>some (.func (.func f) #[] #[])
structure Env (n:Nat) (ρ:List (Nat×Value)) (a:Act):Prop where
 size:a.tmps.size=n
 defers:a.defers=[]
 get: ∀ t v,lk? ρ t=some v→a.tmps.getD t undef=v
theorem Env.eval {n:Nat} {ρ:List (Nat×Value)} {a:Act} (h:Env n ρ a) {x:Operand} {v:Value} (hx:ev? ρ x=some v):a.eval x=v:=by
 cases x with
 | tmp t=>exact h.get t v hx
 | const c=>simp only[ev?,Option.some.injEq] at hx;exact hx
 | global g=>simp only[ev?,Option.some.injEq] at hx;exact hx
 | func f=>simp only[ev?,Option.some.injEq] at hx;exact hx
def chkAgg (P:Program) (t n:Nat):Bool:=
 (match P.underlying t with | some (.struct _) | some (.array _ _)=>true | _=>false)&&(match P.info? t with | some i=>Nat.beq i.size n | none=>false)
def chkOne (P:Program) (t:Nat):Bool:=
 (match P.underlying t with | some (.struct _) | some (.array _ _)=>false | some _=>true | none=>false)&&(match P.info? t with | some i=>Nat.beq i.size 1 | none=>false)
def chkField (P:Program) (s f off:Nat):Bool:=
  match P.underlying s with
  | some (.struct fs) => (match fs[f]? with
    | some fd=>Nat.beq fd.offset off&&(match P.info? fd.type with | some i=>!(Nat.beq i.size 0) | none=>false)
    | none=>false)
  | _=>false
def chkFieldT (P:Program) (s f off fd sz:Nat):Bool:=
  match P.underlying s with
  | some (.struct fs) => (match fs[f]? with
    | some d=>Nat.beq d.offset off&&(Nat.beq d.type fd&&Nat.beq (P.cellsOf fd) sz)
    | none=>false)
  | _=>false
theorem chkFieldT_spec {P:Program} {s f off fd sz:Nat} (h:chkFieldT P s f off fd sz=true): ∃ fs d,P.underlying s=some (.struct fs)∧fs[f]?=some d∧d.offset=off∧d.type=fd∧P.cellsOf fd=sz:=by
 unfold chkFieldT at h
 cases hu:P.underlying s with
 | none=>simp[hu] at h
 | some d =>
  cases d with
  | struct fs =>
   rw[hu] at h
   simp only at h
   cases hf:fs[f]? with
   | none=>simp[hf] at h
   | some d =>
    rw[hf] at h
    simp only[Bool.and_eq_true] at h
    exact⟨fs,d,rfl,hf,Nat.eq_of_beq_eq_true h.1,Nat.eq_of_beq_eq_true h.2.1,Nat.eq_of_beq_eq_true h.2.2⟩
  | _=>simp[hu] at h
def chkSlice (P:Program) (t e sz bytes:Nat):Bool:=
 (match P.underlying t with | some (.slice e')=>Nat.beq e' e | _=>false)&&(match P.info? e with | some i=>Nat.beq i.size sz&&Nat.beq i.bytes bytes | none=>false)
theorem chkAgg_isAgg {P:Program} {t n:Nat} (h:chkAgg P t n=true) (w:World):(isAgg t).run P w= .ok true w∧(sizeOf t).run P w= .ok n w:=by
 unfold chkAgg at h
 simp only[Bool.and_eq_true] at h
 obtain⟨h1,h2⟩:=h
 constructor
 ·cases hu:P.underlying t with
  | none=>simp[hu] at h1
  | some d =>
   unfold isAgg
   rw[Sem.run_bind,run_underlying hu w]
   cases d<;>simp_all
 ·cases hi:P.info? t with
  | none=>simp[hi] at h2
  | some i =>
   rw[hi] at h2
   have:=Nat.eq_of_beq_eq_true h2
   simp[sizeOf,typeInfo,hi,this]
theorem chkOne_isAgg {P:Program} {t:Nat} (h:chkOne P t=true) (w:World):(isAgg t).run P w= .ok false w∧(sizeOf t).run P w= .ok 1 w:=by
 unfold chkOne at h
 simp only[Bool.and_eq_true] at h
 obtain⟨h1,h2⟩:=h
 constructor
 ·cases hu:P.underlying t with
  | none=>simp[hu] at h1
  | some d =>
   unfold isAgg
   rw[Sem.run_bind,run_underlying hu w]
   cases d<;>simp_all
 ·cases hi:P.info? t with
  | none=>simp[hi] at h2
  | some i =>
   rw[hi] at h2
   have:=Nat.eq_of_beq_eq_true h2
   simp[sizeOf,typeInfo,hi,this]
theorem chkField_spec {P:Program} {s f off:Nat} (h:chkField P s f off=true): ∃ fs fd,P.underlying s=some (.struct fs)∧fs[f]?=some fd∧fd.offset=off∧ ∃ i,P.info? fd.type=some i∧i.size≠0:=by
 unfold chkField at h
 cases hu:P.underlying s with
 | none=>simp[hu] at h
 | some d =>
  cases d with
  | struct fs =>
   rw[hu] at h
   simp only at h
   cases hf:fs[f]? with
   | none=>simp[hf] at h
   | some fd =>
    rw[hf] at h
    simp only[Bool.and_eq_true] at h
    obtain⟨h1,h2⟩:=h
    cases hi:P.info? fd.type with
    | none=>simp[hi] at h2
    | some i =>
     rw[hi] at h2
     simp only[Bool.not_eq_true'] at h2
     exact⟨fs,fd,rfl,hf,Nat.eq_of_beq_eq_true h1,i,hi,fun e=>by rw[e] at h2;simp at h2⟩
  | _=>simp[hu] at h
theorem chkSlice_spec {P:Program} {t e sz bytes:Nat} (h:chkSlice P t e sz bytes=true):P.underlying t=some (.slice e)∧ ∃ i,P.info? e=some i∧i.size=sz∧i.bytes=bytes:=by
 unfold chkSlice at h
 simp only[Bool.and_eq_true] at h
 obtain⟨h1,h2⟩:=h
 constructor
 ·cases hu:P.underlying t with
  | none=>simp[hu] at h1
  | some d =>
   cases d with
   | slice e'=>rw[hu] at h1;rw[Nat.eq_of_beq_eq_true h1]
   | _=>simp[hu] at h1
 ·cases hi:P.info? e with
  | none=>simp[hi] at h2
  | some i =>
   rw[hi] at h2
   simp only[Bool.and_eq_true] at h2
   exact⟨i,rfl,Nat.eq_of_beq_eq_true h2.1,Nat.eq_of_beq_eq_true h2.2⟩
theorem add_add (a:Addr) (i j:Nat):(a.add i).add j=a.add (i+j):=by
 unfold Addr.add
 by_cases hi:i=0<;>by_cases hj:j=0<;>simp[hi,hj,Nat.add_assoc]
theorem block_add (a:Addr) (n:Nat):(a.add n).block=a.block:=by unfold Addr.add;split<;>rfl
def CellsAt (w:World) (a:Addr) (cs:List Value):Prop:= ∀ j v,cs[j]?=some v→w.cell? (a.add j)=some v
theorem CellsAt.cell {w:World} {a:Addr} {cs:List Value} (h:CellsAt w a cs) {off:Nat} {v:Value} (hv:cs[off]?=some v):w.cell? (a.add off)=some v:=h off v hv
theorem CellsAt.part {w:World} {a:Addr} {cs ds:List Value} (h:CellsAt w a cs) {off n:Nat} (hd:(cs.drop off).take n=ds):CellsAt w (a.add off) ds:=by
 intro j v hv
 rw[add_add]
 subst hd
 rw[List.getElem?_take] at hv
 split at hv
 ·rw[List.getElem?_drop] at hv
  exact h _ v hv
 ·cases hv
structure Keep (S:Nat→Prop) (w w':World):Prop where
 os:w'.os=w.os
 tape:w'.tape=w.tape
 output:w'.output=w.output
 size:w.heap.size≤w'.heap.size
 block: ∀ b,S b→w'.heap[b]?=w.heap[b]?
abbrev Old (w:World):Nat→Prop:=fun b=>b<w.heap.size
theorem Keep.refl (S:Nat→Prop) (w:World):Keep S w w:=⟨rfl,rfl,rfl,Nat.le_refl _,fun _ _=>rfl⟩
theorem Keep.trans {S:Nat→Prop} {a b c:World} (h:Keep S a b) (k:Keep S b c):Keep S a c:=
 ⟨k.os.trans h.os,k.tape.trans h.tape,k.output.trans h.output,Nat.le_trans h.size k.size,fun i hi=>(k.block i hi).trans (h.block i hi)⟩
theorem Keep.mono {S S':Nat→Prop} {w w':World} (h:Keep S w w') (hS: ∀ b,S' b→S b):Keep S' w w':=⟨h.os,h.tape,h.output,h.size,fun b hb=>h.block b (hS b hb)⟩
theorem Keep.of_below {S:Nat→Prop} {B:Nat} {w w':World} (h:Below B w w') (hS: ∀ b,S b→b<B):Keep S w w':=⟨h.os,h.tape,h.output,h.size,fun b hb=>h.block b (hS b hb)⟩
theorem Keep.below {w w':World} (h:Keep (Old w) w w'):Below w.heap.size w w':=⟨h.os,h.tape,h.output,h.size,fun b hb=>h.block b hb⟩
theorem CellsAt.keep {S:Nat→Prop} {w w':World} {a:Addr} {cs:List Value} (h:CellsAt w a cs) (hb:Keep S w w') (ha:S a.block):CellsAt w' a cs:=by
 intro j v hv
 rw[←h j v hv]
 exact World.cell?_of_block (hb.block _ (by rw[block_add];exact ha))
theorem CellsAt.row {w:World} {b:Nat} {cs:List Value} {T:TypeId} {fr:Nat×Nat} (h:w.heap[b]?=some (.cells cs.toArray T fr)):CellsAt w ⟨b,0,none⟩ cs:=by
 intro j v hv
 have e:(⟨b,0,none⟩:Addr).add j=⟨b,j,none⟩:=by unfold Addr.add;split<;>simp_all
 rw[e,cell_of_row w b j _ T fr h]
 simpa using hv
def Yields (P:Program) (a:Act) (w:World) (op:Op) (ty:TypeId) (v:Value):Prop:=
 ∀ (dst:Option Tmp) (pos:String) (after:Array Edge) (g:Option (Nat×Bool)),(execOp a.eval ⟨dst,op,ty,pos,after,g⟩).run P w= .ok (.value v) w
section
variable {P:Program} {n:Nat} {ρ:List (Nat×Value)} {a:Act} {w:World} {ty:TypeId}
theorem y_move (hE:Env n ρ a) {x:Operand} {v:Value} (hx:ev? ρ x=some v):Yields P a w (.move x) ty v:=by
 intro _ _ _ _
 simp[execOp,hE.eval hx]
theorem y_assign (hE:Env n ρ a) {x:Operand} {v:Value} (hx:ev? ρ x=some v):Yields P a w (.assign x) ty v:=by
 intro _ _ _ _
 simp[execOp,hE.eval hx]
theorem y_len_slice (hE:Env n ρ a) {x:Operand} {A:Option Addr} {len cap:Nat} (hx:ev? ρ x=some (.slice A len cap)) {t e sz bytes:Nat} (ht:chkSlice P t e sz bytes=true):
    Yields P a w (.call { callee:= .builtin .len,args:= #[x],argTypes:= #[t] }) ty (.int .i64 len):=by
  intro _ _ _ _
  simp[execOp,resolve,hE.eval hx,invoke,builtin,Builtin.len_,run_underlying (chkSlice_spec ht).1,goInt]
theorem y_len_string (hE:Env n ρ a) {x:Operand} {s:ByteArray} (hx:ev? ρ x=some (.string s)) {t:Nat} (ht:P.underlying t=some .string):
    Yields P a w (.call { callee:= .builtin .len,args:= #[x],argTypes:= #[t] }) ty (.int .i64 s.size):=by
  intro _ _ _ _
  simp[execOp,resolve,hE.eval hx,invoke,builtin,Builtin.len_,run_underlying ht,goInt]
theorem y_binop (hE:Env n ρ a) {x y:Operand} {t t':Nat} {op:BinOp} {k:IntKind} {i j:Int} {v:Value} (hx:ev? ρ x=some (.int k i)) (hy:ev? ρ y=some (.int k j))
  (hr:(binOp op t (.int k i) (.int k j)).run P w= .ok v w):Yields P a w (.binOp op t x y t') ty v:=by
 intro _ _ _ _
 simp only[execOp,hE.eval hx,hE.eval hy,Sem.run_bind,eqGuard_at_int,Sem.run_pure,Result.andThen_ok,hr]
theorem y_add (hE:Env n ρ a) {x y:Operand} {t t':Nat} {k:IntKind} {i j:Int} (hx:ev? ρ x=some (.int k i)) (hy:ev? ρ y=some (.int k j)):
  Yields P a w (.binOp .add t x y t') ty (.int k (k.wrap (i+j))):=y_binop hE hx hy (by rw[binOp_add];rfl)
theorem y_sub (hE:Env n ρ a) {x y:Operand} {t t':Nat} {k:IntKind} {i j:Int} (hx:ev? ρ x=some (.int k i)) (hy:ev? ρ y=some (.int k j)):
  Yields P a w (.binOp .sub t x y t') ty (.int k (k.wrap (i - j))):=y_binop hE hx hy (by rw[binOp_sub];rfl)
theorem y_mul (hE:Env n ρ a) {x y:Operand} {t t':Nat} {k:IntKind} {i j:Int} (hx:ev? ρ x=some (.int k i)) (hy:ev? ρ y=some (.int k j)):
  Yields P a w (.binOp .mul t x y t') ty (.int k (k.wrap (i*j))):=y_binop hE hx hy (by rw[binOp_mul];rfl)
theorem y_quo (hE:Env n ρ a) {x y:Operand} {t t':Nat} {k:IntKind} {i j:Int} (hx:ev? ρ x=some (.int k i)) (hy:ev? ρ y=some (.int k j)) (hj:j≠0):
  Yields P a w (.binOp .quo t x y t') ty (.int k (k.wrap (i.tdiv j))):=y_binop hE hx hy (by rw[binOp_quo];simp[Op.intDiv,hj])
theorem y_rem (hE:Env n ρ a) {x y:Operand} {t t':Nat} {k:IntKind} {i j:Int} (hx:ev? ρ x=some (.int k i)) (hy:ev? ρ y=some (.int k j)) (hj:j≠0):
  Yields P a w (.binOp .rem t x y t') ty (.int k (i.tmod j)):=y_binop hE hx hy (by rw[binOp_rem];simp[Op.intDiv,hj])
theorem y_lss (hE:Env n ρ a) {x y:Operand} {t t':Nat} {k:IntKind} {i j:Int} (hx:ev? ρ x=some (.int k i)) (hy:ev? ρ y=some (.int k j)):
  Yields P a w (.binOp .lss t x y t') ty (.bool (decide (i<j))):=y_binop hE hx hy (by rw[binOp_lss];rfl)
theorem y_leq (hE:Env n ρ a) {x y:Operand} {t t':Nat} {k:IntKind} {i j:Int} (hx:ev? ρ x=some (.int k i)) (hy:ev? ρ y=some (.int k j)):
  Yields P a w (.binOp .leq t x y t') ty (.bool (decide (i≤j))):=y_binop hE hx hy (by rw[binOp_leq];rfl)
theorem y_gtr (hE:Env n ρ a) {x y:Operand} {t t':Nat} {k:IntKind} {i j:Int} (hx:ev? ρ x=some (.int k i)) (hy:ev? ρ y=some (.int k j)):
  Yields P a w (.binOp .gtr t x y t') ty (.bool (decide (i>j))):=y_binop hE hx hy (by rw[binOp_gtr];rfl)
theorem y_geq (hE:Env n ρ a) {x y:Operand} {t t':Nat} {k:IntKind} {i j:Int} (hx:ev? ρ x=some (.int k i)) (hy:ev? ρ y=some (.int k j)):
  Yields P a w (.binOp .geq t x y t') ty (.bool (decide (i≥j))):=y_binop hE hx hy (by rw[binOp_geq];rfl)
theorem y_eql (hE:Env n ρ a) {x y:Operand} {t t':Nat} {k:IntKind} {i j:Int} (hx:ev? ρ x=some (.int k i)) (hy:ev? ρ y=some (.int k j)):
  Yields P a w (.binOp .eql t x y t') ty (.bool (decide (i=j))):=y_binop hE hx hy (by rw[binOp_eql];rfl)
theorem y_neq (hE:Env n ρ a) {x y:Operand} {t t':Nat} {k:IntKind} {i j:Int} (hx:ev? ρ x=some (.int k i)) (hy:ev? ρ y=some (.int k j)):
  Yields P a w (.binOp .neq t x y t') ty (.bool (!decide (i=j))):=y_binop hE hx hy (by rw[binOp_neq];rfl)
theorem y_eql_bool (hE:Env n ρ a) {x y:Operand} {t t':Nat} {i j:Bool} (hx:ev? ρ x=some (.bool i)) (hy:ev? ρ y=some (.bool j)) (ht:P.underlying t=some .bool):
  Yields P a w (.binOp .eql t x y t') ty (.bool (decide (i=j))):=by
 intro _ _ _ _
 simp[execOp,hE.eval hx,hE.eval hy,eqGuard_at_bool,binOp,run_equal_bool w t i j ht]
 cases i<;>cases j<;>rfl
theorem y_neq_bool (hE:Env n ρ a) {x y:Operand} {t t':Nat} {i j:Bool} (hx:ev? ρ x=some (.bool i)) (hy:ev? ρ y=some (.bool j)) (ht:P.underlying t=some .bool):
  Yields P a w (.binOp .neq t x y t') ty (.bool (!decide (i=j))):=by
 intro _ _ _ _
 simp[execOp,hE.eval hx,hE.eval hy,eqGuard_at_bool,binOp,run_equal_bool w t i j ht]
 cases i<;>cases j<;>rfl
theorem string_eq (s t:ByteArray):(s.toList==t.toList)=decide (s=t):=by
 have h:(s.toList=t.toList)↔s=t:=by
  constructor
  ·intro h
   rw[ByteArray.toList_eq,ByteArray.toList_eq] at h
   exact ByteArray.ext (Array.toList_inj.1 h)
  ·intro h;rw[h]
 rw[Bool.eq_iff_iff]
 simp[h]
theorem y_eql_string (hE:Env n ρ a) {x y:Operand} {t t':Nat} {i j:ByteArray} (hx:ev? ρ x=some (.string i)) (hy:ev? ρ y=some (.string j)):
  Yields P a w (.binOp .eql t x y t') ty (.bool (decide (i=j))):=by
 intro _ _ _ _
 simp only[execOp,hE.eval hx,hE.eval hy,eqGuard_at_string,binOp,Op.stringOp,string_eq,Sem.run_bind,Sem.run_pure,Result.andThen_ok]
theorem y_neq_string (hE:Env n ρ a) {x y:Operand} {t t':Nat} {i j:ByteArray} (hx:ev? ρ x=some (.string i)) (hy:ev? ρ y=some (.string j)):
  Yields P a w (.binOp .neq t x y t') ty (.bool (!decide (i=j))):=by
 intro _ _ _ _
 simp only[execOp,hE.eval hx,hE.eval hy,eqGuard_at_string,binOp,Op.stringOp,string_eq,Sem.run_bind,Sem.run_pure,Result.andThen_ok]
theorem y_cat (hE:Env n ρ a) {x y:Operand} {t t':Nat} {i j:ByteArray} (hx:ev? ρ x=some (.string i)) (hy:ev? ρ y=some (.string j)) (hs:i.size+j.size≤9223372036854775807):
  Yields P a w (.binOp .add t x y t') ty (.string (i++j)):=by
 intro _ _ _ _
 have: ¬ ((i.size+j.size:Nat):Int)>IntKind.i64.max:=by rw[IntKind.max_i64];omega
 simp only[execOp,hE.eval hx,hE.eval hy,eqGuard_at_string,binOp,Op.stringOp,Sem.run_bind,Sem.run_pure,Result.andThen_ok,this,if_false]
theorem y_not (hE:Env n ρ a) {x:Operand} {t:Nat} {b:Bool} (hx:ev? ρ x=some (.bool b)):Yields P a w (.unOp .not t x) ty (.bool (!b)):=by
 intro _ _ _ _
 simp[execOp,hE.eval hx,Op.unary]
theorem y_fieldAddr (hE:Env n ρ a) {x:Operand} {s f off o1 o2:Nat} {ad:Addr} (hx:ev? ρ x=some (.pointer (some (ad.add o1)))) (hc:chkField P s f off=true) (ho:Nat.add o1 off=o2):
  Yields P a w (.fieldAddr s x f) ty (.pointer (some (ad.add o2))):=by
 intro _ _ _ _
 obtain⟨fs,fd,hu,hf,hoff,i,hi,hn⟩:=chkField_spec hc
 have hs:(sizeOf fd.type).run P w= .ok i.size w:=by simp[sizeOf,typeInfo,hi]
 subst ho
 simp[execOp,hE.eval hx,Instr.fieldAt,run_underlying hu,hf,Instr.sureAddr,fieldPlace,hs,hn,hoff,add_add]
theorem run_load_one {t:Nat} {ad:Addr} {v:Value} (hc:w.cell? ad=some v) (ht:chkOne P t=true):(loadVar t ad).run P w= .ok v w:=by
 simp[loadVar,(chkOne_isAgg ht w).1,hc]
theorem run_load_agg {t k:Nat} {ad:Addr} {cs:List Value} (hc:CellsAt w ad cs) (ht:chkAgg P t k=true) (hk:cs.length=k):(loadVar t ad).run P w= .ok (.agg cs.toArray) w:=by
 have hl:=run_loadCells_list (P:=P) w ad cs (fun j v hv=>hc j v hv)
 rw[hk] at hl
 simp[loadVar,(chkAgg_isAgg ht w).1,(chkAgg_isAgg ht w).2,hl]
theorem y_load_one (hE:Env n ρ a) {x:Operand} {t off:Nat} {ad:Addr} {cs:List Value} {v:Value} (hx:ev? ρ x=some (.pointer (some (ad.add off)))) (hc:CellsAt w ad cs) (hv:cs[off]?=some v) (ht:chkOne P t=true):
  Yields P a w (.load t x) ty v:=by
 intro _ _ _ _
 simp[execOp,hE.eval hx,Instr.loadAt,Instr.sureAddr,run_load_one (hc.cell hv) ht]
theorem y_load_agg (hE:Env n ρ a) {x:Operand} {t off k:Nat} {ad:Addr} {cs ds:List Value} (hx:ev? ρ x=some (.pointer (some (ad.add off)))) (hc:CellsAt w ad cs) (hd:(cs.drop off).take k=ds) (hk:ds.length=k)
  (ht:chkAgg P t k=true):Yields P a w (.load t x) ty (.agg ds.toArray):=by
 intro _ _ _ _
 simp[execOp,hE.eval hx,Instr.loadAt,Instr.sureAddr,run_load_agg (hc.part hd) ht hk]
theorem y_indexAddr (hE:Env n ρ a) {x y:Operand} {t e sz bytes len cap:Nat} {A:Addr} {i:Int} (hx:ev? ρ x=some (.slice (some A) len cap)) (hy:ev? ρ y=some (.int .i64 i)) (h0:0≤i) (h1:i<len)
  (ht:chkSlice P t e sz bytes=true):Yields P a w (.indexAddr t x y) ty (.pointer (some ((A.add (i.toNat*sz)).add 0))):=by
 intro _ _ _ _
 obtain⟨hu,inf,hi,hs,_⟩:=chkSlice_spec ht
 have hz:(sizeOf e).run P w= .ok sz w:=by simp[sizeOf,typeInfo,hi,hs]
 simp[execOp,hE.eval hx,hE.eval hy,Instr.indexAt,asIntOf,run_underlying hu,h0,h1,hz,add_add]
theorem y_extract (hE:Env n ρ a) {x:Operand} {i:Nat} {vs:List Value} {v:Value} (hx:ev? ρ x=some (.tuple vs.toArray)) (hv:vs[i]?=some v):Yields P a w (.extract x i) ty v:=by
 intro _ _ _ _
 simp[execOp,hE.eval hx,Instr.extract,hv]
end
theorem y_pick_t {P:Program} {n:Nat} {ρ:List (Nat×Value)} {a:Act} {w:World} {ty:TypeId} (hE:Env n ρ a) {c x y:Operand} {b:Bool} (hc:ev? ρ c=some (.bool b)) (hb:b=true) {v:Value} (hx:ev? ρ x=some v):Yields P a w (.pick c x y) ty v:=by
 intro _ _ _ _
 simp[execOp,hE.eval hc,hE.eval hx,hb,asBool]
theorem y_pick_f {P:Program} {n:Nat} {ρ:List (Nat×Value)} {a:Act} {w:World} {ty:TypeId} (hE:Env n ρ a) {c x y:Operand} {b:Bool} (hc:ev? ρ c=some (.bool b)) (hb:b=false) {v:Value} (hy:ev? ρ y=some v):Yields P a w (.pick c x y) ty v:=by
 intro _ _ _ _
 simp[execOp,hE.eval hc,hE.eval hy,hb,asBool]
section
variable {P:Program} {ops:Array Oper} {Q:Exit→Act→World→Prop} {n:Nat} {ρ:List (Nat×Value)} {a:Act} {w:World} {rest:List Oper} {d:Nat} {op:Op} {ty:TypeId} {pos:String} {after:Array Edge}
end
section
variable {P:Program} {Q:Exit→Act→World→Prop} {a:Act} {w:World} {id:Nat} {l:List Oper} {x y:Code}
end
def I64 (x:Int):Prop:= -9223372036854775808≤x∧x≤9223372036854775807
class Dat (α:Type) where
 sz:Nat
 sz_pos':0<sz
 rd:(Nat→Prop)→World→List Value→α→Prop
 rd_len: ∀ {B:Nat→Prop} {w cs x},rd B w cs x→cs.length=sz
 rd_mono: ∀ {B B':Nat→Prop} {w cs x},(∀ b,B b→B' b)→rd B w cs x→rd B' w cs x
 rd_below: ∀ {B:Nat→Prop} {w w' cs x},Keep B w w'→rd B w cs x→rd B w' cs x
 own:World→List Value→α→List Nat→Prop
 own_rd: ∀ {B:Nat→Prop} {w cs x F},own w cs x F→(∀ b∈F,B b)→rd B w cs x
 own_same: ∀ {w w' cs x F},own w cs x F→(∀ b∈F,w'.heap[b]?=w.heap[b]?)→own w' cs x F
 own_lt: ∀ {w cs x F},own w cs x F→ ∀ b∈F,b<w.heap.size
 good:α→Prop
 rd_good: ∀ {B:Nat→Prop} {w cs x},rd B w cs x→good x
 small:Nat→α→Prop
 rd_one: ∀ {B:Nat→Prop} {w cs x},rd B w cs x→ ∀ u∈cs,u.oneCell'=true
abbrev Dat.flat {α:Type} (n:Nat) (hp:0<n) (enc:α→List Value) (good:α→Prop) (hn: ∀ x,(enc x).length=n) (sm:Nat→α→Prop) (h1: ∀ x,∀ u∈enc x,u.oneCell'=true):Dat α where
 sz:=n
 sz_pos':=hp
 rd _ _ cs x:=cs=enc x∧good x
 rd_len h:=by rw[h.1];exact hn _
 rd_mono _ h:=h
 rd_below _ h:=h
 own _ cs x F:=(cs=enc x∧good x)∧F=[]
 own_rd h _:=h.1
 own_same h _:=h
 own_lt h:=by rw[h.2];intro b hb;cases hb
 good:=good
 rd_good h:=h.2
 small:=sm
 rd_one h:=by rw[h.1];exact h1 _
theorem Dat.sz_pos (α:Type) [Dat α]:0<Dat.sz α:=Dat.sz_pos'
instance:Dat Int:=Dat.flat 1 (by decide) (fun x=>[.int .i64 x]) I64 (fun _=>rfl) (fun _ _=>True) (fun _ _ h=>by simp at h;rw[h];rfl)
instance:Dat Bool:=Dat.flat 1 (by decide) (fun x=>[.bool x]) (fun _=>True) (fun _=>rfl) (fun _ _=>True) (fun _ _ h=>by simp at h;rw[h];rfl)
instance:Dat ByteArray:=Dat.flat 1 (by decide) (fun x=>[.string x]) (fun s=>s.size≤maxLen) (fun _=>rfl) (fun n s=>s.size≤n) (fun _ _ h=>by simp at h;rw[h];rfl)
instance:Dat UInt8:=Dat.flat 1 (by decide) (fun x=>[.int .u8 x.toNat]) (fun _=>True) (fun _=>rfl) (fun _ _=>True) (fun _ _ h=>by simp at h;rw[h];rfl)
instance {α β:Type} [Dat α] [Dat β]:Dat (α×β) where
 sz:=Dat.sz α+Dat.sz β
 sz_pos':=Nat.add_pos_left Dat.sz_pos' _
 rd B w cs x:= ∃ c d,cs=c++d∧Dat.rd B w c x.1∧Dat.rd B w d x.2
 rd_len:=by rintro B w cs x ⟨c,d,rfl,h1,h2⟩;rw[List.length_append,Dat.rd_len h1,Dat.rd_len h2]
 rd_mono:=by rintro B B' w cs x h ⟨c,d,rfl,h1,h2⟩;exact⟨c,d,rfl,Dat.rd_mono h h1,Dat.rd_mono h h2⟩
 rd_below:=by rintro B w w' cs x h ⟨c,d,rfl,h1,h2⟩;exact⟨c,d,rfl,Dat.rd_below h h1,Dat.rd_below h h2⟩
 own w cs x F:= ∃ c d G H,cs=c++d∧F=G++H∧Dat.own w c x.1 G∧Dat.own w d x.2 H
 own_rd:=by
  rintro B w cs x F ⟨c,d,G,H,rfl,rfl,h1,h2⟩ hF
  exact⟨c,d,rfl,Dat.own_rd h1 fun b hb=>hF b (List.mem_append_left _ hb),Dat.own_rd h2 fun b hb=>hF b (List.mem_append_right _ hb)⟩
 own_same:=by
  rintro w w' cs x F ⟨c,d,G,H,rfl,rfl,h1,h2⟩ hF
  exact⟨c,d,G,H,rfl,rfl,Dat.own_same h1 fun b hb=>hF b (List.mem_append_left _ hb),Dat.own_same h2 fun b hb=>hF b (List.mem_append_right _ hb)⟩
 own_lt:=by
  rintro w cs x F ⟨c,d,G,H,rfl,rfl,h1,h2⟩ b hb
  rcases List.mem_append.1 hb with hb | hb
  ·exact Dat.own_lt h1 b hb
  ·exact Dat.own_lt h2 b hb
 good x:=Dat.good x.1∧Dat.good x.2
 rd_good:=by rintro B w cs x ⟨c,d,rfl,h1,h2⟩;exact⟨Dat.rd_good h1,Dat.rd_good h2⟩
 small n x:=Dat.small n x.1∧Dat.small n x.2
 rd_one:=by rintro B w cs x ⟨c,d,rfl,h1,h2⟩ u hu;exact(List.mem_append.1 hu).elim (Dat.rd_one h1 u) (Dat.rd_one h2 u)
abbrev Dat.pull {σ τ:Type} [Dat τ] (f:σ→τ):Dat σ where
 sz:=Dat.sz τ
 sz_pos':=Dat.sz_pos'
 rd B w cs x:=Dat.rd B w cs (f x)
 rd_len:=Dat.rd_len
 rd_mono:=Dat.rd_mono
 rd_below:=Dat.rd_below
 own w cs x F:=Dat.own w cs (f x) F
 own_rd:=Dat.own_rd
 own_same:=Dat.own_same
 own_lt:=Dat.own_lt
 good x:=Dat.good (f x)
 rd_good:=Dat.rd_good
 small n x:=Dat.small n (f x)
 rd_one:=Dat.rd_one
def SlR {α:Type} [Dat α] (B:Nat→Prop) (w:World) (v:Value) (xs:List α):Prop:=
 ∃ (A:Option Addr) (cap:Nat),v= .slice A xs.length cap∧xs.length≤cap∧cap≤maxLen∧
  (xs≠[]→ ∃ ad,A=some ad∧B ad.block∧ ∀ i x,xs[i]?=some x→ ∃ cs,Dat.rd B w cs x∧CellsAt w (ad.add (i*Dat.sz α)) cs)
def SlO {α:Type} [Dat α] (w:World) (v:Value) (xs:List α) (F:List Nat):Prop:=
 (v= .slice none 0 0∧xs=[]∧F=[]) ∨
 ∃ (g cap:Nat) (arr:Array Value) (T:TypeId) (Fs:List (List Nat)),v= .slice (some ⟨g,0,none⟩) xs.length cap∧w.heap[g]?=some (.cells arr T (0,0))∧xs.length≤cap∧cap≤maxLen∧cap*Dat.sz α≤arr.size∧
  F=g::Fs.flatten∧Fs.length=xs.length∧ ∀ i x,xs[i]?=some x→ ∃ G,Fs[i]?=some G∧Dat.own w ((arr.toList.drop (i*Dat.sz α)).take (Dat.sz α)) x G
theorem SlR.mono {α:Type} [Dat α] {B B':Nat→Prop} {w:World} {v:Value} {xs:List α} (hB: ∀ b,B b→B' b) (h:SlR B w v xs):SlR B' w v xs:=by
 obtain⟨A,cap,rfl,h1,h2,h3⟩:=h
 refine⟨A,cap,rfl,h1,h2,fun hn=>?_⟩
 obtain⟨ad,rfl,hb,hc⟩:=h3 hn
 exact⟨ad,rfl,hB _ hb,fun i x hx=>let ⟨cs,hr,hcs⟩:=hc i x hx;⟨cs,Dat.rd_mono hB hr,hcs⟩⟩
theorem SlR.below {α:Type} [Dat α] {B:Nat→Prop} {w w':World} {v:Value} {xs:List α} (hb:Keep B w w') (h:SlR B w v xs):SlR B w' v xs:=by
 obtain⟨A,cap,rfl,h1,h2,h3⟩:=h
 refine⟨A,cap,rfl,h1,h2,fun hn=>?_⟩
 obtain⟨ad,rfl,hlt,hc⟩:=h3 hn
 exact⟨ad,rfl,hlt,fun i x hx=>let ⟨cs,hr,hcs⟩:=hc i x hx;⟨cs,Dat.rd_below hb hr,hcs.keep hb (by rw[block_add];exact hlt)⟩⟩
theorem mem_flatten_of {Fs:List (List Nat)} {i:Nat} {G:List Nat} (h:Fs[i]?=some G) {b:Nat} (hb:b∈G):b∈Fs.flatten:=
 List.mem_flatten.2 ⟨G,List.mem_of_getElem? h,hb⟩
theorem SlO.rd {α:Type} [Dat α] {B:Nat→Prop} {w:World} {v:Value} {xs:List α} {F:List Nat} (h:SlO w v xs F) (hF: ∀ b∈F,B b):SlR B w v xs:=by
 rcases h with ⟨rfl,rfl,rfl⟩ | ⟨g,cap,arr,T,Fs,rfl,hg,h1,h2,h3,rfl,hl,hx⟩
 ·exact⟨none,0,rfl,by simp,by simp[maxLen],fun h=>absurd rfl h⟩
 ·refine⟨_,cap,rfl,h1,h2,fun _=>⟨_,rfl,hF g (by simp),fun i x hi=>?_⟩⟩
  obtain⟨G,hG,ho⟩:=hx i x hi
  refine⟨_,Dat.own_rd ho fun b hb=>hF b (List.mem_cons_of_mem _ (mem_flatten_of hG hb)),?_⟩
  have hrow:CellsAt w ⟨g,0,none⟩ arr.toList:=CellsAt.row (by simpa using hg)
  exact hrow.part rfl
theorem SlO.same {α:Type} [Dat α] {w w':World} {v:Value} {xs:List α} {F:List Nat} (h:SlO w v xs F) (hF: ∀ b∈F,w'.heap[b]?=w.heap[b]?):SlO w' v xs F:=by
 rcases h with h | ⟨g,cap,arr,T,Fs,rfl,hg,h1,h2,h3,rfl,hl,hx⟩
 ·exact .inl h
 ·refine .inr ⟨g,cap,arr,T,Fs,rfl,(hF g (by simp)).trans hg,h1,h2,h3,rfl,hl,fun i x hi=>?_⟩
  obtain⟨G,hG,ho⟩:=hx i x hi
  exact⟨G,hG,Dat.own_same ho fun b hb=>hF b (List.mem_cons_of_mem _ (mem_flatten_of hG hb))⟩
theorem SlO.lt {α:Type} [Dat α] {w:World} {v:Value} {xs:List α} {F:List Nat} (h:SlO w v xs F): ∀ b∈F,b<w.heap.size:=by
 rcases h with ⟨_,_,rfl⟩ | ⟨g,cap,arr,T,Fs,rfl,hg,h1,h2,h3,rfl,hl,hx⟩
 ·intro b hb;cases hb
 ·intro b hb
  rcases List.mem_cons.1 hb with rfl | hb
  ·exact(Array.getElem?_eq_some_iff.1 hg).1
  ·obtain⟨G,hG,hbG⟩:=List.mem_flatten.1 hb
   obtain⟨i,hi⟩:=List.getElem?_of_mem hG
   have hil:i<xs.length:=by rw[←hl];exact(List.getElem?_eq_some_iff.1 hi).1
   obtain⟨G',hG',ho⟩:=hx i xs[i] (List.getElem?_eq_getElem hil)
   rw[hi] at hG'
   cases hG'
   exact Dat.own_lt ho b hbG
instance {α:Type} [Dat α]:Dat (List α) where
 sz:=1
 sz_pos':=by decide
 rd B w cs xs:= ∃ v,cs=[v]∧SlR B w v xs
 rd_len:=by rintro B w cs x ⟨v,rfl,_⟩;rfl
 rd_mono:=by rintro B B' w cs x h ⟨v,rfl,hv⟩;exact⟨v,rfl,hv.mono h⟩
 rd_below:=by rintro B w w' cs x h ⟨v,rfl,hv⟩;exact⟨v,rfl,hv.below h⟩
 own w cs xs F:= ∃ v,cs=[v]∧SlO w v xs F
 own_rd:=by rintro B w cs x F ⟨v,rfl,hv⟩ hF;exact⟨v,rfl,hv.rd hF⟩
 own_same:=by rintro w w' cs x F ⟨v,rfl,hv⟩ hF;exact⟨v,rfl,hv.same hF⟩
 own_lt:=by rintro w cs x F ⟨v,rfl,hv⟩;exact hv.lt
 good xs:=xs.length≤9223372036854775807∧ ∀ x∈xs,Dat.good x
 rd_good:=by
  rintro B w cs xs ⟨v,rfl,A,cap,_,hl1,hl2,h⟩
  refine⟨by unfold maxLen at hl2;omega,fun x hx=>?_⟩
  obtain⟨ad,_,_,hc⟩:=h (by intro e;rw[e] at hx;cases hx)
  obtain⟨i,hi⟩:=List.getElem?_of_mem hx
  obtain⟨cs,hr,_⟩:=hc i x hi
  exact Dat.rd_good hr
 small n xs:=xs.length≤n∧ ∀ x∈xs,Dat.small n x
 rd_one:=by
  rintro B w cs xs ⟨v,rfl,A,cap,rfl,_⟩ u hu
  simp at hu
  rw[hu]
  rfl
section
variable {α:Type} [Dat α] {B:Nat→Prop} {w:World} {v:Value} {xs:List α}
theorem SlR.form (h:SlR B w v xs): ∃ (A:Option Addr) (cap:Nat),v= .slice A xs.length cap∧xs.length≤9223372036854775807:=by
 obtain⟨A,cap,rfl,h1,h2,_⟩:=h
 exact⟨A,cap,rfl,by unfold maxLen at h2;omega⟩
def nth {α:Type} [Inhabited α] (xs:List α) (k:Nat):α:=xs.getD k default
theorem SlR.elem [Inhabited α] {A:Option Addr} {len cap:Nat} (h:SlR B w (.slice A len cap) xs) {k:Nat} (hk:k<xs.length):
  ∃ ad cs,A=some ad∧len=xs.length∧Dat.rd B w cs (nth xs k)∧CellsAt w (ad.add (k*Dat.sz α)) cs∧B ad.block:=by
 obtain⟨A',cap',he,h1,h2,h3⟩:=h
 simp only[Value.slice.injEq] at he
 obtain⟨rfl,rfl,rfl⟩:=he
 obtain⟨ad,rfl,hb,hc⟩:=h3 (by intro e;rw[e] at hk;simp at hk)
 obtain⟨cs,hr,hcs⟩:=hc k xs[k] (List.getElem?_eq_getElem hk)
 refine⟨ad,cs,rfl,rfl,?_,hcs,hb⟩
 simp only[nth,List.getD_eq_getElem?_getD,List.getElem?_eq_getElem hk,Option.getD_some]
 exact hr
end
structure Ck where
 F:List Nat
 p:World→Prop
section
variable {S:Nat→Prop} {w0 w w':World} {L:List Ck}
end
section
variable {S:Nat→Prop} {w0 w w':World} {L:List Ck}
end
section
variable {P:Program} {ops:Array Oper} {Q:Exit→Act→World→Prop} {n:Nat} {ρ:List (Nat×Value)} {a:Act} {S:Nat→Prop} {w0 w:World} {L:List Ck} {rest:List Oper} {d:Nat} {ty:TypeId} {pos:String} {after:Array Edge}
end
section
variable {P:Program} {ops:Array Oper} {Q:Exit→Act→World→Prop} {n:Nat} {ρ:List (Nat×Value)} {a:Act} {S:Nat→Prop} {w0 w:World} {L:List Ck} {rest:List Oper} {d:Nat} {ty:TypeId} {pos:String} {after:Array Edge}
end
theorem chkOne_size {P:Program} {t:Nat} (h:chkOne P t=true): ∀ w,(sizeOf t).run P w= .ok 1 w:=fun w=>(chkOne_isAgg h w).2
section
variable {P:Program} {ops:Array Oper} {n:Nat} {ρ:List (Nat×Value)} {a:Act} {S:Nat→Prop} {w0 w:World} {L:List Ck} {rest:List Oper} {d:Nat} {op:Op} {ty:TypeId} {pos:String} {after:Array Edge} {R:Act→Prop}
end
section
variable {K:Act→World→Prop} {Q:Exit→Act→World→Prop} {a:Act} {w:World} {id id':Nat}
end
section
variable {P:Program} {Q:Exit→Act→World→Prop} {a:Act} {w:World} {x y:Code}
end
section
variable {P:Program}
def Reads (P:Program) (t:TypeId) (α:Type) [Dat α]:Prop:=
 ∀ {H:Type} {enc:TypeId×Value→H} {W:World} {fuel:Nat} {cs:List Value} {x:DataW H×List MemPlace},DataW.trod enc P W 0 (fun _=>true) true fuel t cs=some x→ ∃ a:α,Dat.rd (Old W) W cs a
theorem reads_int {t:TypeId} (ht:P.underlying t=some (.int .i64)):Reads P t Int:=by
 intro H enc W fuel cs x h
 obtain⟨n,rfl,_,hw⟩:=DataW.trod_int ht h
 refine⟨n,rfl,?_⟩
 simp[Lit.wf,IntKind.min,IntKind.max,IntKind.signed,IntKind.bits] at hw
 unfold I64
 omega
theorem reads_bool {t:TypeId} (ht:P.underlying t=some .bool):Reads P t Bool:=by
 intro H enc W fuel cs x h
 obtain⟨b,rfl,_⟩:=DataW.trod_bool ht h
 exact⟨b,rfl,trivial⟩
theorem reads_string {t:TypeId} (ht:P.underlying t=some .string):Reads P t ByteArray:=by
 intro H enc W fuel cs x h
 obtain⟨s,rfl,_,hs⟩:=DataW.trod_string ht h
 exact⟨s,rfl,hs⟩
theorem choose_list {α:Type} (n:Nat) (p:Nat→α→Prop) (h: ∀ i,i<n→ ∃ a,p i a): ∃ l:List α,l.length=n∧ ∀ i a,l[i]?=some a→p i a:=by
 induction n with
 | zero=>exact⟨[],rfl,fun i a h=>by simp at h⟩
 | succ n ih =>
  obtain⟨l,hl,hp⟩:=ih fun i hi=>h i (by omega)
  obtain⟨a,ha⟩:=h n (by omega)
  refine⟨l++[a],by simp[hl],fun i b hb=>?_⟩
  rw[List.getElem?_append] at hb
  split at hb
  ·exact hp i b hb
  ·rename_i hi
   have:i=n:=by
    have:=(List.getElem?_eq_some_iff.1 hb).1
    simp at this
    omega
   subst this
   simp[hl] at hb
   subst hb
   exact ha
theorem reads_slice {t e sz bytes:Nat} {α:Type} [Dat α] (ht:chkSlice P t e sz bytes=true) (hsz:P.cellsOf e=Dat.sz α) (he:Reads P e α):Reads P t (List α):=by
  intro H enc W fuel cs x h
  rcases Deep.open_slice (chkSlice_spec ht).1 h with ⟨rfl,_⟩ | ⟨a,len,cap,m,n,D,Pl,rfl,hb,hl,hm,hmm,_,hx⟩
  · exact⟨[],_,rfl,none,0,rfl,by simp,by simp[maxLen],fun h=>absurd rfl h⟩
  · have hlm : len ≤ m := by simp at hmm; omega
    obtain ⟨l, hll, hp⟩ := choose_list (α := α) len (fun i a' => ∃ cs, Dat.rd (Old W) W cs a' ∧ CellsAt W (a.add (i * Dat.sz α)) cs) (fun i hi => by
      obtain⟨cs',h1,h2⟩:=hx i (by omega)
      obtain⟨a',ha'⟩:=he h2
      obtain⟨_,hlen,hc⟩:=World.cells?_some h1
      refine⟨a',cs',ha',fun j v hv=>?_⟩
      rw[←hsz,hc j (by have:=(List.getElem?_eq_some_iff.1 hv).1;omega)]
      exact hv)
    refine⟨l,_,rfl,some a,cap,by rw[hll],by omega,hm,fun hn=>⟨a,rfl,?_,hp⟩⟩
    have hpos:0<len:=by rw[←hll];exact List.length_pos_iff.2 hn
    obtain⟨cs',h1,h2⟩:=hx 0 (by omega)
    obtain⟨_,hlen,hc⟩:=World.cells?_some h1
    obtain⟨a',ha'⟩:=he h2
    have hszp:0<P.cellsOf e∨P.cellsOf e=0:=by omega
    rcases hszp with hp0 | hp0
    · have h0 := hc 0 hp0
      cases hv:cs'[0]? with
      | none=>rw[List.getElem?_eq_none_iff] at hv;omega
      | some u =>
        rw[hv] at h0
        have:=World.block_lt_of_cell? W _ h0
        simpa [block_add] using this
    · exact absurd hp0 (by rw[hsz];exact Nat.pos_iff_ne_zero.1 (Dat.sz_pos α))
theorem rd_pair {α β:Type} [Dat α] [Dat β] {B:Nat→Prop} {w:World} {cs:List Value} {o:Nat} {x:α} {y:β} (h1:Dat.rd B w ((cs.drop o).take (Dat.sz α)) x) (h2:Dat.rd B w ((cs.drop (o+Dat.sz α)).take (Dat.sz β)) y):
  Dat.rd B w ((cs.drop o).take (Dat.sz (α×β))) (x,y):=by
 refine⟨_,_,?_,h1,h2⟩
 show(cs.drop o).take (Dat.sz α+Dat.sz β)=_
 rw[List.take_add,List.drop_drop]
theorem reads_field {t f o:Nat} {α:Type} [Dat α] {fd:TypeId} (hc:chkFieldT P t f o fd (Dat.sz α)=true) (he:Reads P fd α) {H:Type} {enc:TypeId×Value→H} {W:World} {fuel:Nat} {cs:List Value} {x:DataW H×List MemPlace}
  (h:DataW.trod enc P W 0 (fun _=>true) true fuel t cs=some x): ∃ a:α,Dat.rd (Old W) W ((cs.drop o).take (Dat.sz α)) a:=by
 obtain⟨fs,fld,hu,hf,ho,hfd,hsz⟩:=chkFieldT_spec hc
 obtain⟨xs,n,_,_,_,hlen,hx⟩:=DataW.trod_struct hu h
 have:=hx f fld hf
 have hlt:f<xs.length:=by rw[hlen];exact(Array.getElem?_eq_some_iff.1 hf).1
 rw[List.getElem?_eq_getElem hlt,ho,hfd,hsz] at this
 exact he this
theorem struct_len {t n:Nat} (hc:chkAgg P t n=true) {fs:Array Field} (hu:P.underlying t=some (.struct fs)) {H:Type} {enc:TypeId×Value→H} {W:World} {fuel:Nat} {cs:List Value} {x:DataW H×List MemPlace}
  (h:DataW.trod enc P W 0 (fun _=>true) true fuel t cs=some x):cs.length=n:=by
 obtain⟨_,_,_,_,hl,_⟩:=DataW.trod_struct hu h
 rw[hl]
 unfold chkAgg at hc
 simp only[Bool.and_eq_true] at hc
 cases hi:P.info? t with
 | none=>rw[hi] at hc;simp at hc
 | some i =>
  rw[hi] at hc
  simp[Program.cellsOf,hi,Nat.eq_of_beq_eq_true hc.2]
end
end Go.Proofs.YtapfpflmcgfbkaaGreatDoor.Fw

namespace Go.Proofs.YtapfpflmcgfbkaaGreatDoor.Fw
structure Cell where
 Key:ByteArray
 Val:ByteArray
 deriving Inhabited,DecidableEq
instance:Dat Cell:=Dat.pull fun x=>(x.Key,x.Val)
theorem Cell_open {B:Nat→Prop} {w:World} {cs:List Value} {x:Cell} (h:Dat.rd B w cs x):cs=[.string x.Key,.string x.Val]∧x.Key.size≤maxLen∧x.Val.size≤maxLen∧True:=by
 obtain⟨c0,d0,rfl,⟨rfl,h_Key⟩,⟨rfl,h_Val⟩⟩:=h
 exact⟨rfl,h_Key,h_Val,trivial⟩
theorem Cell_mk {B:Nat→Prop} {w:World} {x:Cell}  (h0:x.Key.size≤maxLen) (h1:x.Val.size≤maxLen):Dat.rd B w [.string x.Key,.string x.Val] x:=by
 exact⟨[.string x.Key],_,rfl,⟨rfl,h0⟩,⟨rfl,h1⟩⟩
structure Touch where
 Reads:List ByteArray
 Writes:List ByteArray
 deriving Inhabited,DecidableEq
instance:Dat Touch:=Dat.pull fun x=>(x.Reads,x.Writes)
structure Mach where
 Store:List Cell
 Touch:Touch
 deriving Inhabited,DecidableEq
instance:Dat Mach:=Dat.pull fun x=>(x.Store,x.Touch)
structure Call where
 Kind:Int
 Name:ByteArray
 To:ByteArray
 A:Int
 B:Int
 Text:ByteArray
 deriving Inhabited,DecidableEq
instance:Dat Call:=Dat.pull fun x=>(x.Kind,x.Name,x.To,x.A,x.B,x.Text)
structure Answer where
 Code:Int
 N:Int
 Text:ByteArray
 deriving Inhabited,DecidableEq
instance:Dat Answer:=Dat.pull fun x=>(x.Code,x.N,x.Text)
structure Step where
 Proc:Int
 Call:Call
 deriving Inhabited,DecidableEq
instance:Dat Step:=Dat.pull fun x=>(x.Proc,x.Call)
structure Tx where
 Id:Int
 Age:Int
 Proc:Int
 Began:Int
 Calls:List Call
 Answers:List Answer
 Touch:Touch
 Marks:List Int
 State:Int
 deriving Inhabited,DecidableEq
instance:Dat Tx:=Dat.pull fun x=>(x.Id,x.Age,x.Proc,x.Began,x.Calls,x.Answers,x.Touch,x.Marks,x.State)
structure Journal where
 Text:ByteArray
 Sure:Int
 deriving Inhabited,DecidableEq
instance:Dat Journal:=Dat.pull fun x=>(x.Text,x.Sure)
structure Slot where
 Seq:Int
 Cells:List Cell
 Whole:Bool
 deriving Inhabited,DecidableEq
instance:Dat Slot:=Dat.pull fun x=>(x.Seq,x.Cells,x.Whole)
structure Disk where
 Slots:List Slot
 Journal:Journal
 deriving Inhabited,DecidableEq
instance:Dat Disk:=Dat.pull fun x=>(x.Slots,x.Journal)
structure Entry where
 Seq:Int
 Kind:Int
 Tx:Int
 Steps:List Step
 Answers:List Answer
 Began:Int
 Ended:Int
 Laid:Bool
 deriving Inhabited,DecidableEq
instance:Dat Entry:=Dat.pull fun x=>(x.Seq,x.Kind,x.Tx,x.Steps,x.Answers,x.Began,x.Ended,x.Laid)
structure Kernel where
 Store:List Cell
 Txs:List Tx
 Disk:Disk
 Seq:Int
 Next:Int
 Time:Int
 History:List Entry
 Seen:List ByteArray
 Room:Bool
 deriving Inhabited,DecidableEq
instance:Dat Kernel:=Dat.pull fun x=>(x.Store,x.Txs,x.Disk,x.Seq,x.Next,x.Time,x.History,x.Seen,x.Room)
structure Deed where
 Kind:Int
 N:Int
 M:Int
 Call:Call
 deriving Inhabited,DecidableEq
instance:Dat Deed:=Dat.pull fun x=>(x.Kind,x.N,x.M,x.Call)
end Go.Proofs.YtapfpflmcgfbkaaGreatDoor.Fw

namespace Go.Proofs.YtapfpflmcgfbkaaGreatDoor.Fw
open Go.RowKit
set_option linter.unusedVariables false
abbrev cut (sz:Nat) (l:List Value) (i:Nat):List Value:=(l.drop (i*sz)).take sz
theorem cut_append_left {sz n i:Nat} {l r:List Value} (hl:l.length=n*sz) (hi:i<n):cut sz (l++r) i=cut sz l i:=by
 unfold cut
 have h1:i*sz+sz≤n*sz:=by have:(i+1)*sz≤n*sz:=Nat.mul_le_mul_right _ hi;rw[Nat.add_mul] at this;omega
 rw[List.drop_append_of_le_length (by omega),List.take_append_of_le_length (by rw[List.length_drop];omega)]
theorem cut_append_right {sz n i:Nat} {l r:List Value} (hl:l.length=n*sz) (hi:n≤i):cut sz (l++r) i=cut sz r (i - n):=by
 unfold cut
 have h1:n*sz≤i*sz:=Nat.mul_le_mul_right _ hi
 rw[List.drop_append,List.drop_eq_nil_of_le (by omega),List.nil_append,hl,←Nat.sub_mul]
theorem cut_take {sz n i:Nat} {l:List Value} (hi:i<n):cut sz (l.take (n*sz)) i=cut sz l i:=by
 unfold cut
 have h1:i*sz+sz≤n*sz:=by have:(i+1)*sz≤n*sz:=Nat.mul_le_mul_right _ hi;rw[Nat.add_mul] at this;omega
 rw[List.drop_take,List.take_take,Nat.min_eq_left (by omega)]
def Elems {α:Type} [Dat α] (w:World) (l:List Value) (xs:List α) (Fs:List (List Nat)):Prop:=
 Fs.length=xs.length∧ ∀ i x,xs[i]?=some x→ ∃ G,Fs[i]?=some G∧Dat.own w (cut (Dat.sz α) l i) x G
section
variable {α:Type} [Dat α] {w w':World} {l:List Value} {xs ys:List α} {Fs Gs:List (List Nat)}
theorem Elems.nil:Elems w l ([]:List α) []:=⟨rfl,fun i x h=>by simp at h⟩
theorem Elems.same (h:Elems w l xs Fs) (hs: ∀ b∈Fs.flatten,w'.heap[b]?=w.heap[b]?):Elems w' l xs Fs:=
 ⟨h.1,fun i x hi=>let ⟨G,hG,ho⟩:=h.2 i x hi;⟨G,hG,Dat.own_same ho fun b hb=>hs b (mem_flatten_of hG hb)⟩⟩
theorem Elems.lt (h:Elems w l xs Fs): ∀ b∈Fs.flatten,b<w.heap.size:=by
 intro b hb
 obtain⟨G,hG,hbG⟩:=List.mem_flatten.1 hb
 obtain⟨i,hi⟩:=List.getElem?_of_mem hG
 have hil:i<xs.length:=by rw[←h.1];exact(List.getElem?_eq_some_iff.1 hi).1
 obtain⟨G',hG',ho⟩:=h.2 i xs[i] (List.getElem?_eq_getElem hil)
 rw[hi] at hG'
 cases hG'
 exact Dat.own_lt ho b hbG
theorem Elems.app {l' r:List Value} (h:Elems w l xs Fs) (h':Elems w l' ys Gs) (hr:r.take ((xs.length+ys.length)*Dat.sz α)=l.take (xs.length*Dat.sz α)++l') (hl:xs.length*Dat.sz α≤l.length):Elems w r (xs++ys) (Fs++Gs):=by
 refine⟨by rw[List.length_append,List.length_append,h.1,h'.1],fun i x hi=>?_⟩
 have hlen:(l.take (xs.length*Dat.sz α)).length=xs.length*Dat.sz α:=by rw[List.length_take];omega
 have hix:i<xs.length+ys.length:=by have:=(List.getElem?_eq_some_iff.1 hi).1;simpa using this
 have hcut:cut (Dat.sz α) r i=cut (Dat.sz α) (l.take (xs.length*Dat.sz α)++l') i:=by rw[←hr,cut_take hix]
 rw[List.getElem?_append] at hi
 split at hi
 ·rename_i hlt
  obtain⟨G,hG,ho⟩:=h.2 i x hi
  refine⟨G,?_,?_⟩
  ·rw[List.getElem?_append_left (by rw[h.1];exact hlt)];exact hG
  ·rw[hcut,cut_append_left hlen hlt,cut_take hlt];exact ho
 ·rename_i hge
  obtain⟨G,hG,ho⟩:=h'.2 _ x hi
  refine⟨G,?_,?_⟩
  ·rw[List.getElem?_append_right (by rw[h.1];omega),h.1];exact hG
  ·rw[hcut,cut_append_right hlen (by omega)];exact ho
theorem SlO_iff {v:Value} {F:List Nat}:SlO w v xs F↔(v= .slice none 0 0∧xs=[]∧F=[]) ∨
 ∃ (g cap:Nat) (arr:Array Value) (T:TypeId) (Fs:List (List Nat)),v= .slice (some ⟨g,0,none⟩) xs.length cap∧w.heap[g]?=some (.cells arr T (0,0))∧xs.length≤cap∧cap≤maxLen∧cap*Dat.sz α≤arr.size∧
  F=g::Fs.flatten∧Elems w arr.toList xs Fs:=Iff.rfl
end
section
variable {P:Program} {α:Type} [Dat α] {w:World}
def Src (w:World) (s:Value) (m:Nat) (news:List Value):Prop:=
 ∃ (S:Option Addr) (c:Nat),s= .slice S m c∧ ∀ j u,news[j]?=some u→ ∃ a,S=some a∧w.cell? (a.add j)=some u
theorem Src.first {s:Value} {m size:Nat} {news:List Value} (h:Src w s m news) (hl:news.length=m*size):(Builtin.firstCells size m s).run P w= .ok news.toArray w:=by
 obtain⟨S,c,rfl,hc⟩:=h
 cases S with
 | none =>
  have:news=[]:=by
   cases news with
   | nil=>rfl
   | cons u r=>obtain⟨a,ha,_⟩:=hc 0 u rfl;cases ha
  subst this
  simp[Builtin.firstCells]
 | some a =>
  refine run_firstCells_some (P:=P) w size m a m c news hl fun j v hv=>?_
  obtain⟨a',ha,hcell⟩:=hc j v hv
  cases ha
  exact hcell
theorem run_app {t e ty sz bytes:Nat} {z:Value} (ht:chkSlice P t e sz bytes=true) (hsz:sz=Dat.sz α) (hz: ∀ w,(zeroValue e).run P w= .ok z w) (hzs:z.cells.size=sz) {v s:Value} {xs ys:List α} {F:List Nat} (hv:SlO w v xs F) (hF:F.Nodup)
  {news:List Value} {Gs:List (List Nat)} (hs:Src w s ys.length news) (hl:news.length=ys.length*Dat.sz α) (h1: ∀ u∈news,u.oneCell'=true) (hy:Elems w news ys Gs) (hG:Gs.flatten.Nodup) (hdis: ∀ b∈Gs.flatten,b ∉ F)
  (hb:(xs.length+ys.length)*bytes≤140737488355328) (hm:xs.length+ys.length≤maxLen):
  ∃ v' w' F',(Builtin.append_ #[t,t] ty #[v,s]).run P w= .ok v' w'∧SlO w' v' (xs++ys) F'∧F'.Nodup∧w'.os=w.os∧w'.tape=w.tape∧w'.output=w.output∧w.heap.size≤w'.heap.size∧
   (∀ b,b<w.heap.size→b ∉ F→w'.heap[b]?=w.heap[b]?)∧(∀ b∈F',b∈F∨b∈Gs.flatten∨w.heap.size≤b):=by
 obtain⟨hu,i,hi,his,hib⟩:=chkSlice_spec ht
 have hzi:i.zero=some z:=by
  have:=hz w
  simp only[zeroValue,Sem.run_bind,typeInfo,run_program,hi,Sem.run_pure,Result.andThen_ok] at this
  cases hzz:i.zero with
  | none=>rw[hzz] at this;simp at this
  | some z'=>rw[hzz] at this;simp at this;rw[this]
 have hfirst:=hs.first (P:=P) hl
 have hfirst2:=Src.first (P:=P) (w:=w.drew) (show Src w.drew s ys.length news from hs) hl
 obtain⟨S,c,rfl,_⟩:=id hs
 subst his
 have hszp:0<Dat.sz α:=Dat.sz_pos α
 have grow: ∀ (old:Nat) (olds:List Value) (Fs:List (List Nat)),old<xs.length+ys.length→olds.length=xs.length*Dat.sz α→Elems w olds xs Fs→(Fs.flatten++Gs.flatten).Nodup→(∀ b∈Fs.flatten,b∈F)→
   ∀ v' w',v'= .slice (some ⟨w.heap.size,0,none⟩) (xs.length+ys.length) (grownCap w (xs.length+ys.length) old e)→
    w'=w.drew.alloc (.cells (olds.toArray++news.toArray++Builtin.zeroCells z.cells (grownCap w (xs.length+ys.length) old e - (xs.length+ys.length))) e)→
    ∃ F',SlO w' v' (xs++ys) F'∧F'.Nodup∧w'.os=w.os∧w'.tape=w.tape∧w'.output=w.output∧w.heap.size≤w'.heap.size∧
     (∀ b,b<w.heap.size→b ∉ F→w'.heap[b]?=w.heap[b]?)∧(∀ b∈F',b∈F∨b∈Gs.flatten∨w.heap.size≤b):=by
  intro old olds Fs ho hlo hels hnd hsub v' w' ev ew
  subst ev
  subst ew
  have hge:=grownCap_ge w (xs.length+ys.length) old e
  have hcm:=grownCap_le_maxLen w (xs.length+ys.length) old e hm
  have hsame: ∀ (b:Nat),b<w.heap.size→(w.drew.alloc (.cells (olds.toArray++news.toArray++Builtin.zeroCells z.cells (grownCap w (xs.length+ys.length) old e - (xs.length+ys.length))) e)).heap[b]?=w.heap[b]?:=fun b hb=>heap_alloc_old w.drew _ hb
  have hltF:=hels.lt
  have hltG:=hy.lt
  refine⟨w.heap.size::(Fs++Gs).flatten,?_,?_,rfl,rfl,rfl,by simp,fun b hb _=>hsame b hb,?_⟩
  ·refine SlO_iff.2 (.inr ⟨w.heap.size,_,_,e,Fs++Gs,by rw[List.length_append],heap_alloc_new w.drew _,by rw[List.length_append];exact hge,hcm,?_,rfl,?_⟩)
   ·simp only[Array.size_append,List.size_toArray,size_zeroCells,hzs,hlo,hl,hsz]
    rw[←Nat.add_mul,←Nat.add_mul]
    exact Nat.mul_le_mul_right _ (by omega)
   ·refine(hels.same fun b hb=>hsame b (hltF b hb)).app (hy.same fun b hb=>hsame b (hltG b hb)) (l':=news) ?_ (by omega)
    simp only[Array.toList_append,List.append_assoc]
    rw[←List.append_assoc,List.take_append_of_le_length (by rw[List.length_append,hlo,hl,Nat.add_mul];exact Nat.le_refl _),List.take_of_length_le (by rw[List.length_append,hlo,hl,Nat.add_mul];exact Nat.le_refl _),
     List.take_of_length_le (by rw[hlo];exact Nat.le_refl _)]
  ·rw[List.flatten_append]
   refine List.nodup_cons.2 ⟨fun hb=>?_,hnd⟩
   rcases List.mem_append.1 hb with hb | hb
   ·exact absurd (hltF _ hb) (by omega)
   ·exact absurd (hltG _ hb) (by omega)
  ·intro b hb
   rw[List.flatten_append] at hb
   rcases List.mem_cons.1 hb with rfl | hb
   ·exact .inr (.inr (Nat.le_refl _))
   ·rcases List.mem_append.1 hb with hb | hb
    ·exact .inl (hsub b hb)
    ·exact .inr (.inl hb)
 rcases SlO_iff.1 hv with ⟨rfl,rfl,rfl⟩ | ⟨g,cap,arr,T,Fs,rfl,hg,hlc,hcm,hsize,rfl,hels⟩
 ·by_cases h0:ys.length=0
  ·have:ys=[]:=List.eq_nil_of_length_eq_zero h0
   subst this
   refine⟨.slice none 0 0,w,[],?_,SlO_iff.2 (.inl ⟨rfl,rfl,rfl⟩),by simp,rfl,rfl,rfl,Nat.le_refl _,fun _ _ _=>rfl,fun b hb=>by cases hb⟩
   simp only[List.length_nil] at hfirst ⊢
   simp[Builtin.append_,run_underlying hu,sizeOf,typeInfo,hi,Builtin.lenOf,hsz,hfirst]
  ·obtain⟨F',h⟩:=grow 0 [] [] (by simp;omega) (by simp) Elems.nil (by simpa using hG) (by simp) _ _ rfl rfl
   refine⟨_,_,F',?_,h⟩
   have h63': ¬ (9223372036854775807<(ys.length:Int)):=by simp only[List.length_nil,Nat.zero_add,maxLen] at hm;omega
   have h48': ¬ (281474976710656<Builtin.nextslicecap ys.length 0*i.bytes):=by rw[nextslicecap_zero (by omega),hib];simp only[List.length_nil,Nat.zero_add] at hb;omega
   simp only[List.length_nil,Nat.zero_add,Array.empty_append,List.toArray]
   simp[Builtin.append_,run_underlying hu,sizeOf,typeInfo,hi,hzi,Builtin.lenOf,hsz,hfirst2,h0,h63',h48',zeroValue,grownCap,run_firstCells_none,newRow,Question.forced]
 ·have hal:arr.toList.length=arr.size:=Array.length_toList
  by_cases hroom:xs.length+ys.length≤cap
  ·have hcut:(xs.length+ys.length)*Dat.sz α≤arr.size:=Nat.le_trans (Nat.mul_le_mul_right _ hroom) hsize
   rw[Nat.add_mul] at hcut
   have hst:=run_storeCells_at P g (xs.length*Dat.sz α) T news 0 arr w hg (by omega) h1
   simp only[Nat.add_zero] at hst
   have hother: ∀ b,b≠g→(w.setRow g (arr.toList.take (xs.length*Dat.sz α)++news++arr.toList.drop (xs.length*Dat.sz α+news.length)).toArray).heap[b]?=w.heap[b]?:=fun b hb=>setRow_other w g b _ hb
   have hnd:=hF
   rw[List.nodup_cons] at hnd
   refine⟨_,_,g::(Fs++Gs).flatten,?_,SlO_iff.2 (.inr ⟨g,cap,_,T,Fs++Gs,rfl,setRow_heap w g arr _ T _ hg,by rw[List.length_append];exact hroom,hcm,?_,rfl,?_⟩),?_,rfl,rfl,rfl,by simp,fun b _ hb=>hother b (fun e=>hb (by simp[e])),?_⟩
   ·rw[List.length_append]
    simp[Builtin.append_,run_underlying hu,sizeOf,typeInfo,hi,Builtin.lenOf,hroom,hsz,hfirst,Addr.add_lit,hst]
   ·simp only[List.size_toArray,List.length_append,List.length_take,List.length_drop,hal]
    omega
   ·refine(hels.same fun b hb=>hother b (fun e=>hnd.1 (e▸hb))).app (hy.same fun b hb=>hother b (fun e=>hdis b hb (by simp[e]))) (l':=news) ?_ (by rw[hal];omega)
    rw[List.append_assoc,←List.append_assoc,List.take_append_of_le_length (by rw[List.length_append,List.length_take,hal,hl,Nat.add_mul];omega),List.take_of_length_le (by rw[List.length_append,List.length_take,hal,hl,Nat.add_mul];omega)]
   ·rw[List.flatten_append]
    refine List.nodup_cons.2 ⟨fun hb=>?_,List.nodup_append.2 ⟨hnd.2,hG,fun a ha b hb'=>?_⟩⟩
    ·rcases List.mem_append.1 hb with hb | hb
     ·exact hnd.1 hb
     ·exact hdis g hb (by simp)
    ·rintro rfl
     exact hdis a hb' (List.mem_cons_of_mem _ ha)
   ·intro b hb
    rw[List.flatten_append] at hb
    rcases List.mem_cons.1 hb with rfl | hb
    ·exact .inl (by simp)
    ·rcases List.mem_append.1 hb with hb | hb
     ·exact .inl (List.mem_cons_of_mem _ hb)
     ·exact .inr (.inl hb)
  ·have hnd:=hF
   rw[List.nodup_cons] at hnd
   have hsz':xs.length*Dat.sz α≤arr.size:=Nat.le_trans (Nat.mul_le_mul_right _ hlc) hsize
   have hlo:(arr.toList.take (xs.length*Dat.sz α)).length=xs.length*Dat.sz α:=by rw[List.length_take,hal];omega
   have hels' : Elems w (arr.toList.take (xs.length * Dat.sz α)) xs Fs := ⟨hels.1, fun i x hi => by
    obtain⟨G,hG,ho⟩:=hels.2 i x hi
    refine⟨G,hG,?_⟩
    rw[cut_take ((List.getElem?_eq_some_iff.1 hi).1)]
    exact ho⟩
   obtain⟨F',h⟩:=grow cap (arr.toList.take (xs.length*Dat.sz α)) Fs (by omega) hlo hels' (List.nodup_append.2 ⟨hnd.2,hG,fun a ha b hb'=>by rintro rfl;exact hdis a hb' (List.mem_cons_of_mem _ ha)⟩) (fun b hb=>List.mem_cons_of_mem _ hb) _ _ rfl rfl
   refine⟨_,_,F',?_,h⟩
   have hrow:CellsAt w ⟨g,0,none⟩ arr.toList:=CellsAt.row (by simpa using hg)
   have holds : ∀ j u, (arr.toList.take (xs.length * Dat.sz α))[j]? = some u → w.cell? ((⟨g, 0, none⟩ : Addr).add j) = some u := fun j u hj => by
    rw[List.getElem?_take] at hj
    split at hj
    ·exact hrow j u hj
    ·cases hj
   have hf2:=run_firstCells_some (P:=P) w.drew (Dat.sz α) xs.length ⟨g,0,none⟩ xs.length cap _ hlo holds
   have h63': ¬ (9223372036854775807<((xs.length:Int)+(ys.length:Int))):=by simp only[maxLen] at hm;omega
   have h48': ¬ (281474976710656<Builtin.nextslicecap (xs.length+ys.length) cap*i.bytes):=by have:=growslice_fits (old:=cap) (need:=xs.length+ys.length) (bytes:=i.bytes) (by omega) (by rw[hib];exact hb);omega
   have hng: ¬ (xs.length+ys.length≤cap):=hroom
   simp[Builtin.append_,run_underlying hu,sizeOf,typeInfo,hi,hzi,Builtin.lenOf,hsz,hfirst2,hf2,hng,h63',h48',zeroValue,grownCap,newRow,Question.forced]
   congr 2
   apply Array.ext'
   simp[List.append_assoc]
end
section
variable {S:Nat→Prop} {w0 w w':World} {L:List Ck}
end
section
variable {P:Program} {ops:Array Oper} {Q:Exit→Act→World→Prop} {n:Nat} {ρ:List (Nat×Value)} {a:Act} {S:Nat→Prop} {w0 w:World} {L:List Ck} {rest:List Oper} {d:Nat} {ty:TypeId} {pos:String} {after:Array Edge}
end
section
variable {S:Nat→Prop} {w0 w:World} {L:List Ck}
theorem SlO.form {α:Type} [Dat α] {v:Value} {xs:List α} {F:List Nat} (h:SlO w v xs F): ∃ (A:Option Addr) (cap:Nat),v= .slice A xs.length cap∧xs.length≤9223372036854775807:=
 (h.rd (B:=Old w) fun b hb=>h.lt b hb).form
end
section
variable {P:Program} {ops:Array Oper} {Q:Exit→Act→World→Prop} {n:Nat} {ρ:List (Nat×Value)} {a:Act} {S:Nat→Prop} {w0 w:World} {L:List Ck} {rest:List Oper} {d:Nat} {ty:TypeId} {pos:String} {after:Array Edge}
end
section
variable {α:Type} [Dat α] {B:Nat→Prop} {w:World} {A:Option Addr} {cap:Nat} {xs:List α}
theorem SlR.take (h:SlR B w (.slice A xs.length cap) xs) (k:Nat):SlR B w (.slice A (xs.take k).length cap) (xs.take k):=by
 obtain⟨A',cap',he,h1,h2,h3⟩:=h
 simp only[Value.slice.injEq] at he
 obtain⟨rfl,_,rfl⟩:=he
 refine⟨A,cap,rfl,by rw[List.length_take];omega,h2,fun hn=>?_⟩
 obtain⟨ad,rfl,hb,hc⟩:=h3 (by intro e;rw[e] at hn;simp at hn)
 refine⟨ad,rfl,hb,fun i x hi=>hc i x ?_⟩
 rw[List.getElem?_take] at hi
 split at hi
 ·exact hi
 ·cases hi
theorem SlR.drop (h:SlR B w (.slice A xs.length cap) xs) {k:Nat} (hk:k≤xs.length):
  SlR B w (.slice (if cap=k then A else A.map (·.add (k*Dat.sz α))) (xs.drop k).length (cap - k)) (xs.drop k):=by
 obtain⟨A',cap',he,h1,h2,h3⟩:=h
 simp only[Value.slice.injEq] at he
 obtain⟨rfl,_,rfl⟩:=he
 refine⟨_,_,rfl,by rw[List.length_drop];omega,by omega,fun hn=>?_⟩
 have hlt:k<xs.length:=by
  rcases Nat.lt_or_ge k xs.length with h | h
  ·exact h
  ·exact absurd (List.drop_eq_nil_of_le h) hn
 obtain⟨ad,rfl,hb,hc⟩:=h3 (by intro e;rw[e] at hlt;simp at hlt)
 rw[if_neg (by omega)]
 refine⟨ad.add (k*Dat.sz α),rfl,by rw[block_add];exact hb,fun i x hi=>?_⟩
 rw[List.getElem?_drop] at hi
 obtain⟨cs,hr,hcs⟩:=hc _ x hi
 refine⟨cs,hr,?_⟩
 rw[add_add,←Nat.add_mul]
 exact hcs
end
section
variable {P:Program} {n:Nat} {ρ:List (Nat×Value)} {a:Act} {w:World} {ty:TypeId}
end
theorem SlR_cap {α:Type} [Dat α] {B:Nat→Prop} {w:World} {A:Option Addr} {len cap:Nat} {xs:List α} (h:SlR B w (.slice A len cap) xs):xs.length≤cap∧len=xs.length:=by
 obtain⟨A',cap',he,h1,h2,h3⟩:=h
 simp only[Value.slice.injEq] at he
 obtain⟨rfl,rfl,rfl⟩:=he
 exact⟨h1,rfl⟩
def chkArr (P:Program) (t n e:Nat):Bool:=
 (match P.underlying t with | some (.array n' e')=>Nat.beq n' n&&Nat.beq e' e | _=>false)&&chkOne P e
theorem y_index_arr {P:Program} {n:Nat} {ρ:List (Nat×Value)} {a:Act} {w:World} {ty:TypeId} {α:Type} [Inhabited α] (mk:α→Value) (hE:Env n ρ a) {x y:Operand} {t len e:Nat} {cs:List Value} {xs:List α} {i:Int} {k:Nat} (hx:ev? ρ x=some (.agg cs.toArray)) (hcs:cs=xs.map mk)
  (hy:ev? ρ y=some (.int .i64 i)) (hi:i=k) (hk:k<xs.length) (ht:chkArr P t len e=true) (hlen:xs.length=len):Yields P a w (.index t x y) ty (mk (nth xs k)):=by
 intro _ _ _ _
 unfold chkArr at ht
 simp only[Bool.and_eq_true] at ht
 obtain⟨h1,h2⟩:=ht
 have hu:P.underlying t=some (.array len e):=by
  cases hu:P.underlying t with
  | none=>simp[hu] at h1
  | some d =>
   cases d with
   | array n' e'=>rw[hu] at h1;simp only[Bool.and_eq_true] at h1;rw[Nat.eq_of_beq_eq_true h1.1,Nat.eq_of_beq_eq_true h1.2]
   | _=>simp[hu] at h1
 subst hi
 subst hcs
 have hb:(0:Int)≤(k:Int)∧(k:Int)<(len:Int):=by omega
 have hget:(xs.map mk)[k]?=some (mk (nth xs k)):=by
  simp[nth,List.getD_eq_getElem?_getD,List.getElem?_eq_getElem hk]
 have hget':(xs.map mk).toArray[k]?=some (mk (nth xs k)):=by simpa using hget
 simp only[execOp,hE.eval hx,hE.eval hy,Instr.index,asIntOf,Sem.run_bind,Sem.run_pure,Result.andThen_ok,run_underlying hu,hb,and_self,if_true,(chkOne_isAgg h2 w).2,part,(chkOne_isAgg h2 w).1,Int.toNat_natCast,Nat.mul_one,Bool.false_eq_true,if_false,hget']
section
variable {P:Program}
theorem bt_inj (a b:ByteArray):(a.toList=b.toList)=(a=b):=by
 rw[ByteArray.toList_eq,ByteArray.toList_eq]
 obtain⟨⟨x⟩⟩:=a
 obtain⟨⟨y⟩⟩:=b
 simp
end
section
variable {S:Nat→Prop} {w0 w:World} {L:List Ck}
end
section
variable {P:Program} {ops:Array Oper} {n:Nat} {ρ:List (Nat×Value)} {a:Act} {w:World} {S:World→Prop} {K:Act→World→Prop} {d:Nat} {op:Op} {ty:TypeId} {pos:String} {after:Array Edge} {fuel:Nat} {listed:Array Bool}
end
section
variable {P:Program} {ops:Array Oper} {Q:Exit→Act→World→Prop} {n:Nat} {ρ:List (Nat×Value)} {a:Act} {S:Nat→Prop} {w0 w:World} {L:List Ck} {rest:List Oper} {d:Nat} {ty:TypeId} {pos:String} {after:Array Edge}
end
end Go.Proofs.YtapfpflmcgfbkaaGreatDoor.Fw

namespace Go.Proofs.YtapfpflmcgfbkaaGreatDoor.Fw
open Go.RowKit
set_option linter.unusedVariables false
set_option linter.unusedSimpArgs false
set_option linter.unusedSectionVars false
section
variable {S:Nat→Prop} {w0 w:World} {L:List Ck}
end
section
variable {α:Type} [Dat α] [Inhabited α] {S:Nat→Prop} {w0 w:World} {L:List Ck} {xs:List α}
end
theorem addr_row (g i:Nat):(⟨g,0,none⟩:Addr).add i=⟨g,i,none⟩:=by
 unfold Addr.add
 split<;>simp_all
section
variable {P:Program} {ops:Array Oper} {Q:Exit→Act→World→Prop} {n:Nat} {ρ:List (Nat×Value)} {a:Act} {S:Nat→Prop} {w0 w:World} {L:List Ck} {rest:List Oper} {d:Nat} {ty:TypeId} {pos:String} {after:Array Edge}
end
section
variable {S:Nat→Prop} {w0 w w':World} {M M' R:List Ck}
end
section
variable {P:Program} {ops:Array Oper} {Q:Exit→Act→World→Prop} {n:Nat} {ρ:List (Nat×Value)} {a:Act} {S:Nat→Prop} {w0 w:World} {L:List Ck} {rest:List Oper} {d:Nat} {ty:TypeId} {pos:String} {after:Array Edge}
end
theorem I64_wrap (x:Int):I64 (IntKind.i64.wrap x):=by
 unfold I64
 rw[IntKind.wrap_i64]
 omega
section
variable {P:Program} {n:Nat} {ρ:List (Nat×Value)} {a:Act} {w:World} {ty:TypeId}
end
theorem y_neg {P:Program} {n:Nat} {ρ:List (Nat×Value)} {a:Act} {w:World} {ty:TypeId} (hE:Env n ρ a) {x:Operand} {t:Nat} {k:IntKind} {i:Int} (hx:ev? ρ x=some (.int k i)):Yields P a w (.unOp .neg t x) ty (.int k (k.wrap (-i))):=by
 intro _ _ _ _
 simp[execOp,hE.eval hx,Op.unary,Op.intArith]
end Go.Proofs.YtapfpflmcgfbkaaGreatDoor.Fw

namespace Go.Proofs.YtapfpflmcgfbkaaGreatDoor.Fw
open Go.RowKit
set_option linter.unusedVariables false
set_option linter.unusedSimpArgs false
def GV (g:Nat) (cs:List Value) (w:World):Prop:= ∃ (T:TypeId) (fr:Nat×Nat),w.heap[g]?=some (.cells cs.toArray T fr)
theorem GV.lt {g:Nat} {cs:List Value} {w:World} (h:GV g cs w):g<w.heap.size:=by
 obtain⟨T,fr,h⟩:=h
 exact(Array.getElem?_eq_some_iff.1 h).1
theorem GV.var {P:Program} {nm:String} {g:Nat} {cs:List Value} {w:World} (h:GV g cs w) (hg:P.globalNamed nm=some g):w.var? P nm=some cs.toArray:=by
 obtain⟨T,fr,h⟩:=h
 simp only[World.var?,hg,Option.bind_some,h]
section
variable {P:Program} {n:Nat} {ρ:List (Nat×Value)} {a:Act} {w:World} {ty:TypeId}
theorem chkArr_spec {t len e:Nat} (ht:chkArr P t len e=true):P.underlying t=some (.array len e)∧ ∀ w,(sizeOf e).run P w= .ok 1 w:=by
 unfold chkArr at ht
 simp only[Bool.and_eq_true] at ht
 obtain⟨h1,h2⟩:=ht
 refine⟨?_,chkOne_size h2⟩
 cases hu:P.underlying t with
 | none=>simp[hu] at h1
 | some d =>
  cases d with
  | array n' e'=>rw[hu] at h1;simp only[Bool.and_eq_true] at h1;rw[Nat.eq_of_beq_eq_true h1.1,Nat.eq_of_beq_eq_true h1.2]
  | _=>simp[hu] at h1
end
section
variable {P:Program} {W:World} {H:Type} {enc:TypeId×Value→H} {sp:Nat→Bool} {b:Bool} {fuel t n e g:Nat} {x:List MemPlace} {cs:Array Value} {nm:String}
theorem var_lt (hg:P.globalNamed nm=some g) (hv:W.var? P nm=some cs):g<W.heap.size:=by
 simp only[World.var?,hg,Option.bind_some] at hv
 rcases Nat.lt_or_ge g W.heap.size with h | h
 ·exact h
 ·rw[Array.getElem?_eq_none h] at hv
  simp at hv
theorem var_gv {cs':List Value} (hg:P.globalNamed nm=some g) (hv:W.var? P nm=some cs) (hc:cs.toList=cs'):GV g cs' W:=by
 simp only[World.var?,hg,Option.bind_some] at hv
 have e:cs=cs'.toArray:=by rw[←hc]
 cases hh:W.heap[g]? with
 | none=>rw[hh] at hv;simp at hv
 | some o =>
  rw[hh] at hv
  cases o with
  | cells c T fr=>simp only[Option.some.injEq] at hv;subst hv;exact⟨T,fr,by rw[hh,e]⟩
  | _=>simp at hv
theorem GV_list {α:Type} {mk:α→Value} {lit:α→DataW H} {names:List α} (hg:P.globalNamed nm=some g) (hu:P.underlying t=some (.array n e)) (hc:P.cellsOf e=1) (hct:P.cellsOf t=n) (hv:W.var? P nm=some cs)
  (hd:DataW.trod enc P W 0 sp b fuel t cs.toList=some (.agg (names.map lit),x))
  (hone: ∀ (m:Nat) (c:List Value) (y:DataW H×List MemPlace) (s:α),DataW.trod enc P W 0 sp b m e c=some y→y.1=lit s→c=[mk s]):GV g (names.map mk) W:=by
 refine var_gv hg hv ?_
 obtain⟨xs,m,rfl,hx,hlen,hn,hel⟩:=DataW.trod_array hu hd
 simp only[Prod.mk.injEq,DataW.agg.injEq] at hx
 have hnl:names.length=n:=by
  have:=congrArg List.length hx.1
  simp only[List.length_map] at this
  omega
 apply List.ext_getElem?
 intro j
 rcases Nat.lt_or_ge j n with hj | hj
 ·have hxj:xs[j]?=some xs[j]:=List.getElem?_eq_getElem (by omega)
  have hsj:names[j]?=some names[j]:=List.getElem?_eq_getElem (by omega)
  have h1:=congrArg (·[j]?) hx.1
  simp only[List.getElem?_map,hsj,hxj,Option.map_some,Option.some.injEq] at h1
  have e1:=hone _ _ _ _ ((hel j hj).trans hxj) h1.symm
  rw[hc,Nat.mul_one] at e1
  have:=congrArg (·[0]?) e1
  simp only[List.getElem?_take,List.getElem?_drop,Nat.zero_lt_one,if_true,Nat.add_zero,List.getElem?_cons_zero] at this
  rw[this,List.getElem?_map,hsj]
  rfl
 ·rw[List.getElem?_eq_none (by omega),List.getElem?_eq_none (by rw[List.length_map];omega)]
theorem GV_ints {k:IntKind} {names:List Int} (hg:P.globalNamed nm=some g) (hu:P.underlying t=some (.array n e)) (he:P.underlying e=some (.int k)) (hc:P.cellsOf e=1) (hct:P.cellsOf t=n) (hv:W.var? P nm=some cs)
  (hd:DataW.trod enc P W 0 sp b fuel t cs.toList=some (.agg (names.map fun s=> .lit (.int k s)),x)):GV g (names.map (.int k)) W:=by
 refine GV_list hg hu hc hct hv hd fun m c y s h1 h2=>?_
 obtain⟨s',e1,e2,_⟩:=DataW.trod_int he h1
 rw[e2] at h2
 simp only[DataW.lit.injEq,Lit.int.injEq,true_and] at h2
 rw[e1,h2]
end
section
variable {P:Program} {W:World} {H:Type} {enc:TypeId×Value→H} {sp:Nat→Bool}
theorem trodVars_end {gs:List (DataW H)} {ps:List MemPlace} (h:DataW.TrodVars enc P W sp [] gs ps):gs=[]:=by
 cases gs with
 | nil=>rfl
 | cons g gs=>simp[DataW.TrodVars] at h
end
def rowedB (P : Program) (ns : List String) : Bool := ns.all fun n => match P.globalNamed n with
 | some g=>(match P.globals[g]? with | some gl=>P.readableRec gl.type&&Nat.blt gl.type P.types.size | none=>false)
 | none=>false
open Go.WideElems in
theorem vars_below {H:Type} {enc:TypeId×Value→H} {P:Program} (hl:laidOutB P=true) {W W':World} (hb:Below W.heap.size W W') (ns:List String):
  ∀ {gs:List (DataW H)} {ps:List MemPlace},rowedB P ns=true→DataW.TrodVars enc P W (fun _=>true) ns gs ps→DataW.TrodVars enc P W' (fun b=>decide (b<W.heap.size)) ns gs ps:=by
 induction ns with
 | nil => intro gs ps _ h; cases gs with
  | nil=>exact h
  | cons _ _=>exact h.elim
 | cons n ns ih =>
  intro gs ps hv h
  cases gs with
  | nil=>exact h.elim
  | cons d ds =>
   have hlt:=DataW.TrodVars.lt h
   obtain⟨g,t,cs,fuel,p,q,h1,h2,h3,h4,hs,e⟩:=h
   simp only[rowedB,List.all_cons,Bool.and_eq_true,h1] at hv
   obtain⟨hv1,hv2⟩:=hv
   have ht:P.readableRec t=true∧t<P.types.size:=by
    cases hg:P.globals[g]? with
    | none=>rw[hg] at h2;cases h2
    | some gl =>
     rw[hg] at h2 hv1
     simp only[Option.map_some,Option.some.injEq] at h2
     subst h2
     simp only[Bool.and_eq_true] at hv1
     exact⟨hv1.1,by simpa using hv1.2⟩
   have hgl:g<W.heap.size:=var_lt h1 h3
   refine⟨g,t,cs,fuel,p,q,h1,h2,?_,?_,ih hv2 hs,e⟩
   ·rw[←h3]
    unfold World.var?
    rw[h1]
    simp only[Option.bind_some]
    rw[hb.block g hgl]
   ·have hp : ∀ x ∈ p, x.block < W.heap.size := fun x hx => hlt x (by rw [e]; simp [hx])
    exact DataW.trod_stays (kids_book hl ht.1) (book_sized ht.1) (fun h=>by cases h) ⟨ht.2,book_self t⟩ h4 (fun x hx=>hb.same (hp x hx)) (fun x hx=>by simpa using hp x hx)
end Go.Proofs.YtapfpflmcgfbkaaGreatDoor.Fw

namespace Go.Proofs.YtapfpflmcgfbkaaGreatDoor.Ri
open Go.Proofs.YtapfpflmcgfbkaaGreatDoor.Fw
def pow10L:List Int:=[1,10,100,1000,10000,100000,1000000,10000000,100000000,1000000000,10000000000,100000000000,1000000000000,10000000000000,100000000000000,1000000000000000,10000000000000000,100000000000000000,1000000000000000000,10000000000000000000]
def rowP (l:List Value) (o:Obj):Prop:= ∃ T fr,o= .cells l.toArray T fr
def ifcP (o:Obj):Prop:= ∃ (ev:Value) (T:TypeId) (fr:Nat×Nat),o= .cells #[ev] T fr∧(ev= .nilIface ∨ ∃ te pe,ev= .iface te pe)
def gokL:List (Nat×(Obj→Prop)):=[(0,rowP (pow10L.map (Value.int .u64))),(3,ifcP),(4,ifcP),(5,ifcP)]
end Go.Proofs.YtapfpflmcgfbkaaGreatDoor.Ri

namespace Go.Proofs.YtapfpflmcgfbkaaGreatDoor.Ri
open Go.Proofs.YtapfpflmcgfbkaaGreatDoor.Fw
open Go.RowKit
def Gok (K:Nat→Prop) (w:World):Prop:= ∀ x∈gokL,K x.1∧ ∃ o,w.heap[x.1]?=some o∧x.2 o
theorem Gok.keep {K K' : Nat → Prop} {w w' : World} (h : Gok K w) (hK : ∀ b, K b → K' b) (hk : Keep K w w') : Gok K' w' := fun x hx => by
 obtain⟨h1,o,h2,h3⟩:=h x hx
 exact⟨hK _ h1,o,(hk.block _ h1).trans h2,h3⟩
theorem Gok.row {K:Nat→Prop} {w:World} {g:Nat} {l:List Value} (h:Gok K w) (hm:(g,rowP l)∈gokL):GV g l w:=by
 obtain⟨_,o,h2,T,fr,rfl⟩:=h _ hm
 exact⟨T,fr,h2⟩
theorem gok_row {w:World} {g:Nat} {l:List Value} (h:GV g l w): ∃ o,w.heap[g]?=some o∧rowP l o:=by
 obtain⟨T,fr,h⟩:=h
 exact⟨_,h,T,fr,rfl⟩
end Go.Proofs.YtapfpflmcgfbkaaGreatDoor.Ri

namespace Go.Proofs.YtapfpflmcgfbkaaGreatDoor.Ri
open Go.Proofs.YtapfpflmcgfbkaaGreatDoor.Fw
open Go.RowKit
set_option linter.unusedVariables false
structure Tab where
 T:Nat→Type
 dat: ∀ t,Dat (T t)
 inh: ∀ t,Inhabited (T t)
instance (τ:Tab) (t:Nat):Dat (τ.T t):=τ.dat t
instance (τ:Tab) (t:Nat):Inhabited (τ.T t):=τ.inh t
def VGood:Value→Prop
 | .int k n=>k.wrap n=n
 | .string s=>s.size≤maxLen
 | _=>True
inductive Cl (τ:Tab) where
 | v (x:Value)
 | sl (e:Nat) (xs:List (τ.T e))
def Cl.rd {τ:Tab} (S:Nat→Prop) (w:World) (u:Value):Cl τ→Prop
 | .v x=>u=x∧VGood x∧x.oneCell'=true
 | .sl _ xs=>SlR S w u xs
def RdC {τ:Tab} (S:Nat→Prop) (w:World):List Value→List (Cl τ)→Prop
 | us,[]=>us=[]
 | us,c::cs=> ∃ u r,us=u::r∧c.rd S w u∧RdC S w r cs
inductive Vx (τ:Tab) where
 | v (x:Value)
 | ro (e:Nat) (xs:List (τ.T e))
 | sl (r:Nat)
 | pt (r off:Nat)
 | pw (r e k off:Nat)
 | tl (r e k:Nat)
 | pe (e:Nat) (x:τ.T e) (off:Nat)
 | ag (cs:List (Vx τ))
 | tu (cs:List (Vx τ))
 | fn (f:FuncId) (cs:List (Vx τ))
 | un
structure Lo where
 A:Option Addr
 len:Nat
 cap:Nat
section
variable {τ:Tab} (θ:Nat→Lo) (S:Nat→Prop) (w:World)
mutual
def Rep:Vx τ→Value→Prop
 | .v x,u=>u=x∧VGood x
 | .ro _ xs,u=>SlR S w u xs
 | .sl r,u=>u= .slice (θ r).A (θ r).len (θ r).cap
 | .pt r off,u=> ∃ b,(θ r).A=some ⟨b,0,none⟩∧u= .pointer (some ((⟨b,0,none⟩:Addr).add off))
 | .pw r e k off,u=> ∃ b,(θ r).A=some ⟨b,0,none⟩∧k<(θ r).len∧u= .pointer (some ((⟨b,0,none⟩:Addr).add (k*Dat.sz (τ.T e)+off)))
 | .tl r e k,u=>k≤(θ r).len∧u= .slice (if(θ r).cap=k then(θ r).A else(θ r).A.map (·.add (k*Dat.sz (τ.T e)))) ((θ r).len - k) ((θ r).cap - k)
 | .pe e x off,u=> ∃ ad cs,u= .pointer (some (ad.add off))∧CellsAt w ad cs∧S ad.block∧Dat.rd S w cs x
 | .ag cs,u=> ∃ us:List Value,u= .agg us.toArray∧RepL cs us
 | .tu cs,u=> ∃ us:List Value,u= .tuple us.toArray∧RepL cs us
 | .fn f cs,u=> ∃ us:List Value,u= .func (.func f) #[] us.toArray∧RepL cs us
 | .un,_=>True
def RepL:List (Vx τ)→List Value→Prop
 | [],us=>us=[]
 | c::cs,us=> ∃ u r,us=u::r∧Rep c u∧RepL cs r
end
end
mutual
def Vx.all {τ:Tab} (p:Nat→Prop):Vx τ→Prop
 | .sl r=>p r
 | .pt r _=>p r
 | .pw r _ _ _=>p r
 | .tl r _ _=>p r
 | .ag cs=>allL p cs
 | .tu cs=>allL p cs
 | .fn _ cs=>allL p cs
 | .v _=>True
 | .ro _ _=>True
 | .pe _ _ _=>True
 | .un=>True
def allL {τ:Tab} (p:Nat→Prop):List (Vx τ)→Prop
 | []=>True
 | c::cs=>c.all p∧allL p cs
end
section
variable {τ:Tab} {θ θ':Nat→Lo} {S S':Nat→Prop} {w w':World}
mutual
theorem Rep.mono (hS: ∀ b,S b→S' b) (hk:Keep S w w'): ∀ {v:Vx τ} {u:Value},Rep θ S w v u→Rep θ S' w' v u
 | .v _,_,h=>h
 | .ro _ _,_,h=>SlR.mono hS (SlR.below hk h)
 | .sl _,_,h=>h
 | .pt _ _,_,h=>h
 | .pw _ _ _ _,_,h=>h
 | .tl _ _ _,_,h=>h
 | .pe _ _ _,_,⟨ad,cs,h1,h2,h3,h4⟩=>⟨ad,cs,h1,h2.keep hk h3,hS _ h3,Dat.rd_mono hS (Dat.rd_below hk h4)⟩
 | .ag _,_,⟨us,h1,h2⟩=>⟨us,h1,RepL.mono hS hk h2⟩
 | .tu _,_,⟨us,h1,h2⟩=>⟨us,h1,RepL.mono hS hk h2⟩
 | .fn _ _,_,⟨us,h1,h2⟩=>⟨us,h1,RepL.mono hS hk h2⟩
 | .un,_,_=>trivial
theorem RepL.mono (hS: ∀ b,S b→S' b) (hk:Keep S w w'): ∀ {cs:List (Vx τ)} {us:List Value},RepL θ S w cs us→RepL θ S' w' cs us
 | [],_,h=>h
 | _::_,_,⟨u,r,h1,h2,h3⟩=>⟨u,r,h1,Rep.mono hS hk h2,RepL.mono hS hk h3⟩
end
mutual
theorem Rep.ext {p:Nat→Prop} (hp: ∀ r,p r→θ' r=θ r): ∀ {v:Vx τ} {u:Value},v.all p→Rep θ S w v u→Rep θ' S w v u
 | .v _,_,_,h=>h
 | .ro _ _,_,_,h=>h
 | .sl r,_,ha,h=>by show _=_;rw[hp r ha];exact h
 | .pt r _,_,ha,⟨b,h1,h2⟩=>⟨b,by rw[hp r ha];exact h1,h2⟩
 | .pw r _ _ _,_,ha,⟨b,h1,h2,h3⟩=>⟨b,by rw[hp r ha];exact h1,by rw[hp r ha];exact h2,h3⟩
 | .tl r _ _,_,ha,⟨h1,h2⟩=>⟨by rw[hp r ha];exact h1,by rw[hp r ha];exact h2⟩
 | .pe _ _ _,_,_,h=>h
 | .ag _,_,ha,⟨us,h1,h2⟩=>⟨us,h1,RepL.ext hp ha h2⟩
 | .tu _,_,ha,⟨us,h1,h2⟩=>⟨us,h1,RepL.ext hp ha h2⟩
 | .fn _ _,_,ha,⟨us,h1,h2⟩=>⟨us,h1,RepL.ext hp ha h2⟩
 | .un,_,_,_=>trivial
theorem RepL.ext {p:Nat→Prop} (hp: ∀ r,p r→θ' r=θ r): ∀ {cs:List (Vx τ)} {us:List Value},allL p cs→RepL θ S w cs us→RepL θ' S w cs us
 | [],_,_,h=>h
 | _::_,_,ha,⟨u,r,h1,h2,h3⟩=>⟨u,r,h1,Rep.ext hp ha.1 h2,RepL.ext hp ha.2 h3⟩
end
mutual
theorem Vx.all_mono {p q:Nat→Prop} (h: ∀ r,p r→q r): ∀ {v:Vx τ},v.all p→v.all q
 | .v _,_=>trivial
 | .ro _ _,_=>trivial
 | .sl r,ha=>h _ ha
 | .pt r _,ha=>h _ ha
 | .pw r _ _ _,ha=>h _ ha
 | .tl r _ _,ha=>h _ ha
 | .pe _ _ _,_=>trivial
 | .ag _,ha=>allL_mono h ha
 | .tu _,ha=>allL_mono h ha
 | .fn _ _,ha=>allL_mono h ha
 | .un,_=>trivial
theorem allL_mono {p q:Nat→Prop} (h: ∀ r,p r→q r): ∀ {cs:List (Vx τ)},allL p cs→allL q cs
 | [],_=>trivial
 | _::_,ha=>⟨Vx.all_mono h ha.1,allL_mono h ha.2⟩
end
theorem RepL.len: ∀ {cs:List (Vx τ)} {us:List Value},RepL θ S w cs us→us.length=cs.length
 | [],us,h=>by cases h;rfl
 | _::_,_,⟨u,r,h1,_,h3⟩=>by rw[h1,List.length_cons,RepL.len h3,List.length_cons]
theorem RepL.app: ∀ {cs ds:List (Vx τ)} {us vs:List Value},RepL θ S w cs us→RepL θ S w ds vs→RepL θ S w (cs++ds) (us++vs)
 | [],_,us,_,h,h'=>by cases h;exact h'
 | _::_,_,_,_,⟨u,r,h1,h2,h3⟩,h'=>⟨u,r++_,by rw[h1];rfl,h2,RepL.app h3 h'⟩
theorem RepL.take: ∀ {cs:List (Vx τ)} {us:List Value} (n:Nat),RepL θ S w cs us→RepL θ S w (cs.take n) (us.take n)
 | _,_,0,_=>by simp[RepL]
 | [],_,n+1,h=>by cases h;simp[RepL]
 | _::_,_,n+1,⟨u,r,h1,h2,h3⟩=>⟨u,r.take n,by rw[h1];rfl,h2,RepL.take n h3⟩
theorem RepL.drop: ∀ {cs:List (Vx τ)} {us:List Value} (n:Nat),RepL θ S w cs us→RepL θ S w (cs.drop n) (us.drop n)
 | cs,us,0,h=>by simpa using h
 | [],_,n+1,h=>by cases h;simp[RepL]
 | _::_,_,n+1,⟨u,r,h1,h2,h3⟩=>by rw[h1];exact RepL.drop n h3
theorem RepL.get: ∀ {cs:List (Vx τ)} {us:List Value} {i:Nat} {c:Vx τ},RepL θ S w cs us→cs[i]?=some c→ ∃ u,us[i]?=some u∧Rep θ S w c u
 | [],_,_,_,_,h=>by simp at h
 | _::_,_,0,c,⟨u,r,h1,h2,h3⟩,h=>by simp at h;subst h;exact⟨u,by rw[h1];rfl,h2⟩
 | _ :: _, _, i + 1, c, ⟨u, r, h1, h2, h3⟩, h => by
  obtain⟨x,hx,hr⟩:=RepL.get h3 (i:=i) (by simpa using h)
  exact⟨x,by rw[h1];simpa using hx,hr⟩
theorem allL_get {p:Nat→Prop}: ∀ {cs:List (Vx τ)} {i:Nat} {c:Vx τ},allL p cs→cs[i]?=some c→c.all p
 | [],_,_,_,h=>by simp at h
 | _::_,0,c,ha,h=>by simp at h;subst h;exact ha.1
 | _::_,i+1,c,ha,h=>allL_get (i:=i) ha.2 (by simpa using h)
end
def lkA {β:Type}:List (Nat×β)→Nat→Option β
 | [],_=>none
 | (t,v)::r,k=>bif Nat.beq t k then some v else lkA r k
def insA {β:Type} (k:Nat) (v:β):List (Nat×β)→List (Nat×β)
 | []=>[(k,v)]
 | (t,u)::r=>bif Nat.beq t k then(k,v)::r else bif Nat.blt k t then(k,v)::(t,u)::r else(t,u)::insA k v r
def delA {β:Type} (k:Nat):List (Nat×β)→List (Nat×β)
 | []=>[]
 | (t,u)::r=>bif Nat.beq t k then delA k r else(t,u)::delA k r
theorem beq_f {a b:Nat} (h:a≠b):Nat.beq a b=false:=by
 cases hb:Nat.beq a b
 ·rfl
 ·exact absurd (Nat.eq_of_beq_eq_true hb) h
theorem beq_t (a:Nat):Nat.beq a a=true:=Nat.beq_refl a
theorem lkA_ins {β : Type} (k : Nat) (v : β) : ∀ (l : List (Nat × β)) (j : Nat), lkA (insA k v l) j = if j = k then some v else lkA l j
 | [], j => by
  by_cases h:j=k
  ·subst h;simp[insA,lkA]
  ·have : Nat.beq k j = false := beq_f fun e => h e.symm
   simp[insA,lkA,this,h]
 | (t, u) :: r, j => by
  unfold insA
  by_cases ht:t=k
  ·subst ht
   rw[beq_t]
   by_cases h:j=t
   ·subst h;simp[lkA]
   ·have : Nat.beq t j = false := beq_f fun e => h e.symm
    simp[lkA,this,h]
  ·rw[beq_f ht]
   simp only[cond_false]
   cases hb:Nat.blt k t
   ·simp only[cond_false]
    by_cases h:j=t
    ·subst h;simp[lkA,ht]
    ·have : Nat.beq t j = false := beq_f fun e => h e.symm
     simp only[lkA,this,cond_false,lkA_ins k v r j]
   ·simp only[cond_true]
    by_cases h:j=k
    ·subst h;simp[lkA]
    ·have : Nat.beq k j = false := beq_f fun e => h e.symm
     simp[lkA,this,h]
theorem lkA_del {β : Type} (k : Nat) : ∀ (l : List (Nat × β)) (j : Nat), lkA (delA k l) j = if j = k then none else lkA l j
 | [],j=>by simp[delA,lkA]
 | (t, u) :: r, j => by
  unfold delA
  by_cases ht:t=k
  ·subst ht
   rw[beq_t]
   simp only[cond_true,lkA_del t r j]
   by_cases h:j=t
   ·simp[h]
   ·have : Nat.beq t j = false := beq_f fun e => h e.symm
    simp[lkA,this,h]
  ·rw[beq_f ht]
   simp only[cond_false]
   by_cases h:j=t
   ·subst h;simp[lkA,ht]
   ·have : Nat.beq t j = false := beq_f fun e => h e.symm
    simp only[lkA,this,cond_false,lkA_del k r j]
inductive Sl (τ:Tab) where
 | ok (v:Vx τ)
 | gd (j:Nat) (b:Bool) (v:Vx τ)
def Sl.val {τ:Tab}:Sl τ→Vx τ
 | .ok v=>v
 | .gd _ _ v=>v
inductive Ex (τ:Tab) where
 | var (cs:List (Vx τ)) (t:TypeId)
 | own (e:Nat) (xs:List (τ.T e))
 | ro (e:Nat) (xs:List (τ.T e))
def Ex.all {τ:Tab} (p:Nat→Prop):Ex τ→Prop
 | .var cs _=>allL p cs
 | .own _ _=>True
 | .ro _ _=>True
def Ex.mut {τ:Tab}:Ex τ→Bool
 | .var _ _=>true
 | .own _ _=>true
 | .ro _ _=>false
structure Sx (τ:Tab) where
 n:Nat
 ρ:List (Nat×Sl τ)
 E:List (Nat×Ex τ)
def ByD (α:Type) [Dat α]:Prop:= ∀ (S:Nat→Prop) (w:World) (us:List Value) (x:α),Dat.rd S w us x→ ∃ n,us=[.int .u8 n]
def FzOk (α:Type) [Dat α] (n:Nat) (fz:Nat×Nat):Prop:=fz=(0,0)∨(ByD α∧(fz.2=0∨n≤fz.1))
theorem FzOk.z {α:Type} [Dat α] {n:Nat} {fz:Nat×Nat} (h:FzOk α n fz):fz.2=0∨n≤fz.1:=by
 rcases h with rfl | h
 ·exact .inl rfl
 ·exact h.2
def OwnR {α:Type} [Dat α] (S:Nat→Prop) (w:World) (l:Lo) (xs:List α):Prop:=
 (l.A=none∧l.len=0∧l.cap=0∧xs=[]) ∨
 ∃ (g:Nat) (arr:Array Value) (t:TypeId),l.A=some ⟨g,0,none⟩∧l.len=xs.length∧xs.length≤l.cap∧l.cap≤maxLen∧
  (∃ fz:Nat×Nat,w.heap[g]?=some (.cells arr t fz)∧FzOk α arr.size fz)∧l.cap*Dat.sz α≤arr.size∧ ¬ S g∧ ∀ i x,xs[i]?=some x→Dat.rd S w ((arr.toList.drop (i*Dat.sz α)).take (Dat.sz α)) x
def ExOk {τ:Tab} (θ:Nat→Lo) (S:Nat→Prop) (w:World) (r:Nat):Ex τ→Prop
 | .var cs t=> ∃ b us,(θ r).A=some ⟨b,0,none⟩∧RepL θ S w cs us∧w.heap[b]?=some (.cells us.toArray t (0,0))∧ ¬ S b
 | .own _ xs=>OwnR S w (θ r) xs
 | .ro _ xs=>SlR S w (.slice (θ r).A (θ r).len (θ r).cap) xs
def SlOk {τ:Tab} (θ:Nat→Lo) (S:Nat→Prop) (w:World) (a:Act) (u:Value):Sl τ→Prop
 | .ok v=>Rep θ S w v u
 | .gd j b v=>(a.tmps.getD j undef= .bool b→Rep θ S w v u)∧(a.tmps.getD j undef ≠ .bool b→u=undef)
structure Bx where
 P:Program
 K:Nat→Prop
 R0:Nat→Prop
 w0:World
 dom: ∀ b,K b→b<w0.heap.size
 gok:Gok K w0
structure RxC {τ:Tab} (B:Bx) (θ:Nat→Lo) (S:Nat→Prop) (σ:Sx τ) (a:Act) (w:World):Prop where
 src: ∀ b,S b→B.R0 b ∨ ¬ B.K b
 keep:Keep B.K B.w0 w
 off: ∀ r e b,lkA σ.E r=some e→e.mut=true→(θ r).A=some b→ ¬ B.K b.block
 dom: ∀ b,S b→b<w.heap.size
 size:a.tmps.size=σ.n
 defers:a.defers=[]
 slot: ∀ t s,lkA σ.ρ t=some s→SlOk θ S w a (a.tmps.getD t undef) s
 lt: ∀ t s,lkA σ.ρ t=some s→t<σ.n
 ent: ∀ r e,lkA σ.E r=some e→ExOk θ S w r e
 inj: ∀ r r' e e' b b',lkA σ.E r=some e→lkA σ.E r'=some e'→e.mut=true→e'.mut=true→(θ r).A=some b→(θ r').A=some b'→b.block=b'.block→r=r'
structure Nm {τ:Tab} (p:Nat→Prop) (σ:Sx τ):Prop where
 slot: ∀ t s,lkA σ.ρ t=some s→s.val.all p
 ent: ∀ r e,lkA σ.E r=some e→p r∧e.all p
end Go.Proofs.YtapfpflmcgfbkaaGreatDoor.Ri

namespace Go.Proofs.YtapfpflmcgfbkaaGreatDoor.Ri
open Go.Proofs.YtapfpflmcgfbkaaGreatDoor.Fw
open Go.RowKit
set_option linter.unusedVariables false
def upd (θ:Nat→Lo) (r:Nat) (l:Lo):Nat→Lo:=fun x=>if x=r then l else θ x
theorem upd_at (θ:Nat→Lo) (r:Nat) (l:Lo):upd θ r l r=l:=if_pos rfl
theorem upd_ne {θ:Nat→Lo} {r x:Nat} {l:Lo} (h:x≠r):upd θ r l x=θ x:=if_neg h
def clrG {τ:Tab} (d:Nat):List (Nat×Sl τ)→List (Nat×Sl τ)
 | []=>[]
 | (t,.ok v)::r=>(t,.ok v)::clrG d r
 | (t,.gd j b v)::r=>(t,bif Nat.beq j d then .ok .un else .gd j b v)::clrG d r
def putS {τ:Tab} (d:Nat) (s:Sl τ) (ρ:List (Nat×Sl τ)):List (Nat×Sl τ):=insA d s (clrG d ρ)
theorem lkA_clr {τ:Tab} {d:Nat}: ∀ {ρ:List (Nat×Sl τ)} {t:Nat} {s:Sl τ},lkA (clrG d ρ) t=some s→s= .ok .un∨(lkA ρ t=some s∧ ∀ j b v,s= .gd j b v→j≠d)
 | [],_,_,h=>by cases h
 | (t', .ok v) :: r, t, s, h => by
  simp only[clrG,lkA] at h ⊢
  cases hb:Nat.beq t' t
  ·rw[hb] at h;exact lkA_clr h
  ·rw[hb] at h;cases h;exact .inr ⟨rfl,fun j b v h=>by cases h⟩
 | (t', .gd j b v) :: r, t, s, h => by
  simp only[clrG,lkA] at h ⊢
  cases hb:Nat.beq t' t
  ·rw[hb] at h;exact lkA_clr h
  ·rw[hb] at h
   simp only[cond_true,Option.some.injEq] at h
   by_cases hj:j=d
   ·subst hj;rw[beq_t] at h;exact .inl h.symm
   ·rw[beq_f hj] at h;exact .inr ⟨by rw[←h];rfl,fun j' b' v' e=>by rw[←h] at e;cases e;exact hj⟩
theorem lkA_clr' {τ:Tab} {d:Nat} {ρ:List (Nat×Sl τ)} {t:Nat} {s:Sl τ} (h:lkA (clrG d ρ) t=some s): ∃ s',lkA ρ t=some s':=by
 induction ρ with
 | nil=>cases h
 | cons x r ih =>
  obtain⟨t',s'⟩:=x
  cases s'<;>simp only[clrG,lkA] at h ⊢ <;> cases hb:Nat.beq t' t<;>rw[hb] at h<;>first | exact ih h | exact⟨_,rfl⟩
section
variable {τ:Tab} {B:Bx} {θ θ':Nat→Lo} {S S':Nat→Prop} {σ:Sx τ} {a:Act} {w w':World} {p:Nat→Prop}
theorem getD_put_eq {a:Act} {d:Nat} {u:Value} (h:d<a.tmps.size):(a.put (some d) u).tmps.getD d undef=u:=by simp[Act.put,h]
theorem getD_put_ne {a:Act} {d t:Nat} {u:Value} (h:t≠d):(a.put (some d) u).tmps.getD t undef=a.tmps.getD t undef:=by
 simp only[Act.put,Array.getD_eq_getD_getElem?]
 rw[Array.getElem?_setIfInBounds_ne (Ne.symm h)]
theorem RxC.lt_put (h:RxC B θ S σ a w) {d t:Nat} {s s':Sl τ} (hd:d<σ.n) (hs:lkA (putS d s σ.ρ) t=some s'):t<σ.n:=by
 unfold putS at hs
 rw[lkA_ins] at hs
 split at hs
 ·rename_i e;subst e;exact hd
 ·obtain⟨s2,h2⟩:=lkA_clr' hs;exact h.lt _ _ h2
theorem RxC.putG (h:RxC B θ S σ a w) {d:Nat} {s:Sl τ} {u:Value} (hd:d<σ.n) (hs:SlOk θ S w (a.put (some d) u) u s):RxC B θ S ⟨σ.n,putS d s σ.ρ,σ.E⟩ (a.put (some d) u) w where
 src:=h.src
 keep:=h.keep
 off:=h.off
 dom:=h.dom
 size:=by show(a.tmps.setIfInBounds d u).size=_;rw[Array.size_setIfInBounds];exact h.size
 defers:=h.defers
 slot t s' hl:=by
  have hd':d<a.tmps.size:=by rw[h.size];exact hd
  have hl':lkA (putS d s σ.ρ) t=some s':=hl
  unfold putS at hl'
  rw[lkA_ins] at hl'
  by_cases e:t=d
  ·subst e
   rw[if_pos rfl] at hl'
   cases hl'
   rw[getD_put_eq hd']
   exact hs
  ·rw[if_neg e] at hl'
   rw[getD_put_ne e]
   rcases lkA_clr hl' with rfl | ⟨h1,h2⟩
   ·trivial
   ·have h3:=h.slot t s' h1
    cases s' with
    | ok v=>exact h3
    | gd j b v=>exact⟨fun hj=>h3.1 (by rw[getD_put_ne (h2 j b v rfl)] at hj;exact hj),fun hj=>h3.2 (by rw[getD_put_ne (h2 j b v rfl)] at hj;exact hj)⟩
 lt t s' hl:=h.lt_put hd hl
 ent:=h.ent
 inj:=h.inj
theorem OwnR.keep {α:Type} [Dat α] {l:Lo} {xs:List α} (h:OwnR S w l xs) (hS: ∀ b,S b→S' b) (hk:Keep S w w') (hb: ∀ b,l.A=some b→w'.heap[b.block]?=w.heap[b.block]?∧ ¬ S' b.block):OwnR S' w' l xs:=by
 rcases h with h | ⟨g,arr,t,h1,h2,h3,h4,⟨fz,h5,hfz⟩,h6,h7,h8⟩
 ·exact .inl h
 ·have:=hb _ h1
  exact .inr ⟨g,arr,t,h1,h2,h3,h4,⟨fz,this.1.trans h5,hfz⟩,h6,this.2,fun i x hi=>Dat.rd_mono hS (Dat.rd_below hk (h8 i x hi))⟩
theorem ExOk.keep {r:Nat} {e:Ex τ} (h:ExOk θ S w r e) (hp: ∀ r,p r→θ' r=θ r) (hr:p r) (ha:e.all p) (hS: ∀ b,S b→S' b) (hk:Keep S w w') (hb:e.mut=true→ ∀ b,(θ r).A=some b→w'.heap[b.block]?=w.heap[b.block]?∧ ¬ S' b.block):ExOk θ' S' w' r e:=by
 cases e with
 | var cs t =>
  obtain⟨b,us,h1,h2,h3,h4⟩:=h
  have:=hb rfl _ h1
  exact⟨b,us,by rw[hp r hr];exact h1,RepL.ext hp ha (RepL.mono hS hk h2),this.1.trans h3,this.2⟩
 | own e xs=>show OwnR S' w' (θ' r) xs;rw[hp r hr];exact OwnR.keep h hS hk (hb rfl)
 | ro e xs=>show SlR S' w' _ xs;rw[hp r hr];exact SlR.mono hS (SlR.below hk h)
theorem ExOk.blk {r:Nat} {e:Ex τ} (h:ExOk θ S w r e) (hm:e.mut=true) {b:Addr} (hb:(θ r).A=some b): ¬ S b.block∧b.block<w.heap.size∧b=⟨b.block,0,none⟩:=by
 have lt: ∀ {g:Nat} {o:Obj},w.heap[g]?=some o→g<w.heap.size:=fun hg=>(Array.getElem?_eq_some_iff.1 hg).1
 cases e with
 | var cs t=>obtain⟨b',us,h1,_,h3,h4⟩:=h;rw[h1] at hb;cases hb;exact⟨h4,lt h3,rfl⟩
 | own e xs =>
  rcases h with h | ⟨g,arr,t,h1,_,_,_,⟨fz,h5,_⟩,_,h7,_⟩
  ·rw[h.1] at hb;cases hb
  ·rw[h1] at hb;cases hb;exact⟨h7,lt h5,rfl⟩
 | ro e xs=>cases hm
theorem SlOk.keep {s:Sl τ} {u:Value} (h:SlOk θ S w a u s) (hp: ∀ r,p r→θ' r=θ r) (ha:s.val.all p) (hS: ∀ b,S b→S' b) (hk:Keep S w w'):SlOk θ' S' w' a u s:=by
 cases s with
 | ok v=>exact Rep.ext hp ha (Rep.mono hS hk h)
 | gd j b v=>exact⟨fun hj=>Rep.ext hp ha (Rep.mono hS hk (h.1 hj)),h.2⟩
theorem RxC.upd (h:RxC B θ S σ a w) (hn:Nm p σ) (hp: ∀ r,p r→θ' r=θ r) (hS: ∀ b,S b→S' b) (hS': ∀ b,S' b→S b ∨ ¬ B.K b) (hk:Keep S w w') (hkB:Keep B.K w w') (hd: ∀ b,S' b→b<w'.heap.size) {E':List (Nat×Ex τ)}
  (ho: ∀ r e b,lkA E' r=some e→e.mut=true→(θ' r).A=some b→ ¬ B.K b.block)
  (he: ∀ r e,lkA E' r=some e→ExOk θ' S' w' r e)
  (hi: ∀ r r' e e' b b',lkA E' r=some e→lkA E' r'=some e'→e.mut=true→e'.mut=true→(θ' r).A=some b→(θ' r').A=some b'→b.block=b'.block→r=r'):RxC B θ' S' ⟨σ.n,σ.ρ,E'⟩ a w' where
 src b hb:=(hS' b hb).elim (h.src b) .inr
 keep:=h.keep.trans hkB
 off:=ho
 dom:=hd
 size:=h.size
 defers:=h.defers
 slot t s hs:=(h.slot t s hs).keep hp (hn.slot t s hs) hS hk
 lt:=h.lt
 ent:=he
 inj:=hi
theorem RxC.grow (h:RxC B θ S σ a w) (hk:Keep (Old w) w w'):RxC B θ S σ a w' where
  src:=h.src
  keep:=h.keep.trans (hk.mono fun b hb=>Nat.lt_of_lt_of_le (B.dom b hb) h.keep.size)
  off:=h.off
  dom b hb:=Nat.lt_of_lt_of_le (h.dom b hb) hk.size
  size:=h.size
  defers:=h.defers
  slot t s hs:=by
    have hk':Keep S w w':=hk.mono h.dom
    have:=h.slot t s hs
    cases s with
    | ok v=>exact Rep.mono (fun _ h=>h) hk' this
    | gd j b v=>exact⟨fun hj=>Rep.mono (fun _ h=>h) hk' (this.1 hj),this.2⟩
  lt:=h.lt
  ent r e he:=(h.ent r e he).keep (p:=fun _=>True) (fun _ _=>rfl) trivial (by
      cases e with
      | var cs t => exact (show allL _ cs from by
          have: ∀ cs:List (Vx τ),allL (fun _=>True) cs:=by
            intro cs
            exact allAll cs
          exact this cs)
      | own=>trivial
      | ro=>trivial) (fun _ h=>h) (hk.mono h.dom) (fun hm b hb=>by
      have:=(h.ent r e he).blk hm hb
      exact⟨hk.block _ this.2.1,this.1⟩)
  inj:=h.inj
where
  allAll: ∀ cs:List (Vx τ),allL (fun _=>True) cs
    | []=>trivial
    | c::cs=>⟨allOne c,allAll cs⟩
  allOne: ∀ c:Vx τ,c.all (fun _=>True)
    | .v _=>trivial
    | .ro _ _=>trivial
    | .sl _=>trivial
    | .pt _ _=>trivial
    | .pw _ _ _ _=>trivial
    | .tl _ _ _=>trivial
    | .pe _ _ _=>trivial
    | .ag cs=>allAll cs
    | .tu cs=>allAll cs
    | .fn _ cs=>allAll cs
    | .un=>trivial
theorem RxC.drew (h:RxC B θ S σ a w):RxC B θ S σ a w.drew:=h.grow ⟨rfl,rfl,rfl,Nat.le_refl _,fun _ _=>rfl⟩
theorem RxC.new (h:RxC B θ S σ a w) (hn:Nm p σ) (hk:Keep (Old w) w w') {r:Nat} (hr: ¬ p r) {l:Lo} {e:Ex τ} (hl: ∀ b,l.A=some b→w.heap.size≤b.block) (ho:ExOk (Ri.upd θ r l) S w' r e):
  RxC B (Ri.upd θ r l) S ⟨σ.n,σ.ρ,insA r e σ.E⟩ a w':=by
 have hp: ∀ x,p x→Ri.upd θ r l x=θ x:=fun x hx=>upd_ne fun e=>hr (e▸hx)
 have hkS:Keep S w w':=hk.mono h.dom
 have hkeep : ∀ x e', lkA σ.E x = some e' → ExOk (Ri.upd θ r l) S w' x e' := fun x e' hx => (h.ent x e' hx).keep hp (hn.ent x e' hx).1 (hn.ent x e' hx).2 (fun _ h => h) hkS fun hm b hb => by
  have:=(h.ent x e' hx).blk hm hb
  exact⟨hk.block _ this.2.1,this.1⟩
 have hBl: ∀ b,B.K b→b<w.heap.size:=fun b hb=>Nat.lt_of_lt_of_le (B.dom b hb) h.keep.size
 refine h.upd hn hp (fun _ h=>h) (fun _ h=> .inl h) hkS (hk.mono hBl) (fun b hb=>Nat.lt_of_lt_of_le (h.dom b hb) hk.size) ?_ (fun x e' hx=>?_) ?_
 ·intro x e' b hx hm hb
  rw[lkA_ins] at hx
  split at hx
  ·rename_i ex;subst ex
   rw[upd_at] at hb
   have:=hl b hb
   intro hK
   have:=hBl _ hK
   omega
  ·rw[hp x (hn.ent x e' hx).1] at hb
   exact h.off x e' b hx hm hb
 ·rw[lkA_ins] at hx
  split at hx
  ·rename_i ex;subst ex;cases hx;exact ho
  ·exact hkeep x e' hx
 ·intro x x' e1 e2 b b' h1 h2 m1 m2 hb hb' hbb
  rw[lkA_ins] at h1 h2
  split at h1<;>split at h2
  ·rename_i q1 q2;rw[q1,q2]
  ·rename_i q1 q2
   subst q1
   rw[upd_at] at hb
   have h3:=hl b hb
   rw[hp x' (hn.ent x' e2 h2).1] at hb'
   have h4:=((h.ent x' e2 h2).blk m2 hb').2.1
   omega
  ·rename_i q1 q2
   subst q2
   rw[upd_at] at hb'
   have h3:=hl b' hb'
   rw[hp x (hn.ent x e1 h1).1] at hb
   have h4:=((h.ent x e1 h1).blk m1 hb).2.1
   omega
  ·rw[hp x (hn.ent x e1 h1).1] at hb
   rw[hp x' (hn.ent x' e2 h2).1] at hb'
   exact h.inj x x' e1 e2 b b' h1 h2 m1 m2 hb hb' hbb
theorem RxC.turn (h:RxC B θ S σ a w) {r:Nat} {e0 e:Ex τ} {b:Addr} (hr:lkA σ.E r=some e0) (hm:e0.mut=true) (hb:(θ r).A=some b) (hk:Keep (fun x=>x<w.heap.size∧x≠b.block) w w') (hmut:e.mut=true)
  (ho:(∀ v u,Rep θ S w v u→Rep θ S w' (τ:=τ) v u)→ExOk θ S w' r e):RxC B θ S ⟨σ.n,σ.ρ,insA r e σ.E⟩ a w':=by
 have hbk:=(h.ent r e0 hr).blk hm hb
 have hkS:Keep S w w':=hk.mono fun x hx=>⟨h.dom x hx,fun e=>hbk.1 (e▸hx)⟩
 have hR: ∀ v u,Rep θ S w v u→Rep θ S w' (τ:=τ) v u:=fun v u hv=>Rep.mono (fun _ h=>h) hkS hv
 have hoff:=h.off r e0 b hr hm hb
 refine h.upd (p:=fun _=>True) ⟨fun t s _=>RxC.grow.allOne _,fun r e _=>⟨trivial,?_⟩⟩ (fun _ _=>rfl) (fun _ h=>h) (fun _ h=> .inl h) hkS (hk.mono fun x hx=>⟨Nat.lt_of_lt_of_le (B.dom x hx) h.keep.size,fun e=>hoff (e▸hx)⟩) (fun b hb=>Nat.lt_of_lt_of_le (h.dom b hb) hk.size) ?_ (fun x e' hx=>?_) ?_
 ·cases e with
  | var cs t=>exact RxC.grow.allAll cs
  | own=>trivial
  | ro=>trivial
 ·intro x e' b' hx hm' hb'
  rw[lkA_ins] at hx
  split at hx
  ·rename_i ex;subst ex;exact h.off x e0 b' hr hm hb'
  ·exact h.off x e' b' hx hm' hb'
 ·rw[lkA_ins] at hx
  split at hx
  ·rename_i ex;subst ex;cases hx;exact ho hR
  ·rename_i ex
   refine(h.ent x e' hx).keep (p:=fun _=>True) (fun _ _=>rfl) trivial ?_ (fun _ h=>h) hkS fun hm' b' hb'=>?_
   ·cases e' with
    | var cs t=>exact RxC.grow.allAll cs
    | own=>trivial
    | ro=>trivial
   ·have h2:=(h.ent x e' hx).blk hm' hb'
    refine⟨hk.block _ ⟨h2.2.1,fun eb=>ex ?_⟩,h2.1⟩
    exact h.inj x r e' e0 b' b hx hr hm' hm hb' hb eb
 ·intro x x' e1 e2 b1 b2 h1 h2 m1 m2 hb1 hb2 hbb
  rw[lkA_ins] at h1 h2
  split at h1<;>split at h2
  ·rename_i q1 q2;rw[q1,q2]
  ·rename_i q1 q2;subst q1;exact h.inj x x' e0 e2 b1 b2 hr h2 hm m2 hb1 hb2 hbb
  ·rename_i q1 q2;subst q2;exact h.inj x x' e1 e0 b1 b2 h1 hr m1 hm hb1 hb2 hbb
  ·exact h.inj x x' e1 e2 b1 b2 h1 h2 m1 m2 hb1 hb2 hbb
theorem OwnR.slR {α:Type} [Dat α] {l:Lo} {xs:List α} (h:OwnR S w l xs) (hS: ∀ b,S b→S' b) (hb: ∀ b,l.A=some b→S' b.block):SlR S' w (.slice l.A l.len l.cap) xs:=by
 rcases h with ⟨h1,h2,h3,rfl⟩ | ⟨g,arr,t,h1,h2,h3,h4,⟨fz,h5,_⟩,h6,h7,h8⟩
 ·exact⟨l.A,l.cap,by rw[h2];rfl,by rw[h3];exact Nat.le_refl _,by rw[h3];exact Nat.zero_le _,fun hn=>absurd rfl hn⟩
 ·refine⟨l.A,l.cap,by rw[h2],h3,h4,fun _=>⟨_,h1,hb _ h1,fun i x hi=>⟨_,Dat.rd_mono hS (h8 i x hi),?_⟩⟩⟩
  intro j v hj
  have hlt:i<xs.length:=(List.getElem?_eq_some_iff.1 hi).1
  have hj2:=hj
  rw[List.getElem?_take] at hj2
  split at hj2
  ·rename_i hj1
   rw[List.getElem?_drop,Array.getElem?_toList] at hj2
   rw[add_add]
   have e: ∀ m,(⟨g,0,none⟩:Addr).add m=⟨g,m,none⟩:=fun m=>by unfold Addr.add;split<;>simp_all
   rw[e]
   unfold World.cell?
   rw[h5]
   simpa using hj2
  ·cases hj2
theorem RxC.frz (h:RxC B θ S σ a w) {r e:Nat} {xs:List (τ.T e)} (hr:lkA σ.E r=some (.own e xs)): ∃ S',(∀ b,S b→S' b)∧RxC B θ S' ⟨σ.n,σ.ρ,insA r (.ro e xs) σ.E⟩ a w:=by
 refine⟨fun b=>S b ∨ ∃ A,(θ r).A=some A∧b=A.block,fun b hb=> .inl hb,?_⟩
 have hmut:(Ex.own e xs:Ex τ).mut=true:=rfl
 refine h.upd (p:=fun _=>True) ⟨fun t s _=>RxC.grow.allOne _,fun r e _=>⟨trivial,?_⟩⟩ (fun _ _=>rfl) (fun b hb=> .inl hb) ?_ (Keep.refl _ _) (Keep.refl _ _) ?_ ?_ (fun x e' hx=>?_) ?_
 ·cases e with
  | var cs t=>exact RxC.grow.allAll cs
  | own=>trivial
  | ro=>trivial
 ·rintro b (hb | ⟨A,hA,rfl⟩)
  ·exact .inl hb
  ·exact .inr (h.off r _ A hr hmut hA)
 ·rintro b (hb | ⟨A,hA,rfl⟩)
  ·exact h.dom b hb
  ·exact((h.ent r _ hr).blk hmut hA).2.1
 ·intro x e' b' hx hm' hb'
  rw[lkA_ins] at hx
  split at hx
  ·cases hx;cases hm'
  ·exact h.off x e' b' hx hm' hb'
 ·rw[lkA_ins] at hx
  split at hx
  ·rename_i ex;subst ex;cases hx
   exact OwnR.slR (S':=fun b=>S b ∨ ∃ A,(θ x).A=some A∧b=A.block) (h.ent x _ hr) (fun b hb=>Or.inl hb) fun b hb=>Or.inr ⟨b,hb,rfl⟩
  ·rename_i ex
   refine(h.ent x e' hx).keep (p:=fun _=>True) (fun _ _=>rfl) trivial ?_ (fun b hb=> .inl hb) (Keep.refl _ _) fun hm' b' hb'=>?_
   ·cases e' with
    | var cs t=>exact RxC.grow.allAll cs
    | own=>trivial
    | ro=>trivial
   ·have h2:=(h.ent x e' hx).blk hm' hb'
    refine⟨rfl,?_⟩
    rintro (hS | ⟨A,hA,hAb⟩)
    ·exact h2.1 hS
    ·exact ex (h.inj x r e' _ b' A hx hr hm' hmut hb' hA hAb)
 ·intro x x' e1 e2 b1 b2 h1 h2 m1 m2 hb1 hb2 hbb
  rw[lkA_ins] at h1 h2
  split at h1
  ·cases h1;cases m1
  ·split at h2
   ·cases h2;cases m2
   ·exact h.inj x x' e1 e2 b1 b2 h1 h2 m1 m2 hb1 hb2 hbb
end
end Go.Proofs.YtapfpflmcgfbkaaGreatDoor.Ri

namespace Go.Proofs.YtapfpflmcgfbkaaGreatDoor.Fw
open Go.RowKit
set_option linter.unusedVariables false
inductive V where
 | v (x:Value)
 | sl (r len:Nat)
 | pt (r off:Nat)
 | ag (cs:List V)
 | fn (f:FuncId) (cs:List V)
 | tu (cs:List V)
 | gd (b:Bool) (x:V)
structure Loc where
 A:Option Addr
 cap:Nat
 F:List Nat
def selfρ (a:Act):List (Nat×Value):=(List.range a.tmps.size).map fun t=>(t,a.tmps.getD t undef)
theorem lk?_self : ∀ (l : List Nat) (f : Nat → Value) (t : Nat), lk? (l.map fun t => (t, f t)) t = if t ∈ l then some (f t) else none
 | [],f,t=>rfl
 | x :: r, f, t => by
  simp only[List.map_cons,lk?,lk?_self r f t]
  by_cases e:x=t
  ·subst e;simp
  ·have:Nat.beq x t=false:=by
    cases h:Nat.beq x t
    ·rfl
    ·exact absurd (Nat.eq_of_beq_eq_true h) e
   have e': ¬ t=x:=fun h=>e h.symm
   simp[this,e']
theorem Env.self (a:Act) (hd:a.defers=[]):Env a.tmps.size (selfρ a) a:=by
 refine⟨rfl,hd,fun t v h=>?_⟩
 unfold selfρ at h
 rw[lk?_self] at h
 split at h
 ·cases h;rfl
 ·cases h
section
variable {n:Nat} {θ θ':List Loc} {ρ:List (Nat×V)} {a:Act}
end
inductive Fk (α:Type):Type 1 where
 | int (g:α→Int)
 | byte (g:α→UInt8)
 | bool (g:α→Bool)
 | str (g:α→ByteArray)
 | sl (β:Type) (d:Dat β) (g:α→List β)
def Fk.rd {α:Type} (S:Nat→Prop) (w:World) (x:α) (v:Value):Fk α→Prop
 | .int g=>v= .int .i64 (g x)∧I64 (g x)
 | .byte g=>v= .int .u8 (g x).toNat
 | .bool g=>v= .bool (g x)
 | .str g=>v= .string (g x)∧(g x).size≤maxLen
 | .sl _ _ g=>SlR S w v (g x)
def Fk.own {α:Type} (w:World) (x:α) (v:Value) (F:List Nat):Fk α→Prop
 | .int g=>(v= .int .i64 (g x)∧I64 (g x))∧F=[]
 | .byte g=>v= .int .u8 (g x).toNat∧F=[]
 | .bool g=>v= .bool (g x)∧F=[]
 | .str g=>(v= .string (g x)∧(g x).size≤maxLen)∧F=[]
 | .sl _ _ g=>SlO w v (g x) F
def Fk.good {α:Type} (x:α):Fk α→Prop
 | .int g=>I64 (g x)
 | .byte _=>True
 | .bool _=>True
 | .str g=>(g x).size≤maxLen
 | .sl _ _ g=>(g x).length≤9223372036854775807
def RdL {α:Type} (S:Nat→Prop) (w:World) (x:α):List (Fk α)→List Value→Prop
 | [],cs=>cs=[]
 | f::fs,cs=> ∃ v r,cs=v::r∧f.rd S w x v∧RdL S w x fs r
def OwL {α:Type} (w:World) (x:α):List (Fk α)→List Value→List Nat→Prop
 | [],cs,F=>cs=[]∧F=[]
 | f::fs,cs,F=> ∃ v r G H,cs=v::r∧F=G++H∧f.own w x v G∧OwL w x fs r H
def GdL {α:Type} (x:α):List (Fk α)→Prop
 | []=>True
 | f::fs=>f.good x∧GdL x fs
class Str (α:Type) [Dat α] where
 fk:List (Fk α)
 op: ∀ {S:Nat→Prop} {w:World} {cs:List Value} {x:α},Dat.rd S w cs x→RdL S w x fk cs
 cl: ∀ {S:Nat→Prop} {w:World} {cs:List Value} {x:α},RdL S w x fk cs→Dat.rd S w cs x
 oop: ∀ {w:World} {cs:List Value} {x:α} {F:List Nat},Dat.own w cs x F→OwL w x fk cs F
 omk: ∀ {w:World} {cs:List Value} {x:α} {F:List Nat},OwL w x fk cs F→Dat.own w cs x F
 gd: ∀ {x:α},Dat.good x→GdL x fk
instance:Str Int where
 fk:=[.int id]
 op h:=⟨_,[],h.1,⟨rfl,h.2⟩,rfl⟩
 cl h:=by obtain⟨v,r,rfl,⟨rfl,hg⟩,rfl⟩:=h;exact⟨rfl,hg⟩
 oop h:=⟨_,[],[],[],h.1.1,by rw[h.2];rfl,⟨⟨rfl,h.1.2⟩,rfl⟩,rfl,rfl⟩
 omk h:=by obtain⟨v,r,G,H,rfl,rfl,⟨⟨rfl,hg⟩,rfl⟩,rfl,rfl⟩:=h;exact⟨⟨rfl,hg⟩,rfl⟩
 gd h:=⟨h,trivial⟩
instance:Str UInt8 where
 fk:=[.byte id]
 op h:=⟨_,[],h.1,rfl,rfl⟩
 cl h:=by obtain⟨v,r,rfl,rfl,rfl⟩:=h;exact⟨rfl,trivial⟩
 oop h:=⟨_,[],[],[],h.1.1,by rw[h.2];rfl,⟨rfl,rfl⟩,rfl,rfl⟩
 omk h:=by obtain⟨v,r,G,H,rfl,rfl,⟨rfl,rfl⟩,rfl,rfl⟩:=h;exact⟨⟨rfl,trivial⟩,rfl⟩
 gd h:=⟨trivial,trivial⟩
instance:Str ByteArray where
 fk:=[.str id]
 op h:=⟨_,[],h.1,⟨rfl,h.2⟩,rfl⟩
 cl h:=by obtain⟨v,r,rfl,⟨rfl,hg⟩,rfl⟩:=h;exact⟨rfl,hg⟩
 oop h:=⟨_,[],[],[],h.1.1,by rw[h.2];rfl,⟨⟨rfl,h.1.2⟩,rfl⟩,rfl,rfl⟩
 omk h:=by obtain⟨v,r,G,H,rfl,rfl,⟨⟨rfl,hg⟩,rfl⟩,rfl,rfl⟩:=h;exact⟨⟨rfl,hg⟩,rfl⟩
 gd h:=⟨h,trivial⟩
instance {β:Type} [Dat β]:Str (List β) where
 fk:=[.sl β _ id]
 op h:=by obtain⟨v,rfl,h⟩:=h;exact⟨v,[],rfl,h,rfl⟩
 cl h:=by obtain⟨v,r,rfl,h,rfl⟩:=h;exact⟨v,rfl,h⟩
 oop h:=by obtain⟨v,rfl,h⟩:=h;exact⟨v,[],_,[],rfl,(List.append_nil _).symm,h,rfl,rfl⟩
 omk h:=by obtain⟨v,r,G,H,rfl,rfl,h,rfl,rfl⟩:=h;rw[List.append_nil];exact⟨v,rfl,h⟩
 gd h:=⟨h.1,trivial⟩
inductive En:Type 1 where
 | var (cs:List V) (T:TypeId)
 | own (α:Type) (d:Dat α) (xs:List α)
 | ros (α:Type) (d:Dat α) (xs:List α)
 | roc (cs:List V)
 | lit (cs:List V) (T:TypeId) (n:Nat)
 | itr (s:ByteArray) (pos:Nat)
 | any (P:Loc→World→Prop)
 | pin (l:Loc)
inductive TI where
 | no
 | one
 | int (k:IntKind)
 | bool
 | str
 | sl (e sz bytes:Nat)
 | st (n:Nat) (offs:List (Nat×Nat))
def chkFSz (P:Program) (t f s:Nat):Bool:=match P.underlying t with
  | some (.struct fs) => (match fs[f]? with
    | some fd => (match P.info? fd.type with
      | some i=>Nat.beq i.size s
      | none=>false)
    | none=>false)
  | _=>false
def fieldsChk (P:Program) (t:Nat):Nat→List (Nat×Nat)→Bool
 | f,[]=>(match P.underlying t with | some (.struct fs)=>Nat.beq fs.size f | _=>false)
 | f,o::r=>(chkField P t f o.1&&chkFSz P t f o.2)&&fieldsChk P t (f+1) r
def TI.chk (P:Program) (t:Nat):TI→Bool
 | .no=>true
 | .one=>chkOne P t
 | .int k=>chkOne P t&&(match P.underlying t with | some (.int k')=>decide (k'=k) | _=>false)
 | .bool=>chkOne P t&&(match P.underlying t with | some .bool=>true | _=>false)
 | .str=>chkOne P t&&(match P.underlying t with | some .string=>true | _=>false)
 | .sl e sz b=>chkOne P t&&chkSlice P t e sz b
 | .st n offs=>chkAgg P t n&&fieldsChk P t 0 offs
theorem fieldsChk_spec {P:Program} {t:Nat}: ∀ {offs:List (Nat×Nat)} {f0 f:Nat} {o:Nat×Nat},fieldsChk P t f0 offs=true→offs[f]?=some o→chkField P t (f0+f) o.1=true∧chkFSz P t (f0+f) o.2=true
 | [],_,_,_,_,h=>by simp at h
 | x :: r, f0, f, o, h, hf => by
  simp only[fieldsChk,Bool.and_eq_true] at h
  cases f with
  | zero=>simp at hf;subst hf;exact h.1
  | succ f =>
   have:=fieldsChk_spec (f0:=f0+1) (f:=f) h.2 (by simpa using hf)
   rwa [show f0+1+f=f0+(f+1) by omega] at this
def TI.cells:TI→Option Nat
 | .no=>none
 | .st n _=>some n
 | _=>some 1
theorem TI.one_of {P:Program} {t:Nat} {i:TI} (h:i.chk P t=true):(∃ n offs,i= .st n offs)∨i= .no∨(chkOne P t=true∧i.cells=some 1):=by
 cases i with
 | no=>exact .inr (.inl rfl)
 | st n o=>exact .inl ⟨n,o,rfl⟩
 | one=>exact .inr (.inr ⟨h,rfl⟩)
 | int k=>simp only[TI.chk,Bool.and_eq_true] at h;exact .inr (.inr ⟨h.1,rfl⟩)
 | bool=>simp only[TI.chk,Bool.and_eq_true] at h;exact .inr (.inr ⟨h.1,rfl⟩)
 | str=>simp only[TI.chk,Bool.and_eq_true] at h;exact .inr (.inr ⟨h.1,rfl⟩)
 | sl e s b=>simp only[TI.chk,Bool.and_eq_true] at h;exact .inr (.inr ⟨h.1,rfl⟩)
structure St where
 n:Nat
 m:Nat
 ρ:List (Nat×V)
 E:List (Nat×En)
structure Cx where
 P:Program
 fn:Func
 ti:Nat→TI
 zr:Nat→Option Value
 G:World→Prop
 S0:Nat→Prop
 w0:World
 tiok: ∀ t,(ti t).chk P t=true
 zok: ∀ t z,zr t=some z→ ∀ w,(zeroValue t).run P w= .ok z w
 gok: ∀ w,Keep S0 w0 w→G w
 base: ∀ b,S0 b→b<w0.heap.size
 Q:(World→Value→Prop)→World→Value→Prop
section
variable {c:Cx} {θ θ':List Loc} {E:List (Nat×En)} {S:Nat→Prop} {w1 w w':World} {σ:St} {a:Act}
end
end Go.Proofs.YtapfpflmcgfbkaaGreatDoor.Fw

namespace Go.Proofs.YtapfpflmcgfbkaaGreatDoor.Fw
open Go.RowKit
set_option linter.unusedVariables false
def ikq:IntKind→IntKind→Bool
 | .i64,.i64=>true
 | .u8,.u8=>true
 | .i32,.i32=>true
 | .u64,.u64=>true
 | .u32,.u32=>true
 | _,_=>false
theorem ikq_spec {k q:IntKind} (h:ikq k q=true):k=q:=by
 cases k<;>cases q<;>first | rfl | (simp[ikq] at h)
def andI (k:IntKind) (x y:Int):Int:=k.wrap ((BitVec.ofInt k.bits x &&& BitVec.ofInt k.bits y).toNat:Int)
def orI (k:IntKind) (x y:Int):Int:=k.wrap ((BitVec.ofInt k.bits x ||| BitVec.ofInt k.bits y).toNat:Int)
def xorI (k:IntKind) (x y:Int):Int:=k.wrap ((BitVec.ofInt k.bits x ^^^ BitVec.ofInt k.bits y).toNat:Int)
theorem y_and {P:Program} {n:Nat} {ρ:List (Nat×Value)} {a:Act} {w:World} {ty:TypeId} (hE:Env n ρ a) {x y:Operand} {t t':Nat} {k:IntKind} {i j:Int} (hx:ev? ρ x=some (.int k i)) (hy:ev? ρ y=some (.int k j)):
  Yields P a w (.binOp .and t x y t') ty (.int k (andI k i j)):=y_binop hE hx hy (by rw[show binOp .and t (.int k i) (.int k j)=pure (.int k (andI k i j)) from by simp[binOp,Op.intBits,andI]];rfl)
theorem y_or {P:Program} {n:Nat} {ρ:List (Nat×Value)} {a:Act} {w:World} {ty:TypeId} (hE:Env n ρ a) {x y:Operand} {t t':Nat} {k:IntKind} {i j:Int} (hx:ev? ρ x=some (.int k i)) (hy:ev? ρ y=some (.int k j)):
  Yields P a w (.binOp .or t x y t') ty (.int k (orI k i j)):=y_binop hE hx hy (by rw[show binOp .or t (.int k i) (.int k j)=pure (.int k (orI k i j)) from by simp[binOp,Op.intBits,orI]];rfl)
theorem y_xor {P:Program} {n:Nat} {ρ:List (Nat×Value)} {a:Act} {w:World} {ty:TypeId} (hE:Env n ρ a) {x y:Operand} {t t':Nat} {k:IntKind} {i j:Int} (hx:ev? ρ x=some (.int k i)) (hy:ev? ρ y=some (.int k j)):
  Yields P a w (.binOp .xor t x y t') ty (.int k (xorI k i j)):=y_binop hE hx hy (by rw[show binOp .xor t (.int k i) (.int k j)=pure (.int k (xorI k i j)) from by simp[binOp,Op.intBits,xorI]];rfl)
def bi (op:BinOp) (k:IntKind) (i j:Int):Option Value:=
 match op with
 | .add=>some (.int k (k.wrap (i+j)))
 | .sub=>some (.int k (k.wrap (i - j)))
 | .mul=>some (.int k (k.wrap (i*j)))
 | .lss=>some (.bool (decide (i<j)))
 | .leq=>some (.bool (decide (i≤j)))
 | .gtr=>some (.bool (decide (i>j)))
 | .geq=>some (.bool (decide (i≥j)))
 | .eql=>some (.bool (decide (i=j)))
 | .neq=>some (.bool (!decide (i=j)))
 | .and=>some (.int k (andI k i j))
 | .or=>some (.int k (orI k i j))
 | .xor=>some (.int k (xorI k i j))
 | _=>none
def bs (op:BinOp) (i j:ByteArray):Option Value:=
 match op with
 | .eql=>some (.bool (decide (i=j)))
 | .neq=>some (.bool (!decide (i=j)))
 | _=>none
def bb (op:BinOp) (t:TI) (i j:Bool):Option Value:=
 match op,t with
 | .eql,.bool=>some (.bool (decide (i=j)))
 | .neq,.bool=>some (.bool (!decide (i=j)))
 | _,_=>none
def bin (op:BinOp) (t:TI):Value→Value→Option Value
 | .int k i,.int q j=>bif ikq k q then bi op k i j else none
 | .string i,.string j=>bs op i j
 | .bool i,.bool j=>bb op t i j
 | _,_=>none
theorem bin_ok {P:Program} {n:Nat} {ρ:List (Nat×Value)} {a:Act} {w:World} {ty:TypeId} (hE:Env n ρ a) {x y:Operand} {t t':Nat} {i:TI} (hi:i.chk P t=true) {op:BinOp} {u v r:Value}
  (hx:ev? ρ x=some u) (hy:ev? ρ y=some v) (h:bin op i u v=some r):Yields P a w (.binOp op t x y t') ty r:=by
 unfold bin at h
 split at h
 ·rename_i k a1 q b1
  cases hk:ikq k q with
  | false=>rw[hk] at h;cases h
  | true =>
   rw[hk] at h
   obtain rfl:=ikq_spec hk
   cases op<;>simp only[bi,cond_true] at h<;>cases h<;>first
     | exact y_add hE hx hy | exact y_sub hE hx hy | exact y_mul hE hx hy | exact y_lss hE hx hy | exact y_leq hE hx hy | exact y_gtr hE hx hy | exact y_geq hE hx hy | exact y_eql hE hx hy | exact y_neq hE hx hy | exact y_and hE hx hy | exact y_or hE hx hy | exact y_xor hE hx hy
 ·cases op<;>simp only[bs] at h<;>cases h<;>first | exact y_eql_string hE hx hy | exact y_neq_string hE hx hy
 ·cases op<;>cases i<;>simp only[bb] at h<;>cases h
  all_goals
   simp only[TI.chk,Bool.and_eq_true] at hi
   have hu:P.underlying t=some .bool:=by
    have:=hi.2
    split at this
    ·assumption
    ·cases this
   first | exact y_eql_bool hE hx hy hu | exact y_neq_bool hE hx hy hu
 ·cases h
theorem foldl_splice (off:Nat) (ds:List Value) (cs:Array Value) (h:off+ds.length≤cs.size):((ds.zipIdx 0).foldl (fun cs (x:Value×Nat)=>cs.setIfInBounds (off+x.2) x.1) cs)=(cs.toList.take off++ds++cs.toList.drop (off+ds.length)).toArray:=by
 obtain⟨h1,h2⟩:=Go.Great.foldl_set off ds 0 cs
 apply Array.ext_getElem?
 intro k
 rw[h2 k]
 have hl:cs.toList.length=cs.size:=Array.length_toList
 simp only[Nat.add_zero,List.getElem?_toArray]
 rw[List.append_assoc]
 by_cases hk:k<off
 ·rw[if_neg (by omega),List.getElem?_append_left (by rw[List.length_take];omega),List.getElem?_take,if_pos hk,Array.getElem?_toList]
 ·rw[List.getElem?_append_right (by rw[List.length_take];omega),List.length_take,Nat.min_eq_left (by omega)]
  by_cases hk2:k<off+ds.length
  ·rw[if_pos (by omega),List.getElem?_append_left (by omega)]
  ·rw[if_neg (by omega),List.getElem?_append_right (by omega),List.getElem?_drop,Array.getElem?_toList]
   congr 1
   omega
theorem fieldsChk_all {P:Program} {t:Nat}: ∀ {offs:List (Nat×Nat)} {f0:Nat},fieldsChk P t f0 offs=true→ ∃ fs,P.underlying t=some (.struct fs)∧fs.size=f0+offs.length
 | [], f0, h => by
  simp only[fieldsChk] at h
  split at h
  ·rename_i fs hu
   exact⟨fs,hu,Nat.eq_of_beq_eq_true h⟩
  ·cases h
 | o :: r, f0, h => by
  simp only[fieldsChk,Bool.and_eq_true] at h
  obtain⟨fs,hu,hs⟩:=fieldsChk_all h.2
  exact⟨fs,hu,by rw[hs,List.length_cons];omega⟩
theorem run_places {P:Program} {w:World}: ∀ (l:List Field) (ps:List (Nat×Nat)),l.length=ps.length→(∀ (i:Nat) (fd:Field) (o:Nat×Nat),l[i]?=some fd→ps[i]?=some o→fd.offset=o.1∧(sizeOf fd.type).run P w= .ok o.2 w)→
  (l.mapM (m:=Sem) fun f=>do pure (f.offset,←sizeOf f.type)).run P w= .ok ps w
 | [],[],_,_=>by simp
 | [],_::_,h,_=>by simp at h
 | _::_,[],h,_=>by simp at h
 | fd :: l, o :: ps, hl, h => by
  have h0:=h 0 fd o rfl rfl
  have ih:=run_places (P:=P) (w:=w) l ps (by simpa using hl) fun i fd o h1 h2=>h (i+1) fd o (by simpa using h1) (by simpa using h2)
  rw[List.mapM_cons]
  simp only[Sem.run_bind,Sem.run_pure,Result.andThen_ok,h0.2,ih,h0.1]
end Go.Proofs.YtapfpflmcgfbkaaGreatDoor.Fw

namespace Go.Proofs.YtapfpflmcgfbkaaGreatDoor.Fw
open Go.RowKit
set_option linter.unusedVariables false
def pack:List Value→Value
 | [v]=>v
 | vs=> .tuple vs.toArray
theorem slO_loc {α:Type} [Dat α] {w:World} {v:Value} {xs:List α} {F:List Nat} (h:SlO w v xs F): ∃ l:Loc,v= .slice l.A xs.length l.cap∧l.F=F:=by
 obtain⟨A,cap,rfl,_⟩:=(h.rd (B:=Old w) fun b hb=>h.lt b hb).form
 exact⟨⟨A,cap,F⟩,rfl,rfl⟩
end Go.Proofs.YtapfpflmcgfbkaaGreatDoor.Fw

namespace Go.Proofs.YtapfpflmcgfbkaaGreatDoor.Fw
open Go.RowKit
set_option linter.unusedVariables false
theorem TI.cells_size {P:Program} {t n:Nat} {i:TI} (h:i.chk P t=true) (hn:i.cells=some n) (w:World):(sizeOf t).run P w= .ok n w:=by
 rcases TI.one_of h with ⟨m,o,rfl⟩ | rfl | ⟨h1,h2⟩
 ·cases hn
  simp only[TI.chk,Bool.and_eq_true] at h
  exact(chkAgg_isAgg h.1 w).2
 ·cases hn
 ·rw[h2] at hn;cases hn
  exact(chkOne_isAgg h1 w).2
section
variable {c:Cx} {σ σ':St} {θ:List Loc} {a:Act} {w:World} {ty:TypeId} {pos:String} {after:Array Edge} {g:Option (Nat×Bool)} {K:Act→World→Prop} {Q:Exit→Act→World→Prop}
end
end Go.Proofs.YtapfpflmcgfbkaaGreatDoor.Fw

namespace Go.Proofs.YtapfpflmcgfbkaaGreatDoor.Fw
open Go.RowKit
set_option linter.unusedVariables false
section
variable {c:Cx} {θ:List Loc} {E:List (Nat×En)} {S:Nat→Prop} {w1 w:World}
end
section
variable {c:Cx} {θ:List Loc} {E:List (Nat×En)} {S:Nat→Prop} {w1 w:World}
end
def rvS (tmps:Array Value):ResultVar→Sem Value
 | .tmp t=>pure (tmps.getD t undef)
 | .cell a t=>do loadVar t (←asAddr (tmps.getD a undef))
def RvL (P:Program) (w:World) (tmps:Array Value):List ResultVar→List Value→Prop
 | [],us=>us=[]
 | r::rs,us=> ∃ u us',us=u::us'∧(rvS tmps r).run P w= .ok u w∧RvL P w tmps rs us'
theorem results_rv {fn:Func} {rs:List ResultVar} {us:List Value} (h:fn.results.toList=rs) (hl:Nat.ble rs.length 4=true) {tmps:Array Value} {P:Program} {w:World} (hr:RvL P w tmps rs us):(results fn tmps).run P w= .ok (pack us) w:=by
 have h':fn.results=rs.toArray:=Array.toList_inj.1 h
 have e:results fn tmps=(do
   let vs ←fn.results.mapM (rvS tmps)
   pure (if h:vs.size=1 then vs[0] else .tuple vs)):=rfl
 rw[e,h']
 match rs,hl,hr with
 | [],_,hr=>obtain rfl:=hr;simp[pack]
 | [a],_,⟨u,_,e1,h1,e2⟩=>cases e2;cases e1;simp[pack,h1]
 | [a,b],_,⟨u,_,e1,h1,⟨u2,_,e3,h2,e4⟩⟩=>cases e4;cases e3;cases e1;simp[pack,h1,h2]
 | [a,b,c],_,⟨u,_,e1,h1,⟨u2,_,e3,h2,⟨u3,_,e5,h3,e6⟩⟩⟩=>cases e6;cases e5;cases e3;cases e1;simp[pack,h1,h2,h3]
 | [a,b,c,d],_,⟨u,_,e1,h1,⟨u2,_,e3,h2,⟨u3,_,e5,h3,⟨u4,_,e7,h4,e8⟩⟩⟩⟩=>cases e8;cases e7;cases e5;cases e3;cases e1;simp[pack,h1,h2,h3,h4]
 | a::b::c::d::e::r,hl,_=>simp at hl
end Go.Proofs.YtapfpflmcgfbkaaGreatDoor.Fw

namespace Go.Proofs.YtapfpflmcgfbkaaGreatDoor.Fw
open Go.RowKit
set_option linter.unusedVariables false
section
variable {c:Cx} {σ:St} {all:Array Oper} {ty:TypeId} {pos:String} {after:Array Edge} {d:Nat}
def byteAt (s:ByteArray) (k:Nat):UInt8:=s.data.getD k 0
theorem y_index_str {P:Program} {n:Nat} {ρ:List (Nat×Value)} {a:Act} {w:World} (hE:Env n ρ a) {x y:Operand} {t:Nat} {s:ByteArray} {i:Int} {k:Nat} (hx:ev? ρ x=some (.string s)) (hy:ev? ρ y=some (.int .i64 i)) (hi:i=k) (hk:k<s.size) (hu:P.underlying t=some .string):
  Yields P a w (.index t x y) ty (.int .u8 (byteAt s k).toNat):=by
 intro _ _ _ _
 subst hi
 have h1:s[k]?=some (byteAt s k):=by
  simp[byteAt,getElem?_pos,hk,Array.getD_eq_getD_getElem?]
  rfl
 simp[execOp,hE.eval hx,hE.eval hy,Instr.index,asIntOf,run_underlying hu,h1]
end
end Go.Proofs.YtapfpflmcgfbkaaGreatDoor.Fw

namespace Go.Proofs.YtapfpflmcgfbkaaGreatDoor.Fw
open Go.RowKit
set_option linter.unusedVariables false
theorem gi (n:Int) (h: -9223372036854775808≤n∧n≤9223372036854775807:=by decide):I64 n:=by unfold I64;omega
end Go.Proofs.YtapfpflmcgfbkaaGreatDoor.Fw

namespace Go.Proofs.YtapfpflmcgfbkaaGreatDoor.Fw
open Go.RowKit
set_option linter.unusedVariables false
theorem made_cut {zs:Array Value} {sz m i:Nat} (hz:zs.size=sz) (hp:0<sz) (hi:i<m):cut sz ((Array.range (m*sz)).map (fun j=>zs[j % zs.size]!)).toList i=zs.toList:=by
 have hle:i*sz+sz≤m*sz:=by
  have:(i+1)*sz≤m*sz:=Nat.mul_le_mul_right _ hi
  rwa [Nat.add_mul,Nat.one_mul] at this
 unfold cut
 refine List.ext_getElem? fun j=>?_
 by_cases hj:j<sz
 ·rw[List.getElem?_take_of_lt hj,List.getElem?_drop]
  have h1:i*sz+j<m*sz:=by omega
  rw[Array.getElem?_toList,Array.getElem?_map]
  rw[Array.getElem?_eq_getElem (by simpa using h1)]
  simp only[Array.getElem_range,Option.map_some,hz]
  rw[Nat.mul_comm,Nat.mul_add_mod,Nat.mod_eq_of_lt hj,Array.getElem?_toList,getElem!_pos zs j (by omega),Array.getElem?_eq_getElem (by omega)]
 ·rw[List.getElem?_eq_none (by simp;omega),List.getElem?_eq_none (by simp;omega)]
section
variable {c:Cx} {σ:St} {all:Array Oper} {ty:TypeId} {pos:String} {after:Array Edge} {d:Nat}
end
section
variable {θ:List Loc} {r q:Nat} {l l':Loc}
end
end Go.Proofs.YtapfpflmcgfbkaaGreatDoor.Fw

namespace Go.Proofs.YtapfpflmcgfbkaaGreatDoor.Fw
open Go.RowKit
set_option linter.unusedVariables false
section
variable {c:Cx} {σ:St} {all:Array Oper} {ty:TypeId} {pos:String} {after:Array Edge} {d:Nat}
end
def bstr (xs:List UInt8):ByteArray:=⟨xs.toArray⟩
def sbytes (s:ByteArray):List UInt8:=s.data.toList
section
variable {c:Cx} {σ:St} {all:Array Oper} {ty:TypeId} {pos:String} {after:Array Edge} {d:Nat}
end
section
variable {c:Cx} {σ:St} {all:Array Oper} {ty:TypeId} {pos:String} {after:Array Edge} {d:Nat}
def cutS (s:ByteArray) (l h:Nat):ByteArray:=s.extract l h
theorem cutS_size {s:ByteArray} {l h:Nat} {m:Nat} (hs:s.size≤m):(cutS s l h).size≤m:=by
 unfold cutS
 rw[ByteArray.size_extract]
 omega
def cutL {α:Type} (xs:List α) (l h:Nat):List α:=(xs.take h).drop l
end
end Go.Proofs.YtapfpflmcgfbkaaGreatDoor.Fw

namespace Go.Proofs.YtapfpflmcgfbkaaGreatDoor.Fw
open Go.RowKit
set_option linter.unusedVariables false
set_option maxRecDepth 100000
section
variable {f:List Nat} {m:Nat} {θ1 θ2:List Loc}
end
def shrI (k:IntKind) (x y:Int):Int:=x.fdiv (2 ^ (min y.toNat k.bits))
def shlI (k:IntKind) (x y:Int):Int:=k.wrap (x*2 ^ (min y.toNat k.bits))
section
variable {c:Cx} {σ:St} {all:Array Oper} {ty:TypeId} {pos:String} {after:Array Edge} {d:Nat}
theorem y_shr {P:Program} {n:Nat} {ρ:List (Nat×Value)} {a:Act} {w:World} {ty:TypeId} (hE:Env n ρ a) {x y:Operand} {t t':Nat} {k q:IntKind} {i j:Int} (hx:ev? ρ x=some (.int k i)) (hy:ev? ρ y=some (.int q j)) (hj:0≤j):
  Yields P a w (.binOp .shr t x y t') ty (.int k (shrI k i j)):=by
 intro _ _ _ _
 have h: ¬ j<0:=by omega
 simp[execOp,hE.eval hx,hE.eval hy,binOp,Op.shift,shrI,eqGuard,h]
theorem y_shl {P:Program} {n:Nat} {ρ:List (Nat×Value)} {a:Act} {w:World} {ty:TypeId} (hE:Env n ρ a) {x y:Operand} {t t':Nat} {k q:IntKind} {i j:Int} (hx:ev? ρ x=some (.int k i)) (hy:ev? ρ y=some (.int q j)) (hj:0≤j):
  Yields P a w (.binOp .shl t x y t') ty (.int k (shlI k i j)):=by
 intro _ _ _ _
 have h: ¬ j<0:=by omega
 simp[execOp,hE.eval hx,hE.eval hy,binOp,Op.shift,shlI,eqGuard,h]
end
section
variable {f:List Nat} {θ1 θ2:List Loc}
end
section
variable {c:Cx} {σ:St} {all:Array Oper} {ty:TypeId} {pos:String} {after:Array Edge} {d:Nat}
end
end Go.Proofs.YtapfpflmcgfbkaaGreatDoor.Fw

namespace Go.Proofs.YtapfpflmcgfbkaaGreatDoor.Fw
open Go.RowKit
set_option linter.unusedVariables false
set_option maxRecDepth 100000
def flats {α:Type}:List (Fk α)→Bool
 | []=>true
 | .int _::r=>flats r
 | .byte _::r=>flats r
 | .bool _::r=>flats r
 | .str _::r=>flats r
 | .sl _ _ _::_=>false
theorem flat_OwL {α:Type} {S:Nat→Prop} {w w':World} {x:α}: ∀ {fs:List (Fk α)} {cs:List Value},flats fs=true→RdL S w x fs cs→OwL w' x fs cs []
 | [],_,_,h=>⟨h,rfl⟩
 | f :: fs, _, hf, ⟨v, r, e, hv, hr⟩ => by
  refine⟨v,r,[],[],e,rfl,?_,?_⟩
  ·cases f<;>first | exact⟨hv,rfl⟩ | cases hf
  ·exact flat_OwL (by cases f<;>first | exact hf | cases hf) hr
theorem flat_own {α:Type} [d:Dat α] (s:Str α) (hf:flats s.fk=true) {S:Nat→Prop} {w w':World} {cs:List Value} {x:α} (h:Dat.rd S w cs x):Dat.own w' cs x []:=s.omk (flat_OwL hf (s.op h))
section
variable {c:Cx} {σ:St} {all:Array Oper} {ty:TypeId} {pos:String} {after:Array Edge} {d:Nat}
end
end Go.Proofs.YtapfpflmcgfbkaaGreatDoor.Fw

namespace Go.Proofs.YtapfpflmcgfbkaaGreatDoor.Fw
open Go.RowKit
set_option linter.unusedVariables false
set_option maxRecDepth 100000
section
variable {P:Program} {n:Nat} {ρ:List (Nat×Value)} {a:Act} {w:World} {ty:TypeId}
theorem y_min (hE:Env n ρ a) {x y:Operand} {ts:Array TypeId} {k q:IntKind} {i j:Int} (hx:ev? ρ x=some (.int k i)) (hy:ev? ρ y=some (.int q j)):
    Yields P a w (.call { callee:= .builtin .min,args:= #[x,y],argTypes:=ts }) ty (.int k (min i j)):=by
  intro _ _ _ _
  have e:(if j<i then j else i)=min i j:=by split<;>omega
  simp[execOp,resolve,hE.eval hx,hE.eval hy,invoke,builtin,Builtin.min_,Builtin.min2,e]
theorem y_max (hE:Env n ρ a) {x y:Operand} {ts:Array TypeId} {k q:IntKind} {i j:Int} (hx:ev? ρ x=some (.int k i)) (hy:ev? ρ y=some (.int q j)):
    Yields P a w (.call { callee:= .builtin .max,args:= #[x,y],argTypes:=ts }) ty (.int k (max i j)):=by
  intro _ _ _ _
  have e:(if i<j then j else i)=max i j:=by split<;>omega
  simp[execOp,resolve,hE.eval hx,hE.eval hy,invoke,builtin,Builtin.max_,Builtin.max2,e]
theorem y_min3 (hE:Env n ρ a) {x y z:Operand} {ts:Array TypeId} {k q q':IntKind} {i j m:Int} (hx:ev? ρ x=some (.int k i)) (hy:ev? ρ y=some (.int q j)) (hz:ev? ρ z=some (.int q' m)):
    Yields P a w (.call { callee:= .builtin .min,args:= #[x,y,z],argTypes:=ts }) ty (.int k (min (min i j) m)):=by
  intro _ _ _ _
  have e:(if j<i then j else i)=min i j:=by split<;>omega
  have e':(if m<min i j then m else min i j)=min (min i j) m:=by split<;>omega
  simp[execOp,resolve,hE.eval hx,hE.eval hy,hE.eval hz,invoke,builtin,Builtin.min_,Builtin.min2,e,e']
def ltB (x y:ByteArray):Bool:=Op.bytesLess x.toList y.toList
theorem y_lss_string (hE:Env n ρ a) {x y:Operand} {t t':Nat} {i j:ByteArray} (hx:ev? ρ x=some (.string i)) (hy:ev? ρ y=some (.string j)):
  Yields P a w (.binOp .lss t x y t') ty (.bool (ltB i j)):=by
 intro _ _ _ _
 simp only[execOp,hE.eval hx,hE.eval hy,eqGuard_at_string,binOp,Op.stringOp,string_eq,Sem.run_bind,Sem.run_pure,Result.andThen_ok,ltB]
theorem y_leq_string (hE:Env n ρ a) {x y:Operand} {t t':Nat} {i j:ByteArray} (hx:ev? ρ x=some (.string i)) (hy:ev? ρ y=some (.string j)):
  Yields P a w (.binOp .leq t x y t') ty (.bool (ltB i j||decide (i=j))):=by
 intro _ _ _ _
 simp only[execOp,hE.eval hx,hE.eval hy,eqGuard_at_string,binOp,Op.stringOp,string_eq,Sem.run_bind,Sem.run_pure,Result.andThen_ok,ltB]
theorem y_gtr_string (hE:Env n ρ a) {x y:Operand} {t t':Nat} {i j:ByteArray} (hx:ev? ρ x=some (.string i)) (hy:ev? ρ y=some (.string j)):
  Yields P a w (.binOp .gtr t x y t') ty (.bool (!(ltB i j||decide (i=j)))):=by
 intro _ _ _ _
 simp only[execOp,hE.eval hx,hE.eval hy,eqGuard_at_string,binOp,Op.stringOp,string_eq,Sem.run_bind,Sem.run_pure,Result.andThen_ok,ltB]
theorem y_geq_string (hE:Env n ρ a) {x y:Operand} {t t':Nat} {i j:ByteArray} (hx:ev? ρ x=some (.string i)) (hy:ev? ρ y=some (.string j)):
  Yields P a w (.binOp .geq t x y t') ty (.bool (!(ltB i j))):=by
 intro _ _ _ _
 simp only[execOp,hE.eval hx,hE.eval hy,eqGuard_at_string,binOp,Op.stringOp,string_eq,Sem.run_bind,Sem.run_pure,Result.andThen_ok,ltB]
end
section
variable {c:Cx} {σ:St} {all:Array Oper} {ty:TypeId} {pos:String} {after:Array Edge} {d:Nat}
def cmpB:BinOp→ByteArray→ByteArray→Option Bool
 | .lss,i,j=>some (ltB i j)
 | .leq,i,j=>some (ltB i j||decide (i=j))
 | .gtr,i,j=>some (!(ltB i j||decide (i=j)))
 | .geq,i,j=>some (!(ltB i j))
 | _,_,_=>none
end
end Go.Proofs.YtapfpflmcgfbkaaGreatDoor.Fw

namespace Go.Proofs.YtapfpflmcgfbkaaGreatDoor.Ri
open Go.Proofs.YtapfpflmcgfbkaaGreatDoor.Fw
open Go.RowKit
set_option linter.unusedVariables false
set_option linter.unusedSimpArgs false
def loK (k:IntKind):Int:=if k.signed then -(2 ^ (k.bits - 1):Int) else 0
def hiK (k:IntKind):Int:=if k.signed then(2 ^ (k.bits - 1):Int) - 1 else(2 ^ k.bits:Int) - 1
theorem wrap_in (k:IntKind) (n:Int):loK k≤k.wrap n∧k.wrap n≤hiK k:=by
 cases k<;>simp only[IntKind.wrap,loK,hiK,IntKind.bits,IntKind.signed]<;>simp<;>(try split)<;>omega
theorem wrap_id {k:IntKind} {n:Int} (h:loK k≤n∧n≤hiK k):k.wrap n=n:=by
 cases k<;>simp only[IntKind.wrap,loK,hiK,IntKind.bits,IntKind.signed] at h ⊢ <;> simp at h ⊢ <;> (try split)<;>omega
theorem good_in {k:IntKind} {n:Int} (h:k.wrap n=n):loK k≤n∧n≤hiK k:=by rw[←h];exact wrap_in k n
theorem wrap_wrap (k:IntKind) (n:Int):k.wrap (k.wrap n)=k.wrap n:=wrap_id (wrap_in k n)
theorem lo_hi (k:IntKind):loK k≤0∧0≤hiK k∧loK k≤1∧1≤hiK k:=by cases k<;>simp[loK,hiK,IntKind.bits,IntKind.signed]
theorem tmod_good {k:IntKind} {i:Int} (j:Int) (h:k.wrap i=i):k.wrap (Int.tmod i j)=Int.tmod i j:=by
 have h1:=good_in h
 have h2:=lo_hi k
 refine wrap_id ?_
 have h3:(Int.tmod i j).natAbs≤i.natAbs:=by
  rw[Int.natAbs_tmod];exact Nat.mod_le _ _
 rcases Int.lt_or_le i 0 with h4 | h4
 ·have h5:Int.tmod (-i) j= -(Int.tmod i j):=Int.neg_tmod i j
  have h6:0≤Int.tmod (-i) j:=Int.tmod_nonneg _ (by omega)
  omega
 ·have:0≤Int.tmod i j:=Int.tmod_nonneg _ h4
  omega
theorem shr_good {k:IntKind} {i:Int} (j:Int) (h:k.wrap i=i):k.wrap (shrI k i j)=shrI k i j:=by
 have h1:=good_in h
 have h2:=lo_hi k
 refine wrap_id ?_
 unfold shrI
 have hp:(0:Int)<2 ^ (min j.toNat k.bits):=Int.pow_pos (by decide)
 generalize (2:Int) ^ (min j.toNat k.bits)=m at hp
 rw[Int.fdiv_eq_ediv_of_nonneg _ (by omega)]
 rcases Int.lt_or_le i 0 with h4 | h4
 ·have h5:i≤i / m:=by
   have:=Int.le_ediv_of_mul_le (a:=i) (b:=i) hp (by
    have:=Int.mul_le_mul_of_nonpos_left (a:=i) (b:=m) (c:=1) (by omega) (by omega)
    omega)
   exact this
  have h6:i / m<0:=Int.ediv_neg_of_neg_of_pos h4 hp
  omega
 ·have h5:0≤i / m:=Int.ediv_nonneg h4 (by omega)
  have h6:i / m≤i:=Int.ediv_le_self _ h4
  omega
def goodB:Value→Bool
 | .int k n=>decide (k.wrap n=n)
 | .string s=>decide (s.size≤maxLen)
 | _=>true
theorem goodB_ok {x:Value} (h:goodB x=true):VGood x:=by
 cases x with
 | int k n=>exact(show k.wrap n=n from by simpa [goodB] using h)
 | string s=>exact(show s.size≤maxLen from by simpa [goodB] using h)
 | _=>trivial
def memG:Nat→Bool→List (Nat×Bool)→Bool
 | _,_,[]=>false
 | j,b,(j',b')::r=>bif Nat.beq j j' then(bif b==b' then true else memG j b r) else memG j b r
def slv {τ:Tab} (G:List (Nat×Bool)):Sl τ→Option (Vx τ)
 | .ok v=>some v
 | .gd j b v=>bif memG j b G then some v else none
def slO {τ:Tab} (G:List (Nat×Bool)):Option (Sl τ)→Option (Vx τ)
 | some s=>slv G s
 | none=>none
def evx {τ:Tab} (l:Nat→Option (Sl τ)) (G:List (Nat×Bool)):Operand→Option (Vx τ)
 | .tmp t=>slO G (l t)
 | .const x=>bif goodB x then some (.v x) else none
 | .global g=>some (.v (.pointer (some ⟨g,0,none⟩)))
 | .func f=>some (.fn f [])
def evsx {τ:Tab} (l:Nat→Option (Sl τ)) (G:List (Nat×Bool)):List Operand→Option (List (Vx τ))
 | []=>some []
 | x :: r => match evx l G x, evsx l G r with
  | some v,some vs=>some (v::vs)
  | _,_=>none
def Gs (G:List (Nat×Bool)) (a:Act):Prop:= ∀ j b,memG j b G=true→a.tmps.getD j undef= .bool b
theorem Gs.nil {a:Act}:Gs [] a:=fun _ _ h=>by cases h
theorem Gs.cons {G:List (Nat×Bool)} {a:Act} {j:Nat} {b:Bool} (h:a.tmps.getD j undef= .bool b) (hG:Gs G a):Gs ((j,b)::G) a:=by
 intro j' b' hm
 simp only[memG] at hm
 by_cases e:j'=j
 ·subst e
  rw[beq_t] at hm
  cases hb:b'==b
  ·rw[hb] at hm;exact hG _ _ hm
  ·have : b' = b := by simpa using hb
   rw[this];exact h
 ·rw[beq_f e] at hm;exact hG _ _ hm
section
variable {τ:Tab} {B:Bx} {θ:Nat→Lo} {S:Nat→Prop} {σ:Sx τ} {a:Act} {w:World} {l:Nat→Option (Sl τ)} {G:List (Nat×Bool)}
def Sees {β:Type} (l:Nat→Option β) (m:List (Nat×β)):Prop:= ∀ t s,l t=some s→lkA m t=some s
theorem Sees.self {β:Type} (m:List (Nat×β)):Sees (lkA m) m:=fun _ _ h=>h
theorem RxC.env (h:RxC B θ S σ a w):Env a.tmps.size (selfρ a) a:=Env.self a h.defers
theorem RxC.ev (h:RxC B θ S σ a w) (hl:Sees l σ.ρ) (hG:Gs G a) {x:Operand} {v:Vx τ} (hx:evx l G x=some v):Rep θ S w v (a.eval x)∧ev? (selfρ a) x=some (a.eval x):=by
 cases x with
 | tmp t =>
  simp only[evx] at hx
  cases hs:l t with
  | none=>rw[hs] at hx;cases hx
  | some s =>
   rw[hs] at hx
   simp only[slO] at hx
   have h1:=hl t s hs
   refine⟨?_,?_⟩
   ·have h2:=h.slot t s h1
    cases s with
    | ok v'=>cases hx;exact h2
    | gd j b v' =>
     simp only[slv] at hx
     cases hm:memG j b G with
     | false=>rw[hm] at hx;cases hx
     | true=>rw[hm] at hx;cases hx;exact h2.1 (hG j b hm)
   ·show lk? (selfρ a) t=_
    unfold selfρ
    rw[lk?_self,if_pos (by rw[h.size];exact List.mem_range.2 (h.lt t s h1))]
    rfl
 | const c =>
  simp only[evx] at hx
  cases hb:goodB c with
  | false=>rw[hb] at hx;cases hx
  | true=>rw[hb] at hx;cases hx;exact⟨⟨rfl,goodB_ok hb⟩,rfl⟩
 | global g=>cases hx;exact⟨⟨rfl,trivial⟩,rfl⟩
 | func f=>cases hx;exact⟨⟨[],rfl,rfl⟩,rfl⟩
theorem RxC.evv (h:RxC B θ S σ a w) (hl:Sees l σ.ρ) (hG:Gs G a) {x:Operand} {u:Value} (hx:evx l G x=some (.v u)):ev? (selfρ a) x=some u∧VGood u:=by
 obtain⟨h1,h2⟩:=h.ev hl hG hx
 rw[h2,h1.1]
 exact⟨rfl,h1.2⟩
theorem RxC.evs (h:RxC B θ S σ a w) (hl:Sees l σ.ρ) (hG:Gs G a): ∀ {xs:List Operand} {vs:List (Vx τ)},evsx l G xs=some vs→ ∃ us,RepL θ S w vs us∧xs.map a.eval=us∧xs.map (ev? (selfρ a))=us.map some
 | [],vs,hx=>by cases hx;exact⟨[],rfl,rfl,rfl⟩
 | x :: r, vs, hx => by
  simp only[evsx] at hx
  split at hx
  ·rename_i v vs' h1 h2
   cases hx
   obtain⟨us,h3,h4,h5⟩:=h.evs hl hG h2
   obtain⟨h6,h7⟩:=h.ev hl hG h1
   exact⟨a.eval x::us,⟨_,_,rfl,h6,h3⟩,by rw[List.map_cons,h4],by rw[List.map_cons,List.map_cons,h5,h7]⟩
  ·cases hx
end
def okP (v:Value):Option (Bool×Value):=some (true,v)
def optP:Option Value→Option (Bool×Value)
 | some v=>some (true,v)
 | none=>none
def cmpP:Option Bool→Option (Bool×Value)
 | some b=>some (true,.bool b)
 | none=>none
def binS (op:BinOp) (s t:ByteArray):Option (Bool×Value):=
 match op with
 | .add=>some (decide (s.size+t.size≤9223372036854775807),.string (s++t))
 | .eql=>okP (.bool (decide (s=t)))
 | .neq=>okP (.bool (!decide (s=t)))
 | _=>cmpP (cmpB op s t)
def binI (op:BinOp) (k:IntKind) (i:Int) (q:IntKind) (j:Int):Option (Bool×Value):=
 match op with
 | .quo=>bif ikq k q then some (!decide (j=0),.int k (k.wrap (Int.tdiv i j))) else none
 | .rem=>bif ikq k q then some (!decide (j=0),.int k (Int.tmod i j)) else none
 | .shl=>some (decide (0≤j),.int k (shlI k i j))
 | .shr=>some (decide (0≤j),.int k (shrI k i j))
 | _=>bif ikq k q then optP (bi op k i j) else none
def binP (op:BinOp) (t:TI):Value→Value→Option (Bool×Value)
 | .int k i,.int q j=>binI op k i q j
 | .string s,.string u=>binS op s u
 | .bool i,.bool j=>optP (bb op t i j)
 | _,_=>none
structure Zr where
 z:Nat→Option Value
 ft:Nat→Nat→Option Nat
 ar:Nat→Option Nat
 sq:Nat→Option (List Nat)
instance:CoeFun Zr (fun _=>Nat→Option Value):=⟨Zr.z⟩
def eqK:List Nat→List Value→List Value→Option Bool
 | [],[],[]=>some true
 | 0 :: ks, .int .i64 a :: xs, .int .i64 b :: ys => match eqK ks xs ys with
  | some r=>some (bif decide (a=b) then r else false)
  | none=>none
 | 1 :: ks, .string a :: xs, .string b :: ys => match eqK ks xs ys with
  | some r=>some (bif decide (a=b) then r else false)
  | none=>none
 | 2 :: ks, .bool a :: xs, .bool b :: ys => match eqK ks xs ys with
  | some r=>some (bif decide (a=b) then r else false)
  | none=>none
 | _,_,_=>none
theorem eqK_n {cx cy:List Value} {r:Bool} (h:eqK [] cx cy=some r):cx=[]∧cy=[]∧r=true:=by
 cases cx<;>cases cy<;>simp_all [eqK]
theorem eqK_i {ks:List Nat} {cx cy:List Value} {r:Bool} (h:eqK (0::ks) cx cy=some r): ∃ (a b:Int) (xs ys:List Value) (r':Bool),cx= .int .i64 a::xs∧cy= .int .i64 b::ys∧eqK ks xs ys=some r'∧r=(bif decide (a=b) then r' else false):=by
  unfold eqK at h
  split at h
  all_goals first
    | cases h;done
    | skip
  all_goals rename_i e
  all_goals first
    | cases e;done
    | (injection e with e1 e2
       first
         | cases e1;done
         | (subst e2
            split at h
            · rename_i r' h'
              exact⟨_,_,_,_,r',rfl,rfl,h',(Option.some.inj h).symm⟩
            · cases h))
theorem eqK_s {ks:List Nat} {cx cy:List Value} {r:Bool} (h:eqK (1::ks) cx cy=some r): ∃ (a b:ByteArray) (xs ys:List Value) (r':Bool),cx= .string a::xs∧cy= .string b::ys∧eqK ks xs ys=some r'∧r=(bif decide (a=b) then r' else false):=by
  unfold eqK at h
  split at h
  all_goals first
    | cases h;done
    | skip
  all_goals rename_i e
  all_goals first
    | cases e;done
    | (injection e with e1 e2
       first
         | cases e1;done
         | (subst e2
            split at h
            · rename_i r' h'
              exact⟨_,_,_,_,r',rfl,rfl,h',(Option.some.inj h).symm⟩
            · cases h))
def SqOk (P:Program) (t:Nat) (ks:List Nat):Prop:=P.eqGuardType P.depth t=false∧ ∀ cx cy r,eqK ks cx cy=some r→ ∀ w,(Op.equalIn 10000 t (.agg cx.toArray) (.agg cy.toArray)).run P w= .ok r w
structure Sy (P:Program) (ti:Nat→TI) (zr:Zr):Prop where
 tiok: ∀ t,(ti t).chk P t=true
 zok: ∀ t z,zr t=some z→ ∀ w,(zeroValue t).run P w= .ok z w
 ftok: ∀ t i t',zr.ft t i=some t'→ ∃ off sz,chkFieldT P t i off t' sz=true
 arok: ∀ t n,zr.ar t=some n→ ∃ e,chkArr P t n e=true
 sqok: ∀ t ks,zr.sq t=some ks→SqOk P t ks
theorem Sy.str {P:Program} {ti:Nat→TI} {zr:Zr} (s:Sy P ti zr) {t:Nat} (ht:ti t= .str):P.underlying t=some .string:=by
 have:=s.tiok t
 rw[ht] at this
 simp only[TI.chk,Bool.and_eq_true] at this
 have:=this.2
 split at this
 ·assumption
 ·cases this
theorem Sy.sl {P:Program} {ti:Nat→TI} {zr:Zr} (s:Sy P ti zr) {t e sz b:Nat} (ht:ti t= .sl e sz b):chkSlice P t e sz b=true:=by
 have:=s.tiok t
 rw[ht] at this
 simp only[TI.chk,Bool.and_eq_true] at this
 exact this.2
theorem bi_good {op:BinOp} {k:IntKind} {i j:Int} {r:Value} (h:bi op k i j=some r):VGood r:=by
 cases op<;>simp only[bi] at h<;>cases h<;>first | exact trivial | exact wrap_wrap _ _
theorem y_bin {P:Program} {ti:Nat→TI} {zr:Zr} (s:Sy P ti zr) {n:Nat} {ρ:List (Nat×Value)} {a:Act} {w:World} {ty:TypeId} (hE:Env n ρ a) {x y:Operand} {t t':Nat} {op:BinOp} {u v r:Value} {c:Bool}
  (hx:ev? ρ x=some u) (hy:ev? ρ y=some v) (gu:VGood u) (gv:VGood v) (h:binP op (ti t) u v=some (c,r)) (hc:c=true):Fw.Yields P a w (.binOp op t x y t') ty r∧VGood r:=by
 unfold binP at h
 split at h
 ·rename_i k i q j
  have plain: ∀ {o:BinOp},(bif ikq k q then optP (bi o k i j) else none)=some (c,r)→o=op→Fw.Yields P a w (.binOp op t x y t') ty r∧VGood r:=by
   intro o h0 e
   subst e
   cases hk:ikq k q with
   | false=>rw[hk] at h0;cases h0
   | true =>
    rw[hk] at h0
    cases hb:bi o k i j with
    | none=>rw[hb] at h0;cases h0
    | some r' =>
     rw[hb] at h0
     cases h0
     exact⟨bin_ok hE (s.tiok t) hx hy (by simp only[bin,hk,cond_true];exact hb),bi_good hb⟩
  cases op
  case quo=>
   simp only[binI] at h
   cases hk:ikq k q with
   | false=>rw[hk] at h;cases h
   | true =>
    rw[hk] at h
    obtain rfl:=ikq_spec hk
    cases h
    exact⟨y_quo hE hx hy (by simpa using hc),wrap_wrap _ _⟩
  case rem=>
   simp only[binI] at h
   cases hk:ikq k q with
   | false=>rw[hk] at h;cases h
   | true =>
    rw[hk] at h
    obtain rfl:=ikq_spec hk
    cases h
    exact⟨y_rem hE hx hy (by simpa using hc),tmod_good _ gu⟩
  case shl=>simp only[binI] at h;cases h;exact⟨y_shl hE hx hy (by simpa using hc),wrap_wrap _ _⟩
  case shr=>simp only[binI] at h;cases h;exact⟨y_shr hE hx hy (by simpa using hc),shr_good _ gu⟩
  all_goals exact plain h rfl
 ·rename_i p q
  have gm: ∀ {s:ByteArray},s.size≤9223372036854775807→s.size≤maxLen:=fun h=>by unfold maxLen;exact h
  cases op
  case add=>
   simp only[binS] at h
   cases h
   have h2:=of_decide_eq_true hc
   exact⟨y_cat hE hx hy h2,gm (by rw[ByteArray.size_append];exact h2)⟩
  case eql=>simp only[binS,okP] at h;cases h;exact⟨y_eql_string hE hx hy,trivial⟩
  case neq=>simp only[binS,okP] at h;cases h;exact⟨y_neq_string hE hx hy,trivial⟩
  case lss=>simp only[binS,cmpB,cmpP] at h;cases h;exact⟨y_lss_string hE hx hy,trivial⟩
  case leq=>simp only[binS,cmpB,cmpP] at h;cases h;exact⟨y_leq_string hE hx hy,trivial⟩
  case gtr=>simp only[binS,cmpB,cmpP] at h;cases h;exact⟨y_gtr_string hE hx hy,trivial⟩
  case geq=>simp only[binS,cmpB,cmpP] at h;cases h;exact⟨y_geq_string hE hx hy,trivial⟩
  all_goals simp only[binS,cmpB,cmpP] at h;cases h
 ·rename_i i j
  cases hb:bb op (ti t) i j with
  | none=>rw[hb] at h;cases h
  | some r' =>
   rw[hb] at h
   cases h
   refine⟨bin_ok hE (s.tiok t) hx hy (by simp only[bin];exact hb),?_⟩
   cases op<;>simp only[bb] at hb<;>(try split at hb)<;>cases hb<;>trivial
 ·cases h
def pick2 (b:Bool):Value→Value→Option Value
 | .bool p,.bool q=>some (.bool (bif b then p else q))
 | .int k i,.int k' j=>bif ikq k k' then some (.int k (bif b then i else j)) else none
 | .string s,.string t=>some (.string (bif b then s else t))
 | _,_=>none
theorem pick2_ok {b:Bool} {x y r:Value} (h:pick2 b x y=some r):r=(bif b then x else y):=by
 unfold pick2 at h
 split at h
 ·cases h;cases b<;>rfl
 ·rename_i k i k' j
  cases hk:ikq k k' with
  | false=>rw[hk] at h;cases h
  | true=>rw[hk] at h;obtain rfl:=ikq_spec hk;cases h;cases b<;>rfl
 ·cases h;cases b<;>rfl
 ·cases h
end Go.Proofs.YtapfpflmcgfbkaaGreatDoor.Ri

namespace Go.Proofs.YtapfpflmcgfbkaaGreatDoor.Ri
open Go.Proofs.YtapfpflmcgfbkaaGreatDoor.Fw
open Go.RowKit
set_option linter.unusedVariables false
set_option linter.unusedSimpArgs false
structure Opn (τ:Tab) where opnOf ::
 fld: ∀ t,τ.T t→List (Cl τ)
 mk: ∀ t,List (Cl τ)→Option (τ.T t)
 op: ∀ {S:Nat→Prop} {w:World} {us:List Value} (t:Nat) (x:τ.T t),Dat.rd S w us x→RdC S w us (fld t x)
 cl: ∀ {S:Nat→Prop} {w:World} {us:List Value} (t:Nat) (l:List (Cl τ)) (x:τ.T t),mk t l=some x→RdC S w us l→Dat.rd S w us x
 flt:Nat→Bool
 flw: ∀ {S S':Nat→Prop} {w w':World} {us:List Value} (e:Nat) (x:τ.T e),flt e=true→Dat.rd S w us x→Dat.rd S' w' us x
 byt:Nat→Bool
 toB: ∀ e,τ.T e→UInt8
 ofB: ∀ e,UInt8→τ.T e
 bsz: ∀ e,byt e=true→Dat.sz (τ.T e)=1
 brd: ∀ {S:Nat→Prop} {w:World} {us:List Value} (e:Nat) (x:τ.T e),byt e=true→Dat.rd S w us x→us=[.int .u8 ((toB e x).toNat:Nat)]
 bof: ∀ {S:Nat→Prop} {w:World} (e:Nat) (x:UInt8),byt e=true→Dat.rd S w [.int .u8 (x.toNat:Nat)] (ofB e x)
 cap: ∀ t,τ.T t→List (Σ e,τ.T e)
 uncap: ∀ t,List (Σ e,τ.T e)→Option (τ.T t)
 capok: ∀ t l x,uncap t l=some x→cap t x=l
def Cl.vx {τ:Tab}:Cl τ→Vx τ
 | .v x=> .v x
 | .sl e xs=> .ro e xs
def vxs {τ:Tab}:List (Cl τ)→List (Vx τ)
 | []=>[]
 | c::cs=>c.vx::vxs cs
theorem vxs_rep {τ:Tab} {θ:Nat→Lo} {S:Nat→Prop} {w:World}: ∀ {cs:List (Cl τ)} {us:List Value},RdC S w us cs→RepL θ S w (vxs cs) us
 | [],us,h=>h
 | c :: cs, us, ⟨u, r, h1, h2, h3⟩ => ⟨u, r, h1, by cases c with
  | v x=>exact⟨h2.1,h2.2.1⟩
  | sl e xs=>exact h2,vxs_rep h3⟩
def Vx.cells {τ:Tab}:Vx τ→Option (List (Vx τ))
 | .ag cs=>some cs
 | .v (.int k i)=>some [.v (.int k i)]
 | .v (.bool b)=>some [.v (.bool b)]
 | .v (.string s)=>some [.v (.string s)]
 | .v (.slice A n m)=>some [.v (.slice A n m)]
 | .ro e xs=>some [.ro e xs]
 | .sl r=>some [.sl r]
 | .pt r o=>some [.pt r o]
 | .pw r e k o=>some [.pw r e k o]
 | .pe e x o=>some [.pe e x o]
 | _=>none
def Vx.one {τ:Tab}:Vx τ→Bool
 | .v (.int _ _)=>true
 | .v (.bool _)=>true
 | .v (.string _)=>true
 | .v (.slice _ _ _)=>true
 | .ro _ _=>true
 | .sl _=>true
 | .pt _ _=>true
 | .pw _ _ _ _=>true
 | .pe _ _ _=>true
 | _=>false
def oneLx {τ:Tab}:List (Vx τ)→Bool
 | []=>true
 | x::r=>bif x.one then oneLx r else false
section
variable {τ:Tab} {θ:Nat→Lo} {S:Nat→Prop} {w:World}
theorem Vx.one_ok {v:Vx τ} {u:Value} (h:v.one=true) (hr:Rep θ S w v u):u.oneCell'=true∧u.cells= #[u]:=by
 cases v with
 | v x=>obtain⟨rfl,_⟩:=hr;cases u<;>first | exact⟨rfl,rfl⟩ | cases h
 | ro e xs=>obtain⟨A,cap,rfl,_⟩:=hr;exact⟨rfl,rfl⟩
 | sl r=>cases hr;exact⟨rfl,rfl⟩
 | pt r o=>obtain⟨b,_,rfl⟩:=hr;exact⟨rfl,rfl⟩
 | pw r e k o=>obtain⟨b,_,_,rfl⟩:=hr;exact⟨rfl,rfl⟩
 | pe e x o=>obtain⟨ad,cs,rfl,_⟩:=hr;exact⟨rfl,rfl⟩
 | _=>cases h
theorem oneLx_ok: ∀ {cs:List (Vx τ)} {us:List Value},oneLx cs=true→RepL θ S w cs us→us.all Value.oneCell'=true
 | [],us,_,h=>by cases h;rfl
 | c :: cs, us, h, ⟨u, r, h1, h2, h3⟩ => by
  simp only[oneLx] at h
  cases hc:c.one with
  | false=>rw[hc] at h;cases h
  | true =>
   rw[hc] at h
   rw[h1,List.all_cons,(Vx.one_ok hc h2).1,oneLx_ok h h3]
   rfl
theorem Vx.cells_ok {v:Vx τ} {cs:List (Vx τ)} {u:Value} (h:v.cells=some cs) (hr:Rep θ S w v u): ∃ us,RepL θ S w cs us∧u.cells=us.toArray:=by
 cases v with
 | ag l=>cases h;obtain⟨us,rfl,h2⟩:=hr;exact⟨us,h2,rfl⟩
 | v x =>
  have h0:=hr
  obtain⟨rfl,_⟩:=hr
  cases u<;>simp only[Vx.cells] at h<;>cases h<;>exact⟨[_],⟨_,[],rfl,h0,rfl⟩,rfl⟩
 | ro e xs=>cases h;have h0:=hr;obtain⟨A,cap,rfl,_⟩:=hr;exact⟨[_],⟨_,[],rfl,h0,rfl⟩,rfl⟩
 | sl r=>cases h;have h0:=hr;cases hr;exact⟨[_],⟨_,[],rfl,h0,rfl⟩,rfl⟩
 | pt r o=>cases h;have h0:=hr;obtain⟨b,_,rfl⟩:=hr;exact⟨[_],⟨_,[],rfl,h0,rfl⟩,rfl⟩
 | pw r e k o=>cases h;have h0:=hr;obtain⟨b,_,_,rfl⟩:=hr;exact⟨[_],⟨_,[],rfl,h0,rfl⟩,rfl⟩
 | pe e x o=>cases h;have h0:=hr;obtain⟨ad,cs,rfl,_⟩:=hr;exact⟨[_],⟨_,[],rfl,h0,rfl⟩,rfl⟩
 | _=>cases h
end
def tot {α:Type}:Option α→Option (Bool×α)
 | some v=>some (true,v)
 | none=>none
def vP {τ:Tab}:Option (Bool×Value)→Option (Bool×Vx τ)
 | some (c,r)=>some (c,.v r)
 | none=>none
def ldC {τ:Tab} (i:TI) (off:Nat) (cs:List (Vx τ)):Option (Vx τ):=
 match i with
 | .no=>none
 | .st n _=>bif Nat.ble (off+n) cs.length then some (.ag ((cs.drop off).take n)) else none
 | _=>cs[off]?
def spl {τ:Tab} (cs ds:List (Vx τ)) (off n:Nat):List (Vx τ):=cs.take off++ds++cs.drop (off+n)
def fillX {τ:Tab} (e:Operand→Option (Vx τ)) (places:List (Nat×Nat)):List (Vx τ)→List (Nat×Operand)→Option (List (Vx τ))
 | cs,[]=>some cs
 | cs, (i, x) :: r => match places[i]?, e x with
  | some o, some v => match v.cells with
   | some ds=>bif Nat.beq ds.length o.2&&Nat.ble (o.1+o.2) cs.length then fillX e places (spl cs ds o.1 o.2) r else none
   | none=>none
  | _,_=>none
def zcx {τ:Tab}:List Value→Option (List (Vx τ))
 | []=>some []
 | x::r=>bif goodB x then(match zcx r with | some l=>some (.v x::l) | none=>none) else none
def agX {τ:Tab}:Option (List (Vx τ))→Option (Bool×Vx τ)
 | some cs=>some (true,.ag cs)
 | none=>none
section
variable {τ:Tab} (O:Opn τ) (ti:Nat→TI) (zr:Zr) (l:Nat→Option (Sl τ)) (El:Nat→Option (Ex τ)) (G:List (Nat×Bool))
def fldV (e:Nat) (x:τ.T e):List (Vx τ):=vxs (O.fld e x)
def isUn:Value→Bool
 | .tuple _=>true
 | _=>false
def pickX (c x y:Operand):Option (Bool×Vx τ):=
 match c with
 | .tmp j => match evx l G (.tmp j) with
  | some (.v (.bool b)) => match evx l ((j, true) :: G) x, evx l ((j, false) :: G) y with
   | some (.v u),some (.v v)=>bif isUn u then some (!b,.v v) else bif isUn v then some (b,.v u) else vP (optP (pick2 b u v))
   | _,_=>none
  | _=>none
 | _=>none
def loadX (i:TI):Option (Vx τ)→Option (Bool×Vx τ)
 | some (.pt r off) => match El r with
  | some (.var cs _)=>tot (ldC i off cs)
  | _=>none
 | some (.pw r e k off) => match El r with
  | some (.own e' xs)=>bif Nat.beq e e'&&Nat.blt off (Dat.sz (τ.T e')) then tot (ldC i off (fldV O e' (nth xs k))) else none
  | _=>none
 | some (.pe e x off)=>tot (ldC i off (fldV O e x))
 | _=>none
def faX (f:Nat):TI→Option (Vx τ)→Option (Bool×Vx τ)
 | .st _ offs, some (.pt r off) => match offs[f]? with
  | some o=>some (true,.pt r (off+o.1))
  | none=>none
 | .st _ offs, some (.pw r e k off) => match offs[f]? with
  | some o=>some (true,.pw r e k (off+o.1))
  | none=>none
 | .st _ offs, some (.pe e x off) => match offs[f]? with
  | some o=>some (true,.pe e x (off+o.1))
  | none=>none
 | _,_=>none
def ncX:Option (Vx τ)→Option (Bool×Vx τ)
 | some (.pt r off)=>some (true,.pt r off)
 | some (.pw r e k off)=>some (true,.pw r e k off)
 | some (.pe e x off)=>some (true,.pe e x off)
 | _=>none
def strsX:List (Vx τ)→Option (List ByteArray)
 | []=>some []
 | .v (.string s) :: cs => match strsX cs with
  | some ss=>some (s::ss)
  | none=>none
 | _=>none
def lenB (ss:List ByteArray) (n:Nat):Bool:=Nat.beq ss.length n
def ones:Nat→Nat→List (Nat×Nat)
 | _,0=>[]
 | i,n+1=>(i,1)::ones (i+1) n
def buildX (ar:Option Nat) (parts:List (Nat×Operand)):TI→Option Value→Option (Bool×Vx τ)
  | .st n offs, some (.agg z) => bif Nat.beq z.size n then (match zcx z.toList with
    | some cs=>agX (fillX (evx l G) offs cs parts)
    | none=>none) else none
  | .no, some (.agg z) => match ar with
    | some n => bif Nat.beq z.size n then (match zcx z.toList with
      | some cs=>agX (fillX (evx l G) (ones 0 n) cs parts)
      | none=>none) else none
    | none=>none
  | _,_=>none
def extX (i:Nat):Option (Vx τ)→Option (Bool×Vx τ)
 | some (.tu cs)=>tot cs[i]?
 | _=>none
def fieldX (t i:Nat):TI→Option (Vx τ)→Option (Bool×Vx τ)
 | .st _ offs, some (.ag cs) => match offs[i]?, zr.ft t i with
  | some o,some t'=>tot (ldC (ti t') o.1 cs)
  | _,_=>none
 | _,_=>none
def strX (e:Nat) (xs:List (τ.T e)):Option (Bool×Vx τ):=bif O.byt e then some (true,.v (.string (bstr (xs.map (O.toB e))))) else none
def convX:TI→TI→Option (Vx τ)→Option (Bool×Vx τ)
 | .int _,.int q,some (.v (.int _ i))=>some (true,.v (.int q (q.wrap i)))
 | .sl e0 1 _, .str, some v => match ti e0, v with
  | .int .u8,.ro e xs=>strX O e xs
  | .int .u8, .sl r => match El r with
   | some (.own e xs)=>strX O e xs
   | some (.ro e xs)=>strX O e xs
   | _=>none
  | _,_=>none
 | _,_,_=>none
def noPt:List (Vx τ)→Bool
 | []=>true
 | .pt _ _::_=>false
 | _::r=>noPt r
def mfX (f:FuncId):Option (List (Vx τ))→Option (Bool×Vx τ)
 | some vs=>bif noPt vs then some (true,.fn f vs) else none
 | none=>none
def idxX (ar:Option Nat):TI→Option (Vx τ)→Option (Vx τ)→Option (Bool×Vx τ)
 | .str,some (.v (.string s)),some (.v (.int .i64 i))=>some (decide (0≤i)&&decide (i<(s.size:Int)),.v (.int .u8 (byteAt s i.toNat).toNat))
 | .no, some (.ag cs), some (.v (.int .i64 i)) => match ar, strsX cs with
  | some n,some ss=>bif lenB ss n then some (decide (0≤i)&&decide (i<(n:Int)),.v (.string (nth ss i.toNat))) else none
  | _,_=>none
 | _,_,_=>none
def idxR (e sz:Nat) (x:Vx τ) (i:Int):Option (Bool×Vx τ):=
 match x with
 | .ro e' xs=>bif Nat.beq sz (Dat.sz (τ.T e')) then some (decide (0≤i)&&decide (i<(xs.length:Int)),.pe e' (nth xs i.toNat) 0) else none
 | .sl r => match El r with
  | some (.own e' xs)=>bif Nat.beq sz (Dat.sz (τ.T e')) then some (decide (0≤i)&&decide (i<(xs.length:Int)),.pw r e' i.toNat 0) else none
  | some (.ro e' xs)=>bif Nat.beq sz (Dat.sz (τ.T e')) then some (decide (0≤i)&&decide (i<(xs.length:Int)),.pe e' (nth xs i.toNat) 0) else none
  | _=>none
 | _=>none
def iaX:TI→Option (Vx τ)→Option (Vx τ)→Option (Bool×Vx τ)
 | .sl e sz _,some x,some (.v (.int .i64 i))=>idxR El e sz x i
 | _,_,_=>none
def bndX (d:Int):Option Operand→Option Int
 | none=>some d
 | some x => match evx l G x with
  | some (.v (.int .i64 i))=>some i
  | _=>none
def cutX (t:TI) (x:Option (Vx τ)) (lo hi:Option Operand):Option (Bool×Vx τ):=
 match t,x with
 | .str, some (.v (.string s)) => match bndX l G 0 lo, bndX l G (s.size : Int) hi with
  | some i,some j=>some (decide (0≤i)&&(decide (i≤j)&&decide (j≤(s.size:Int))),.v (.string (cutS s i.toNat j.toNat)))
  | _,_=>none
 | .sl _ sz _, some (.ro e xs) => match bndX l G 0 lo, bndX l G (xs.length : Int) hi with
  | some i,some j=>bif Nat.beq sz (Dat.sz (τ.T e)) then some (decide (0≤i)&&(decide (i≤j)&&decide (j≤(xs.length:Int))),.ro e (cutL xs i.toNat j.toNat)) else none
  | _,_=>none
 | .sl _ sz _, some (.sl r) => match El r with
  | some (.ro e xs) => match bndX l G 0 lo, bndX l G (xs.length : Int) hi with
   | some i,some j=>bif Nat.beq sz (Dat.sz (τ.T e)) then some (decide (0≤i)&&(decide (i≤j)&&decide (j≤(xs.length:Int))),.ro e (cutL xs i.toNat j.toNat)) else none
   | _,_=>none
  | _=>none
 | _,_=>none
def lenX:TI→Option (Vx τ)→Option (Bool×Vx τ)
 | .str,some (.v (.string s))=>some (true,.v (.int .i64 s.size))
 | .sl _ _ _,some (.v (.slice A n m))=>bif Nat.ble n 0 then some (true,.v (.int .i64 n)) else none
 | .sl _ _ _,some (.ro _ xs)=>some (true,.v (.int .i64 xs.length))
 | .sl _ _ _, some (.sl r) => match El r with
  | some (.own _ xs)=>some (true,.v (.int .i64 xs.length))
  | some (.ro _ xs)=>some (true,.v (.int .i64 xs.length))
  | _=>none
 | _,_=>none
def mmX (mx:Bool):Option (Vx τ)→Option (Vx τ)→Option (Bool×Vx τ)
 | some (.v (.int k i)),some (.v (.int q j))=>bif ikq k q then some (true,.v (.int k (bif mx then max i j else min i j))) else none
 | _,_=>none
def mm3:Option (Vx τ)→Option (Vx τ)→Option (Vx τ)→Option (Bool×Vx τ)
 | some (.v (.int k i)),some (.v (.int q j)),some (.v (.int q' m))=>bif ikq k q&&ikq k q' then some (true,.v (.int k (min (min i j) m))) else none
 | _,_,_=>none
def blX (b:Builtin) (args:List Operand) (ts:List TypeId):Option (Bool×Vx τ):=
 match b,args,ts with
 | .len,[x],[t]=>lenX El (ti t) (evx l G x)
 | .min,[x,y],_=>mmX false (evx l G x) (evx l G y)
 | .max,[x,y],_=>mmX true (evx l G x) (evx l G y)
 | .min,[x,y,z],_=>mm3 (evx l G x) (evx l G y) (evx l G z)
 | _,_,_=>none
def vsX:List (Vx τ)→Option (List Value)
 | []=>some []
 | .v x :: r => match vsX r with
  | some l=>some (x::l)
  | none=>none
 | _=>none
def eqX (op:BinOp) (k:Option (List Nat)) (cs ds:List (Vx τ)):Option (Bool×Vx τ):=
 match op,k,vsX cs,vsX ds with
 | .eql, some ks, some xs, some ys => match eqK ks xs ys with
  | some r=>some (true,.v (.bool r))
  | none=>none
 | .neq, some ks, some xs, some ys => match eqK ks xs ys with
  | some r=>some (true,.v (.bool (!r)))
  | none=>none
 | _,_,_,_=>none
def pvx:Op→Option (Bool×Vx τ)
 | .move x=>tot (evx l G x)
 | .assign x=>tot (evx l G x)
 | .pick c x y=>pickX l G c x y
 | .binOp op t x y _ => match evx l G x, evx l G y with
  | some (.v u),some (.v v)=>vP (binP op (ti t) u v)
  | some (.ag cs),some (.ag ds)=>eqX op (zr.sq t) cs ds
  | _,_=>none
 | .unOp .not _ x => match evx l G x with
  | some (.v (.bool b))=>some (true,.v (.bool (!b)))
  | _=>none
 | .unOp .neg _ x => match evx l G x with
  | some (.v (.int k i))=>some (true,.v (.int k (k.wrap (-i))))
  | _=>none
 | .load t x=>loadX O El (ti t) (evx l G x)
 | .fieldAddr t x f=>faX f (ti t) (evx l G x)
 | .nilCheck x=>ncX (evx l G x)
 | .build t parts=>buildX l G (zr.ar t) parts.toList (ti t) (zr t)
 | .extract x i=>extX i (evx l G x)
 | .convert s t x=>convX O ti El (ti s) (ti t) (evx l G x)
 | .field t x i=>fieldX ti zr t i (ti t) (evx l G x)
 | .makeFunc (.func f) first xs=>bif Nat.beq first.size 0 then mfX f (evsx l G xs.toList) else none
 | .index t x y=>idxX (zr.ar t) (ti t) (evx l G x) (evx l G y)
 | .indexAddr t x y=>iaX El (ti t) (evx l G x) (evx l G y)
 | .slice t x lo hi none=>cutX l El G (ti t) (evx l G x) lo hi
 | .call c => match c.callee with
  | .builtin b=>blX ti l El G b c.args.toList c.argTypes.toList
  | _=>none
 | _=>none
end
end Go.Proofs.YtapfpflmcgfbkaaGreatDoor.Ri

namespace Go.Proofs.YtapfpflmcgfbkaaGreatDoor.Ri
open Go.Proofs.YtapfpflmcgfbkaaGreatDoor.Fw
open Go.RowKit
set_option linter.unusedVariables false
set_option linter.unusedSimpArgs false
section
variable {τ:Tab} {O:Opn τ} {P:Program} {ti:Nat→TI} {zr:Zr} {B:Bx} {θ:Nat→Lo} {S:Nat→Prop} {σ:Sx τ} {a:Act} {w:World} {l:Nat→Option (Sl τ)} {El:Nat→Option (Ex τ)} {G:List (Nat×Bool)}
theorem vP_some {τ:Tab} {o:Option (Bool×Value)} {c:Bool} {v:Vx τ} (h:vP o=some (c,v)): ∃ r,o=some (c,r)∧v= .v r:=by
 cases o with
 | none=>cases h
 | some p=>obtain⟨c',r⟩:=p;cases h;exact⟨r,rfl,rfl⟩
theorem tot_some {α:Type} {o:Option α} {c:Bool} {v:α} (h:tot o=some (c,v)):o=some v∧c=true:=by
 cases o with
 | none=>cases h
 | some p=>cases h;exact⟨rfl,rfl⟩
theorem ld_ok (s:Sy P ti zr) {t:Nat} {x:Operand} {off:Nat} {A:Addr} {cs:List (Vx τ)} {us:List Value} {v:Vx τ} {ty:TypeId} (hE:Env a.tmps.size (selfρ a) a) (hx:ev? (selfρ a) x=some (.pointer (some (A.add off)))) (hc:CellsAt w A us) (hr:RepL θ S w cs us) (hv:ldC (ti t) off cs=some v):
  ∃ u,Rep θ S w v u∧Fw.Yields P a w (.load t x) ty u:=by
 have hti:=s.tiok t
 have hlen:=RepL.len hr
 unfold ldC at hv
 split at hv
 ·cases hv
 ·rename_i n offs heq
  rw[heq] at hti
  simp only[TI.chk,Bool.and_eq_true] at hti
  cases hb:Nat.ble (off+n) cs.length with
  | false=>rw[hb] at hv;cases hv
  | true =>
   rw[hb] at hv
   cases hv
   have hle:=Nat.le_of_ble_eq_true hb
   refine⟨.agg ((us.drop off).take n).toArray,⟨_,rfl,RepL.take n (RepL.drop off hr)⟩,y_load_agg hE hx hc rfl ?_ hti.1⟩
   rw[List.length_take,List.length_drop];omega
 ·rename_i hno hst
  obtain⟨u,hu,hru⟩:=RepL.get hr hv
  refine⟨u,hru,y_load_one hE hx hc hu ?_⟩
  rcases TI.one_of hti with ⟨n,o,e⟩ | e | h
  ·exact absurd e (by intro h;exact hst n o h)
  ·exact absurd e (by intro h;exact hno h)
  ·exact h.1
theorem zcx_ok: ∀ {l:List Value} {cs:List (Vx τ)},zcx l=some cs→RepL θ S w cs l
 | [],cs,h=>by cases h;rfl
 | x :: r, cs, h => by
  simp only[zcx] at h
  cases hb:goodB x with
  | false=>rw[hb] at h;cases h
  | true =>
   rw[hb] at h
   simp only[cond_true] at h
   split at h
   ·rename_i l' h'
    cases h
    exact⟨x,r,rfl,⟨rfl,goodB_ok hb⟩,zcx_ok h'⟩
   ·cases h
theorem fillX_ok {e:Operand→Option (Vx τ)} {places:List (Nat×Nat)} {pl:Nat→Option (Nat×Nat)} (hpl: ∀ i o,places[i]?=some o→pl i=some o): ∀ {parts:List (Nat×Operand)} {cs cs':List (Vx τ)} {us:List Value},(∀ p∈parts,∀ v,e p.2=some v→Rep θ S w v (a.eval p.2))→RepL θ S w cs us→fillX e places cs parts=some cs'→
  ∃ us',RepL θ S w cs' us'∧us'.length=us.length∧Instr.fill pl us.toArray (parts.map fun p=>(p.1,a.eval p.2))=some us'.toArray
 | [],cs,cs',us,_,hc,h=>by cases h;exact⟨us,hc,rfl,rfl⟩
 | (i, x) :: r, cs, cs', us, he, hc, h => by
  simp only[fillX] at h
  split at h
  ·rename_i o v ho hv
   split at h
   ·rename_i ds hds
    cases hb:Nat.beq ds.length o.2&&Nat.ble (o.1+o.2) cs.length with
    | false=>rw[hb] at h;cases h
    | true =>
     rw[hb] at h
     simp only[cond_true] at h
     simp only[Bool.and_eq_true] at hb
     have h1:=Nat.eq_of_beq_eq_true hb.1
     have h2:=Nat.le_of_ble_eq_true hb.2
     obtain⟨dl,hdl,hcells⟩:=Vx.cells_ok hds (he (i,x) (by simp) v hv)
     simp only at hcells
     have hlen:=RepL.len hc
     have hdlen:=RepL.len hdl
     have hspl:RepL θ S w (spl cs ds o.1 o.2) (us.take o.1++dl++us.drop (o.1+o.2)):=RepL.app (RepL.app (RepL.take _ hc) hdl) (RepL.drop _ hc)
     obtain⟨l',hl',hll,hf⟩:=fillX_ok hpl (fun p hp=>he p (List.mem_cons_of_mem _ hp)) hspl h
     refine⟨l',hl',?_,?_⟩
     ·rw[hll];simp only[List.length_append,List.length_take,List.length_drop];omega
     ·rw[List.map_cons]
      unfold Instr.fill
      rw[hpl i o ho]
      simp only
      rw[if_neg (by rw[hcells];simp;omega)]
      rw[←hf]
      congr 1
      rw[hcells]
      rw[←Array.foldl_toList,Array.toList_zipIdx]
      have:=foldl_splice o.1 dl us.toArray (by simp;omega)
      rw[hdlen,h1] at this
      exact this
   ·cases h
  ·cases h
theorem ones_at: ∀ {n k i:Nat} {o:Nat×Nat},(ones k n)[i]?=some o→o=(k+i,1)
 | 0,_,_,_,h=>by simp[ones] at h
 | n+1,k,0,o,h=>by simp[ones] at h;exact h.symm
 | n + 1, k, i + 1, o, h => by
  simp only[ones,List.getElem?_cons_succ] at h
  rw[ones_at h]
  congr 1
  omega
theorem strsX_ok: ∀ {cs:List (Vx τ)} {ss:List ByteArray} {us:List Value},strsX cs=some ss→RepL θ S w cs us→us=ss.map Value.string∧ ∀ s∈ss,VGood (.string s)
 | [],ss,us,h,hr=>by cases h;exact⟨hr,fun s hs=>by cases hs⟩
 | c :: cs, ss, us, h, ⟨u, r, h1, h2, h3⟩ => by
  unfold strsX at h
  split at h
  ·rename_i heq;cases heq
  ·rename_i s cs' heq
   cases heq
   split at h
   ·rename_i ss' hs
    cases h
    obtain⟨e1,e2⟩:=strsX_ok hs h3
    obtain⟨e3,e4⟩:=h2
    rw[h1,e3,e1]
    exact⟨rfl,fun z hz=>(List.mem_cons.1 hz).elim (fun e=>e▸e4) (e2 z)⟩
   ·cases h
  ·cases h
theorem build_ok (s:Sy P ti zr) (hR: ∀ x v,evx l G x=some v→Rep θ S w v (a.eval x)) {t:Nat} {parts:Array (Nat×Operand)} {c:Bool} {v:Vx τ} {ty:TypeId} (hv:buildX l G (zr.ar t) parts.toList (ti t) (zr t)=some (c,v)): ∃ u,Rep θ S w v u∧Fw.Yields P a w (.build t parts) ty u:=by
 unfold buildX at hv
 split at hv
 ·rename_i n offs z ht hz
  cases hb:Nat.beq z.size n with
  | false=>rw[hb] at hv;cases hv
  | true =>
   rw[hb] at hv
   simp only[cond_true] at hv
   split at hv
   ·rename_i cs0 hcs0
    unfold agX at hv
    split at hv
    ·rename_i cs hcs
     cases hv
     have hti:=s.tiok t
     rw[ht] at hti
     simp only[TI.chk,Bool.and_eq_true] at hti
     obtain⟨fs,hu,hsz⟩:=fieldsChk_all hti.2
     rw[Nat.zero_add] at hsz
     have hall: ∀ (i:Nat) fd o,fs.toList[i]?=some fd→offs[i]?=some o→fd.offset=o.1∧(sizeOf fd.type).run P w= .ok o.2 w:=by
      intro i fd o h1 h2
      have hf:=fieldsChk_spec hti.2 h2
      rw[Nat.zero_add] at hf
      rw[Array.getElem?_toList] at h1
      obtain⟨fs',fd',hu',hf',ho',_⟩:=chkField_spec hf.1
      rw[hu] at hu';cases hu'
      rw[h1] at hf';cases hf'
      refine⟨ho',?_⟩
      have hs:=hf.2
      unfold chkFSz at hs
      rw[hu] at hs
      simp only[h1] at hs
      split at hs
      ·rename_i inf hinf
       simp[sizeOf,typeInfo,hinf,Nat.eq_of_beq_eq_true hs]
      ·cases hs
     have hp:=Fw.run_places (P:=P) (w:=w) fs.toList offs (by simpa using hsz) hall
     obtain⟨l',hl',_,hfill⟩:=fillX_ok (θ:=θ) (S:=S) (w:=w) (a:=a) (e:=evx l G) (pl:=fun i=>offs.toArray[i]?) (fun i o h=>by simpa using h) (parts:=parts.toList) (fun p hp v hv=>hR p.2 v hv) (zcx_ok hcs0) hcs
     refine⟨.agg l'.toArray,⟨l',rfl,hl'⟩,?_⟩
     intro dst pos after g
     have hm:(parts.map fun(x:Nat×Operand)=>match x with | (i,x)=>(i,a.eval x)).toList=parts.toList.map fun p=>(p.1,a.eval p.2):=by rw[Array.toList_map]
     have hmap:(fs.mapM (m:=Sem) fun f=>do pure (f.offset,←sizeOf f.type)).run P w= .ok offs.toArray w:=by
      rw[Array.mapM_eq_mapM_toList]
      rw[←bind_pure_comp]
      simp only[Sem.run_bind,hp,Result.andThen_ok,Sem.run_pure]
     simp only[execOp,Instr.build,Sem.run_bind,s.zok t _ hz w,Result.andThen_ok,run_underlying hu,hmap,hm,Value.cells,hfill,Sem.run_pure]
    ·cases hv
   ·cases hv
 ·rename_i z ht hz
  split at hv
  ·rename_i n hn
   cases hb:Nat.beq z.size n with
   | false=>rw[hb] at hv;cases hv
   | true =>
    rw[hb] at hv
    simp only[cond_true] at hv
    split at hv
    ·rename_i cs0 hcs0
     unfold agX at hv
     split at hv
     ·rename_i cs hcs
      cases hv
      obtain⟨e,he⟩:=s.arok t n hn
      obtain⟨hu,hsz⟩:=chkArr_spec he
      obtain⟨l',hl',_,hfill⟩:=fillX_ok (θ:=θ) (S:=S) (w:=w) (a:=a) (e:=evx l G) (pl:=fun i=>some (i*1,1)) (fun i o h=>by rw[ones_at h,Nat.mul_one,Nat.zero_add]) (parts:=parts.toList) (fun p hp v hv=>hR p.2 v hv) (zcx_ok hcs0) hcs
      refine⟨.agg l'.toArray,⟨l',rfl,hl'⟩,?_⟩
      intro dst pos after g
      have hm:(parts.map fun(x:Nat×Operand)=>match x with | (i,x)=>(i,a.eval x)).toList=parts.toList.map fun p=>(p.1,a.eval p.2):=by rw[Array.toList_map]
      simp only[execOp,Instr.build,Sem.run_bind,s.zok t _ hz w,Result.andThen_ok,run_underlying hu,hsz,hm,Value.cells,hfill,Sem.run_pure]
     ·cases hv
    ·cases hv
  ·cases hv
 ·cases hv
theorem i64_len {n:Nat} (h:n≤maxLen):IntKind.i64.wrap (n:Int)=n:=by
 have:(maxLen:Int)=9223372036854775807:=by unfold maxLen;rfl
 rw[IntKind.wrap_i64]
 unfold maxLen at h
 omega
theorem SlR.lenle {α:Type} [Dat α] {u:Value} {xs:List α} (h:SlR S w u xs): ∃ A cap,u= .slice A xs.length cap∧xs.length≤cap∧cap≤maxLen:=by obtain⟨A,cap,h1,h2,h3,_⟩:=h;exact⟨A,cap,h1,h2,h3⟩
theorem u8_good (x:UInt8):IntKind.u8.wrap (x.toNat:Int)=x.toNat:=by
 refine wrap_id ?_
 have:=x.toNat_lt
 simp[loK,hiK,IntKind.bits,IntKind.signed]
 omega
def bdP (a:Act) (d i:Int):Option Operand→Prop
 | none=>i=d
 | some y=>a.eval y= .int .i64 i
theorem y_eqA {P:Program} {a:Act} {w:World} {ty:TypeId} {x y:Operand} {t t':Nat} {cx cy:List Value} {r:Bool} (hx:a.eval x= .agg cx.toArray) (hy:a.eval y= .agg cy.toArray)
  (hg:P.eqGuardType P.depth t=false) (h: ∀ w,(Op.equalIn 10000 t (.agg cx.toArray) (.agg cy.toArray)).run P w= .ok r w):Fw.Yields P a w (.binOp .eql t x y t') ty (.bool r):=by
 intro _ _ _ _
 simp only[execOp,hx,hy,Sem.run_bind,run_eqGuard_agg _ _ _ _ _ _ _ hg,Sem.run_pure,Result.andThen_ok,run_eql_struct,h]
theorem y_neA {P:Program} {a:Act} {w:World} {ty:TypeId} {x y:Operand} {t t':Nat} {cx cy:List Value} {r:Bool} (hx:a.eval x= .agg cx.toArray) (hy:a.eval y= .agg cy.toArray)
  (hg:P.eqGuardType P.depth t=false) (h: ∀ w,(Op.equalIn 10000 t (.agg cx.toArray) (.agg cy.toArray)).run P w= .ok r w):Fw.Yields P a w (.binOp .neq t x y t') ty (.bool (!r)):=by
 intro _ _ _ _
 simp only[execOp,hx,hy,Sem.run_bind,run_eqGuard_agg _ _ _ _ _ _ _ hg,Sem.run_pure,Result.andThen_ok,run_neq_struct,h]
theorem vsX_ok {τ:Tab} {θ:Nat→Lo} {S:Nat→Prop} {w:World}: ∀ {cs:List (Vx τ)} {xs us:List Value},vsX cs=some xs→RepL θ S w cs us→us=xs
 | [],xs,us,h,hr=>by cases h;exact hr
 | .v x :: cs, xs, us, h, ⟨u, r, h1, h2, h3⟩ => by
  simp only[vsX] at h
  split at h
  ·rename_i l hl
   cases h
   rw[h1,h2.1,vsX_ok hl h3]
  ·cases h
theorem y_cutS {x:Operand} {lo hi:Option Operand} {s:ByteArray} {t:Nat} {i j:Int} {ty:TypeId} (hu:P.underlying t=some .string) (hx:a.eval x= .string s) (hlo:bdP a 0 i lo) (hhi:bdP a (s.size:Int) j hi) (h0:0≤i) (h1:i≤j) (h2:j≤(s.size:Int)):
  Fw.Yields P a w (.slice t x lo hi none) ty (.string (cutS s i.toNat j.toNat)):=by
 intro _ _ _ _
 obtain⟨p,rfl⟩:=Int.eq_ofNat_of_zero_le h0
 obtain⟨q,rfl⟩:=Int.eq_ofNat_of_zero_le (Int.le_trans h0 h1)
 have h1':p≤q:=by omega
 have h2':q≤s.size:=by omega
 cases lo with
 | none =>
  cases hi with
  | none =>
   simp only[bdP] at hlo hhi
   have e1:p=0:=by omega
   have e2:q=s.size:=by omega
   subst e1;subst e2
   simp[execOp,hx,Instr.sliceAt,Instr.slice,run_underlying hu,Instr.sliceBounds,cutS]
  | some y =>
   simp only[bdP] at hlo hhi
   have e1:p=0:=by omega
   subst e1
   simp[execOp,hx,hhi,Instr.sliceAt,Instr.slice,run_underlying hu,Instr.sliceBounds,Instr.sliceBound,asIntOf,h2',cutS]
 | some z =>
  cases hi with
  | none =>
   simp only[bdP] at hlo hhi
   have e2:q=s.size:=by omega
   subst e2
   simp[execOp,hx,hlo,Instr.sliceAt,Instr.slice,run_underlying hu,Instr.sliceBounds,Instr.sliceBound,asIntOf,h1',cutS]
  | some y =>
   simp only[bdP] at hlo hhi
   simp[execOp,hx,hlo,hhi,Instr.sliceAt,Instr.slice,run_underlying hu,Instr.sliceBounds,Instr.sliceBound,asIntOf,h1',h2',cutS]
theorem y_cutR {x:Operand} {lo hi:Option Operand} {A:Option Addr} {len cap:Nat} {t e sz by':Nat} {i j:Int} {ty:TypeId} (hs:chkSlice P t e sz by'=true) (hx:a.eval x= .slice A len cap) (hlo:bdP a 0 i lo) (hhi:bdP a (len:Int) j hi) (h0:0≤i) (h1:i≤j) (h2:j≤(cap:Int)):
  Fw.Yields P a w (.slice t x lo hi none) ty (.slice (if cap=i.toNat then A else A.map (·.add (i.toNat*sz))) (j.toNat - i.toNat) (cap - i.toNat)):=by
 intro _ _ _ _
 obtain⟨p,rfl⟩:=Int.eq_ofNat_of_zero_le h0
 obtain⟨q,rfl⟩:=Int.eq_ofNat_of_zero_le (Int.le_trans h0 h1)
 have h1':p≤q:=by omega
 have h2':q≤cap:=by omega
 have hu:=(chkSlice_spec hs).1
 obtain⟨inf,hin,hsz,_⟩:=(chkSlice_spec hs).2
 have hA0:A.map (fun b=>b.add 0)=A:=by cases A<;>simp[Addr.add]
 cases lo with
 | none =>
  cases hi with
  | none =>
   simp only[bdP] at hlo hhi
   have e1:p=0:=by omega
   have e2:q=len:=by omega
   subst e1;subst e2
   simp[execOp,hx,Instr.sliceAt,Instr.slice,run_underlying hu,Instr.sliceBounds,sizeOf,typeInfo,hin,hA0]
  | some y =>
   simp only[bdP] at hlo hhi
   have e1:p=0:=by omega
   subst e1
   simp[execOp,hx,hhi,Instr.sliceAt,Instr.slice,run_underlying hu,Instr.sliceBounds,Instr.sliceBound,asIntOf,h2',sizeOf,typeInfo,hin,hA0]
 | some z =>
  cases hi with
  | none =>
   simp only[bdP] at hlo hhi
   have e2:q=len:=by omega
   subst e2
   simp[execOp,hx,hlo,Instr.sliceAt,Instr.slice,run_underlying hu,Instr.sliceBounds,Instr.sliceBound,asIntOf,h1',sizeOf,typeInfo,hin,hsz]
  | some y =>
   simp only[bdP] at hlo hhi
   simp[execOp,hx,hlo,hhi,Instr.sliceAt,Instr.slice,run_underlying hu,Instr.sliceBounds,Instr.sliceBound,asIntOf,h1',h2',sizeOf,typeInfo,hin,hsz]
theorem RxC.ptr (h:RxC B θ S σ a w) (hl:Sees l σ.ρ) (hG:Gs G a) {x:Operand} {v:Vx τ} (hx:evx l G x=some v) {u:Value} (hu:a.eval x=u):ev? (selfρ a) x=some u:=by rw[←hu];exact(h.ev hl hG hx).2
theorem a0 (b n:Nat):(⟨b,0,none⟩:Addr).add n=⟨b,n,none⟩:=by unfold Addr.add;split<;>simp_all
theorem own_cells {α:Type} [Dat α] [Inhabited α] {lo:Lo} {xs:List α} {b k:Nat} (h:OwnR S w lo xs) (hA:lo.A=some ⟨b,0,none⟩) (hk:k<lo.len): ∃ us,Dat.rd S w us (nth xs k)∧CellsAt w ((⟨b,0,none⟩:Addr).add (k*Dat.sz α)) us∧k<xs.length:=by
 rcases h with ⟨h1,_⟩ | ⟨g,arr,t,h1,h2,h3,h4,⟨fz,h5,_⟩,h6,h7,h8⟩
 ·rw[h1] at hA;cases hA
 ·rw[h1] at hA;cases hA
  rw[h2] at hk
  have hx:xs[k]?=some (nth xs k):=by
   unfold nth
   rw[List.getElem?_eq_getElem hk,List.getD_eq_getElem?_getD,List.getElem?_eq_getElem hk]
   rfl
  refine⟨_,h8 k _ hx,?_,hk⟩
  intro j v hj
  rw[List.getElem?_take] at hj
  split at hj
  ·rw[List.getElem?_drop,Array.getElem?_toList] at hj
   rw[a0,show(⟨b,k*Dat.sz α,none⟩:Addr).add j=⟨b,k*Dat.sz α+j,none⟩ from by rw[←a0,add_add,a0]]
   unfold World.cell?
   rw[h5]
   simpa using hj
  ·cases hj
theorem y_idx {S:Nat→Prop} {α:Type} [Dat α] [Inhabited α] {u:Value} {xs:List α} {x y:Operand} {t e sz by':Nat} {i:Int} {ty:TypeId} (hE:Env a.tmps.size (selfρ a) a) (hs:chkSlice P t e sz by'=true) (hsz:sz=Dat.sz α) (hx:ev? (selfρ a) x=some u) (hr:SlR S w u xs) (hy:ev? (selfρ a) y=some (.int .i64 i)) (h0:0≤i) (h1:i<(xs.length:Int)):
  ∃ ad cs,Fw.Yields P a w (.indexAddr t x y) ty (.pointer (some (ad.add 0)))∧CellsAt w ad cs∧S ad.block∧Dat.rd S w cs (nth xs i.toNat):=by
 have hk:i.toNat<xs.length:=by omega
 obtain⟨A,cap,rfl,_⟩:=SlR.lenle hr
 obtain⟨ad,cs,rfl,hlen,hrd,hc,hb⟩:=SlR.elem hr hk
 refine⟨ad.add (i.toNat*sz),cs,y_indexAddr hE hx hy h0 h1 hs,by rw[hsz];exact hc,by rw[block_add];exact hb,hrd⟩
theorem pvx_ok (s:Sy P ti zr) (h:RxC B θ S σ a w) (hl:Sees l σ.ρ) (hEl:Sees El σ.E) (hG:Gs G a) {op:Op} {c:Bool} {v:Vx τ} {ty:TypeId} (hv:pvx O ti zr l El G op=some (c,v)) (hc:c=true):
    ∃ u,Rep θ S w v u∧Fw.Yields P a w op ty u:=by
  have hE:=h.env
  have evr: ∀ x v,evx l G x=some v→Rep θ S w v (a.eval x):=fun x v hx=>(h.ev hl hG hx).1
  cases op with
  | move x =>
    obtain⟨h1,_⟩:=tot_some hv
    obtain⟨h2,h3⟩:=h.ev hl hG h1
    exact⟨_,h2,y_move hE h3⟩
  | assign x =>
    obtain⟨h1,_⟩:=tot_some hv
    obtain⟨h2,h3⟩:=h.ev hl hG h1
    exact⟨_,h2,y_assign hE h3⟩
  | pick cc x y =>
    simp only[pvx,pickX] at hv
    split at hv
    · rename_i j
      split at hv
      · rename_i b hb
        split at hv
        · rename_i u1 u2 hx hy
          have hcb:=(h.evv hl hG hb).1
          have hjb:a.tmps.getD j undef= .bool b:=by
            have:=(h.ev hl hG hb).2
            rw[hcb] at this
            exact(Option.some.inj this).symm
          have left:b=true→v= .v u1→ ∃ u,Rep θ S w v u∧Fw.Yields P a w (.pick (.tmp j) x y) ty u:=by
            rintro rfl rfl
            obtain⟨e1,g1⟩:=h.evv hl (Gs.cons hjb hG) hx
            exact⟨u1,⟨rfl,g1⟩,y_pick_t hE hcb rfl e1⟩
          have right:b=false→v= .v u2→ ∃ u,Rep θ S w v u∧Fw.Yields P a w (.pick (.tmp j) x y) ty u:=by
            rintro rfl rfl
            obtain⟨e1,g1⟩:=h.evv hl (Gs.cons hjb hG) hy
            exact⟨u2,⟨rfl,g1⟩,y_pick_f hE hcb rfl e1⟩
          cases h1:isUn u1 with
          | true =>
            rw[h1] at hv
            cases hv
            exact right (by simpa using hc) rfl
          | false =>
            rw[h1] at hv
            simp only[cond_false] at hv
            cases h2:isUn u2 with
            | true =>
              rw[h2] at hv
              cases hv
              exact left hc rfl
            | false =>
              rw[h2] at hv
              obtain⟨r,hr,rfl⟩:=vP_some hv
              cases hp:pick2 b u1 u2 with
              | none=>rw[hp] at hr;cases hr
              | some r' =>
                rw[hp] at hr
                cases hr
                have hpe:=pick2_ok hp
                cases b with
                | true=>exact left rfl (by rw[hpe];rfl)
                | false=>exact right rfl (by rw[hpe];rfl)
        · cases hv
      · cases hv
    · cases hv
  | binOp op t x y t' =>
    simp only[pvx] at hv
    split at hv
    · rename_i u1 u2 hx hy
      obtain⟨r,hr,rfl⟩:=vP_some hv
      obtain⟨e1,g1⟩:=h.evv hl hG hx
      obtain⟨e2,g2⟩:=h.evv hl hG hy
      obtain⟨h1,h2⟩:=y_bin s hE e1 e2 g1 g2 hr hc
      exact⟨r,⟨rfl,h2⟩,h1⟩
    · rename_i cs ds hx hy
      obtain⟨us,e1,r1⟩: ∃ us:List Value,a.eval x= .agg us.toArray∧RepL θ S w cs us:=(h.ev hl hG hx).1
      obtain⟨us',e2,r2⟩: ∃ us:List Value,a.eval y= .agg us.toArray∧RepL θ S w ds us:=(h.ev hl hG hy).1
      unfold eqX at hv
      split at hv
      · rename_i ks xs ys hk h1 h2
        obtain rfl:=vsX_ok h1 r1
        obtain rfl:=vsX_ok h2 r2
        obtain⟨g1,g2⟩:=s.sqok _ _ hk
        split at hv
        · rename_i r hr
          cases hv
          exact⟨_,⟨rfl,trivial⟩,y_eqA e1 e2 g1 (g2 _ _ _ hr)⟩
        · cases hv
      · rename_i ks xs ys hk h1 h2
        obtain rfl:=vsX_ok h1 r1
        obtain rfl:=vsX_ok h2 r2
        obtain⟨g1,g2⟩:=s.sqok _ _ hk
        split at hv
        · rename_i r hr
          cases hv
          exact⟨_,⟨rfl,trivial⟩,y_neA e1 e2 g1 (g2 _ _ _ hr)⟩
        · cases hv
      · cases hv
    · cases hv
  | unOp op t x =>
    cases op<;>simp only[pvx] at hv
    case not=>
      split at hv
      · rename_i b hb;cases hv;exact⟨_,⟨rfl,trivial⟩,y_not hE (h.evv hl hG hb).1⟩
      · cases hv
    case neg=>
      split at hv
      · rename_i k i hb;cases hv;exact⟨_,⟨rfl,wrap_wrap _ _⟩,y_neg hE (h.evv hl hG hb).1⟩
      · cases hv
    all_goals cases hv
  | load t x =>
    simp only[pvx] at hv
    unfold loadX at hv
    split at hv
    · rename_i r off hx
      split at hv
      · rename_i cs T hr
        obtain⟨h1,_⟩:=tot_some hv
        obtain⟨b,us,e1,e2,e3,e4⟩:=h.ent r _ (hEl r _ hr)
        obtain⟨b',e5,e6⟩:=evr x _ hx
        rw[e1] at e5;cases e5
        exact ld_ok s hE (h.ptr hl hG hx e6) (CellsAt.row e3) e2 h1
      · cases hv
    · rename_i r e k off hx
      split at hv
      · rename_i e' xs hr
        cases hb:Nat.beq e e'&&Nat.blt off (Dat.sz (τ.T e')) with
        | false=>rw[hb] at hv;cases hv
        | true =>
          rw[hb] at hv
          simp only[cond_true] at hv
          simp only[Bool.and_eq_true] at hb
          obtain rfl:=Nat.eq_of_beq_eq_true hb.1
          obtain⟨h1,_⟩:=tot_some hv
          obtain⟨b,e1,e2,e3⟩:=evr x _ hx
          obtain⟨us,e4,e5,e6⟩:=own_cells (h.ent r _ (hEl r _ hr)) e1 e2
          rw[←add_add] at e3
          exact ld_ok s hE (h.ptr hl hG hx e3) e5 (vxs_rep (O.op _ _ e4)) h1
      · cases hv
    · rename_i e x' off hx
      obtain⟨h1,_⟩:=tot_some hv
      obtain⟨ad,cs,e1,e2,e3,e4⟩:=evr x _ hx
      exact ld_ok s hE (h.ptr hl hG hx e1) e2 (vxs_rep (O.op _ _ e4)) h1
    · cases hv
  | fieldAddr t x f =>
    simp only[pvx] at hv
    have field: ∀ {n:Nat} {offs:List (Nat×Nat)} {o:Nat×Nat},ti t= .st n offs→offs[f]?=some o→chkField P t f o.1=true:=by
      intro n offs o ht ho
      have hti:=s.tiok t
      rw[ht] at hti
      simp only[TI.chk,Bool.and_eq_true] at hti
      have hf:=fieldsChk_spec hti.2 ho
      rw[Nat.zero_add] at hf
      exact hf.1
    unfold faX at hv
    split at hv
    · rename_i n offs r off ht hx
      split at hv
      · rename_i o ho
        cases hv
        obtain⟨b,e1,e2⟩:=evr x _ hx
        exact⟨_,⟨b,e1,rfl⟩,y_fieldAddr hE (h.ptr hl hG hx e2) (field ht ho) rfl⟩
      · cases hv
    · rename_i n offs r e k off ht hx
      split at hv
      · rename_i o ho
        cases hv
        obtain⟨b,e1,e2,e3⟩:=evr x _ hx
        exact⟨_,⟨b,e1,e2,rfl⟩,y_fieldAddr hE (h.ptr hl hG hx e3) (field ht ho) (Nat.add_assoc _ _ _)⟩
      · cases hv
    · rename_i n offs e x' off ht hx
      split at hv
      · rename_i o ho
        cases hv
        obtain⟨ad,cs,e1,e2,e3,e4⟩:=evr x _ hx
        exact⟨_,⟨ad,cs,rfl,e2,e3,e4⟩,y_fieldAddr hE (h.ptr hl hG hx e1) (field ht ho) rfl⟩
      · cases hv
    · cases hv
  | nilCheck x =>
    simp only[pvx] at hv
    have fin: ∀ {A:Addr},a.eval x= .pointer (some A)→Fw.Yields P a w (.nilCheck x) ty (a.eval x):=by
      intro A hp _ _ _ _
      simp only[execOp,hp]
      rfl
    unfold ncX at hv
    split at hv
    · rename_i r off hx
      cases hv
      have hr:=evr x _ hx
      obtain⟨b,e1,e2⟩:=id hr
      exact⟨_,hr,fin e2⟩
    · rename_i r e k off hx
      cases hv
      have hr:=evr x _ hx
      obtain⟨b,e1,e2,e3⟩:=id hr
      exact⟨_,hr,fin e3⟩
    · rename_i e x' off hx
      cases hv
      have hr:=evr x _ hx
      obtain⟨ad,cs,e1,e2⟩:=id hr
      exact⟨_,hr,fin e1⟩
    · cases hv
  | build t parts=>exact build_ok s evr hv
  | extract x i =>
    simp only[pvx] at hv
    unfold extX at hv
    split at hv
    · rename_i cs hx
      obtain⟨h1,_⟩:=tot_some hv
      obtain⟨us,e1,e2⟩:=evr x _ hx
      obtain⟨u,e3,e4⟩:=RepL.get e2 h1
      exact⟨u,e4,y_extract hE (h.ptr hl hG hx e1) e3⟩
    · cases hv
  | convert p q x =>
    simp only[pvx] at hv
    unfold convX at hv
    have int: ∀ {t:Nat} {k:IntKind},ti t= .int k→P.underlying t=some (.int k):=by
      intro t k hk
      have h1:=s.tiok t
      rw[hk] at h1
      simp only[TI.chk,Bool.and_eq_true] at h1
      have:=h1.2
      split at this
      · rename_i k' hk';rw[hk'];simp at this;rw[this]
      · cases this
    have str: ∀ {e0 by' e:Nat} {xs:List (τ.T e)} {u:Value},ti p= .sl e0 1 by'→ti q= .str→ti e0= .int .u8→a.eval x=u→SlR (fun _=>True) w u xs→strX O e xs=some (c,v)→ ∃ u,Rep θ S w v u∧Fw.Yields P a w (.convert p q x) ty u:=by
      intro e0 by' e xs u hp hq he hx hr hs
      unfold strX at hs
      cases hb:O.byt e with
      | false=>rw[hb] at hs;cases hs
      | true =>
        rw[hb] at hs
        cases hs
        obtain⟨A,cap,rfl,h1,h2,h3⟩:=hr
        have hts:=(chkSlice_spec (s.sl hp)).1
        have hte:=int he
        have htu:=s.str hq
        have hsz:=O.bsz e hb
        refine⟨.string (bstr (xs.map (O.toB e))),⟨rfl,show(xs.map (O.toB e)).toArray.size≤maxLen from by simp;omega⟩,fun dst pos after g=>?_⟩
        by_cases hn:xs=[]
        · subst hn
          have:=run_convert_bytes_string (P:=P) w p q e0 A 0 cap hts hte htu
          have h0:(Conv.bytesToString (.slice A 0 cap)).run P w= .ok (.string (bstr [])) w:=by
            cases A with
            | none=>simp[Conv.bytesToString];rfl
            | some A=>exact run_bytesToString w A 0 cap [] (run_loadCells_list (P:=P) w A [] (fun j v hj=>by simp at hj))
          simp only[execOp,hx,this,List.length_nil,h0,Sem.run_bind,Result.andThen_ok,Sem.run_pure,List.map_nil]
        · obtain ⟨ad, rfl, hb', hcs⟩ := h3 hn
          have := run_convert_bytes_back (P := P) w p q e0 ad cap (xs.map (O.toB e)) hts hte htu (fun j hj => by
            rw[List.length_map] at hj
            obtain⟨cs,hrd,hcell⟩:=hcs j xs[j] (List.getElem?_eq_getElem hj)
            have hcs':=O.brd e _ hb hrd
            have:=hcell 0 _ (by rw[hcs'];rfl)
            rw[hsz,Nat.mul_one,Addr.add_zero'] at this
            rw[this,List.getElem_map])
          rw[List.length_map] at this
          simp only[execOp,hx,this,Sem.run_bind,Result.andThen_ok,Sem.run_pure]
          rfl
    split at hv
    · rename_i k q' k' i hk hq hx
      cases hv
      have hu1:=int hk
      have hu2:=int hq
      refine⟨_,⟨rfl,wrap_wrap _ _⟩,?_⟩
      intro _ _ _ _
      simp[execOp,hE.eval (h.evv hl hG hx).1,convert,run_underlying hu1,run_underlying hu2,Conv.intToInt]
    · rename_i e0 by' v' hp hq hx
      have hrx:=evr x _ hx
      split at hv
      · rename_i e xs he
        exact str hp hq he rfl (SlR.mono (fun _ _=>trivial) hrx) hv
      · rename_i r he
        have hu:a.eval x=_:=hrx
        split at hv
        · rename_i e xs hr
          exact str hp hq he hu (OwnR.slR (S':=fun _=>True) (h.ent r _ (hEl r _ hr)) (fun _ _=>trivial) (fun _ _=>trivial)) hv
        · rename_i e xs hr
          exact str hp hq he hu (SlR.mono (fun _ _=>trivial) (show SlR S w _ xs from h.ent r _ (hEl r _ hr))) hv
        · cases hv
      · cases hv
    · cases hv
  | field t x i =>
    simp only[pvx] at hv
    unfold fieldX at hv
    split at hv
    · rename_i n offs cs ht hx
      split at hv
      · rename_i o t' ho hft
        obtain⟨h1,_⟩:=tot_some hv
        obtain⟨us,e1,e2⟩:=evr x _ hx
        obtain⟨off,sz,hf⟩:=s.ftok t i t' hft
        obtain⟨fs,fd,hu,hfi,hfo,hfty,_⟩:=chkFieldT_spec hf
        have hti:=s.tiok t
        rw[ht] at hti
        simp only[TI.chk,Bool.and_eq_true] at hti
        have hch:=(fieldsChk_spec hti.2 ho).1
        rw[Nat.zero_add] at hch
        obtain⟨fs',fd',hu',hf',ho',_⟩:=chkField_spec hch
        rw[hu] at hu';cases hu'
        rw[hfi] at hf';cases hf'
        have hti':=s.tiok t'
        have hlen:=RepL.len e2
        have hrun: ∀ (r:Value),(part t' us.toArray o.1).run P w= .ok r w→Fw.Yields P a w (.field t x i) ty r:=by
          intro r hr dst pos after g
          have hfi':fs[i]?=some fd:=hfi
          simp only[execOp,e1,Instr.field,Sem.run_bind,run_underlying hu,Result.andThen_ok,hfi',hfty,asAgg,Sem.run_pure,ho',hr]
        unfold ldC at h1
        split at h1
        · cases h1
        · rename_i n' offs' heq
          rw[heq] at hti'
          simp only[TI.chk,Bool.and_eq_true] at hti'
          cases hb:Nat.ble (o.1+n') cs.length with
          | false=>rw[hb] at h1;cases h1
          | true =>
            rw[hb] at h1
            cases h1
            refine⟨.agg ((us.drop o.1).take n').toArray,⟨_,rfl,RepL.take n' (RepL.drop o.1 e2)⟩,hrun _ ?_⟩
            simp only[part,Sem.run_bind,(chkAgg_isAgg hti'.1 w).1,(chkAgg_isAgg hti'.1 w).2,Result.andThen_ok,if_true,Sem.run_pure]
            congr 2
            apply Array.ext'
            simp only[List.extract_toArray,List.extract_eq_take_drop]
            simp
        · rename_i hno hst
          obtain⟨u,hu',hru⟩:=RepL.get e2 h1
          refine⟨u,hru,hrun _ ?_⟩
          have hone:chkOne P t'=true:=by
            rcases TI.one_of hti' with ⟨n,o',e⟩ | e | h
            · exact absurd e (by intro h;exact hst n o' h)
            · exact absurd e (by intro h;exact hno h)
            · exact h.1
          simp[part,(chkOne_isAgg hone w).1,hu']
      · cases hv
    · cases hv
  | makeFunc fn first xs =>
    cases fn with
    | func f =>
      simp only[pvx] at hv
      cases hb:Nat.beq first.size 0 with
      | false=>rw[hb] at hv;cases hv
      | true =>
        rw[hb] at hv
        simp only[cond_true] at hv
        unfold mfX at hv
        split at hv
        · rename_i vs hvs
          have hnp:noPt vs=true:=by
            cases hnp:noPt vs with
            | false=>rw[hnp] at hv;cases hv
            | true=>rfl
          rw[hnp] at hv
          cases hv
          obtain⟨us,e1,e2,e3⟩:=h.evs hl hG hvs
          have hf:first= #[]:=Array.eq_empty_of_size_eq_zero (Nat.eq_of_beq_eq_true hb)
          refine⟨.func (.func f) #[] us.toArray,⟨us,rfl,e1⟩,?_⟩
          intro _ _ _ _
          subst hf
          have hm:xs.map a.eval=us.toArray:=by
            rw[←e2]
            apply Array.ext'
            simp
          simp only[execOp,Instr.makeFunc,hm,Array.map_empty]
          simp
        · cases hv
    | _=>simp only[pvx] at hv;cases hv
  | index t x y =>
    simp only[pvx] at hv
    unfold idxX at hv
    split at hv
    · rename_i st i ht hx hy
      cases hv
      simp only[Bool.and_eq_true,decide_eq_true_eq] at hc
      refine⟨_,⟨rfl,u8_good _⟩,y_index_str hE (h.evv hl hG hx).1 (h.evv hl hG hy).1 (by omega) (by omega) (s.str ht)⟩
    · rename_i cs i ht hx hy
      split at hv
      · rename_i n ss hn hss
        cases hb:lenB ss n with
        | false=>rw[hb] at hv;cases hv
        | true =>
          rw[hb] at hv
          cases hv
          simp only[Bool.and_eq_true,decide_eq_true_eq] at hc
          have hb:=Nat.eq_of_beq_eq_true hb
          obtain⟨e,he⟩:=s.arok t n hn
          obtain⟨us,hus,hru⟩:=evr x _ hx
          obtain⟨e1,e2⟩:=strsX_ok hss hru
          have hlt:i.toNat<ss.length:=by omega
          have hm:nth ss i.toNat∈ss:=by
            have:nth ss i.toNat=ss[i.toNat]:=by unfold Fw.nth;simp[hlt]
            rw[this];exact List.getElem_mem hlt
          exact⟨_,⟨rfl,e2 _ hm⟩,y_index_arr Value.string hE (cs:=us) (by rw[(h.ev hl hG hx).2,hus]) e1 (h.evv hl hG hy).1 (by omega) hlt he hb⟩
      · cases hv
    · cases hv
  | indexAddr t x y =>
    simp only[pvx] at hv
    unfold iaX at hv
    split at hv
    · rename_i e sz by' x' i ht hx hy
      have hsl:=s.sl ht
      have hyv:=(h.evv hl hG hy).1
      unfold idxR at hv
      split at hv
      · rename_i e' xs
        cases hb:Nat.beq sz (Dat.sz (τ.T e')) with
        | false=>rw[hb] at hv;cases hv
        | true =>
          rw[hb] at hv
          cases hv
          simp only[Bool.and_eq_true,decide_eq_true_eq] at hc
          have hrx:=evr x _ hx
          obtain⟨ad,cs,e1,e2,e3,e4⟩:=y_idx (P:=P) (ty:=ty) hE hsl (Nat.eq_of_beq_eq_true hb) (h.ev hl hG hx).2 hrx hyv hc.1 hc.2
          exact⟨_,⟨ad,cs,rfl,e2,e3,e4⟩,e1⟩
      · rename_i r
        have hrx:a.eval x=_:=evr x _ hx
        split at hv
        · rename_i e' xs hr
          cases hb:Nat.beq sz (Dat.sz (τ.T e')) with
          | false=>rw[hb] at hv;cases hv
          | true =>
            rw[hb] at hv
            cases hv
            simp only[Bool.and_eq_true,decide_eq_true_eq] at hc
            have hsz:=Nat.eq_of_beq_eq_true hb
            rcases h.ent r _ (hEl r _ hr) with ⟨h1,h2,h3,h4⟩ | ⟨g,arr,t',h1,h2,h3,h4,h5,h6,h7,h8⟩
            · subst h4;simp at hc;omega
            · refine ⟨_, ⟨g, h1, by omega, rfl⟩, ?_⟩
              rw[h1] at hrx
              have:=y_indexAddr (P:=P) (w:=w) (ty:=ty) hE (h.ptr hl hG hx hrx) hyv hc.1 (by omega) hsl
              rw[add_add,hsz] at this
              exact this
        · rename_i e' xs hr
          cases hb:Nat.beq sz (Dat.sz (τ.T e')) with
          | false=>rw[hb] at hv;cases hv
          | true =>
            rw[hb] at hv
            cases hv
            simp only[Bool.and_eq_true,decide_eq_true_eq] at hc
            obtain⟨ad,cs,e1,e2,e3,e4⟩:=y_idx (P:=P) (ty:=ty) hE hsl (Nat.eq_of_beq_eq_true hb) (h.ptr hl hG hx hrx) (h.ent r _ (hEl r _ hr)) hyv hc.1 hc.2
            exact⟨_,⟨ad,cs,rfl,e2,e3,e4⟩,e1⟩
        · cases hv
      · cases hv
    · cases hv
  | slice t x lo hi mx =>
    cases mx with
    | some m=>simp only[pvx] at hv;cases hv
    | none =>
      simp only[pvx] at hv
      have bnd: ∀ {d i:Int} {o:Option Operand},bndX l G d o=some i→bdP a d i o:=by
        intro d i o hb
        cases o with
        | none=>cases hb;rfl
        | some y =>
          simp only[bndX] at hb
          split at hb
          · rename_i i' hi'
            cases hb
            have:=(h.ev hl hG hi').1.1
            exact this
          · cases hb
      have row: ∀ {e sz by' e':Nat} {xs:List (τ.T e')} {i j:Int} {u:Value},ti t= .sl e sz by'→Nat.beq sz (Dat.sz (τ.T e'))=true→a.eval x=u→SlR S w u xs→bdP a 0 i lo→bdP a (xs.length:Int) j hi→(decide (0≤i)&&(decide (i≤j)&&decide (j≤(xs.length:Int))))=true→
          ∃ u,SlR S w u (cutL xs i.toNat j.toNat)∧Fw.Yields P a w (.slice t x lo hi none) ty u:=by
        intro e sz by' e' xs i j u ht hb hu hr hlo hhi hcc
        simp only[Bool.and_eq_true,decide_eq_true_eq] at hcc
        obtain⟨A,cap,rfl,h1,h2⟩:=SlR.lenle hr
        have hj:j.toNat≤xs.length:=by omega
        have hr1:=hr.take j.toNat
        have e1:(xs.take j.toNat).length=j.toNat:=by rw[List.length_take];omega
        have hr2:=hr1.drop (k:=i.toNat) (by omega)
        have e2:((xs.take j.toNat).drop i.toNat).length=j.toNat - i.toNat:=by rw[List.length_drop,e1]
        have:=y_cutR (P:=P) (w:=w) (ty:=ty) (s.sl ht) hu hlo hhi hcc.1 hcc.2.1 (by omega)
        refine⟨_,?_,this⟩
        unfold cutL
        rw[e2] at hr2
        rw[Nat.eq_of_beq_eq_true hb]
        exact hr2
      unfold cutX at hv
      split at hv
      · rename_i st ht hx
        split at hv
        · rename_i i j hi' hj'
          cases hv
          have hcc:=hc
          simp only[Bool.and_eq_true,decide_eq_true_eq] at hcc
          refine⟨_,⟨rfl,?_⟩,y_cutS (s.str ht) (evr x _ hx).1 (bnd hi') (bnd hj') hcc.1 hcc.2.1 hcc.2.2⟩
          have hg:st.size≤maxLen:=(evr x _ hx).2
          exact cutS_size hg
        · cases hv
      · rename_i e0 sz by0 e xs ht hx
        split at hv
        · rename_i i j hi' hj'
          cases hb:Nat.beq sz (Dat.sz (τ.T e)) with
          | false=>rw[hb] at hv;cases hv
          | true =>
            rw[hb] at hv
            cases hv
            exact row ht hb rfl (evr x _ hx) (bnd hi') (bnd hj') hc
        · cases hv
      · rename_i e0 sz by0 r ht hx
        split at hv
        · rename_i e xs hr
          split at hv
          · rename_i i j hi' hj'
            cases hb:Nat.beq sz (Dat.sz (τ.T e)) with
            | false=>rw[hb] at hv;cases hv
            | true =>
              rw[hb] at hv
              cases hv
              exact row ht hb (evr x _ hx) (h.ent r _ (hEl r _ hr)) (bnd hi') (bnd hj') hc
          · cases hv
        · cases hv
      · cases hv
  | call cl =>
    simp only[pvx] at hv
    split at hv
    · rename_i b hb
      obtain⟨callee,args,ts⟩:=cl
      simp only at hb hv
      subst hb
      unfold blX at hv
      split at hv
      · rename_i x t hargs hts
        have ha:args= #[x]:=by apply Array.ext';simpa using hargs
        have ht':ts= #[t]:=by apply Array.ext';simpa using hts
        subst ha;subst ht'
        unfold lenX at hv
        split at hv
        · rename_i st ht hx
          cases hv
          obtain⟨e1,g1⟩:=h.evv hl hG hx
          exact⟨_,⟨rfl,i64_len g1⟩,y_len_string hE e1 (s.str ht)⟩
        · rename_i e sz by' A n m ht hx
          cases hb:Nat.ble n 0 with
          | false=>rw[hb] at hv;cases hv
          | true =>
            rw[hb] at hv
            cases hv
            obtain rfl:n=0:=Nat.le_zero.1 (Nat.le_of_ble_eq_true hb)
            exact⟨_,⟨rfl,i64_len (Nat.zero_le _)⟩,y_len_slice hE (h.evv hl hG hx).1 (s.sl ht)⟩
        · rename_i e sz by' e' xs ht hx
          cases hv
          have hr:=evr x _ hx
          obtain⟨A,cap,hu,h1,h2⟩:=SlR.lenle hr
          exact⟨_,⟨rfl,i64_len (Nat.le_trans h1 h2)⟩,y_len_slice hE (h.ptr hl hG hx hu) (s.sl ht)⟩
        · rename_i e sz by' r ht hx
          have hrx:a.eval x=_:=evr x _ hx
          split at hv
          · rename_i e' xs hr
            cases hv
            have h1:=OwnR.slR (S':=fun _=>True) (h.ent r _ (hEl r _ hr)) (fun _ _=>trivial) (fun _ _=>trivial)
            obtain⟨A,cap,hu,h2,h3⟩:=SlR.lenle h1
            exact⟨_,⟨rfl,i64_len (Nat.le_trans h2 h3)⟩,y_len_slice hE (h.ptr hl hG hx (hrx.trans hu)) (s.sl ht)⟩
          · rename_i e' xs hr
            cases hv
            have h1:SlR S w _ xs:=h.ent r _ (hEl r _ hr)
            obtain⟨A,cap,hu,h2,h3⟩:=SlR.lenle h1
            exact⟨_,⟨rfl,i64_len (Nat.le_trans h2 h3)⟩,y_len_slice hE (h.ptr hl hG hx (hrx.trans hu)) (s.sl ht)⟩
          · cases hv
        · cases hv
      · rename_i x y hargs
        have ha:args= #[x,y]:=by apply Array.ext';simpa using hargs
        subst ha
        unfold mmX at hv
        split at hv
        · rename_i k i q j hx hy
          cases hk:ikq k q with
          | false=>rw[hk] at hv;cases hv
          | true =>
            rw[hk] at hv
            obtain rfl:=ikq_spec hk
            cases hv
            obtain⟨e1,g1⟩:=h.evv hl hG hx
            obtain⟨e2,g2⟩:=h.evv hl hG hy
            refine⟨_,⟨rfl,?_⟩,y_min hE e1 e2⟩
            show k.wrap (min i j)=min i j
            rcases Int.le_total i j with hle | hle
            · rw[Int.min_eq_left hle];exact g1
            · rw[Int.min_eq_right hle];exact g2
        · cases hv
      · rename_i x y hargs
        have ha:args= #[x,y]:=by apply Array.ext';simpa using hargs
        subst ha
        unfold mmX at hv
        split at hv
        · rename_i k i q j hx hy
          cases hk:ikq k q with
          | false=>rw[hk] at hv;cases hv
          | true =>
            rw[hk] at hv
            obtain rfl:=ikq_spec hk
            cases hv
            obtain⟨e1,g1⟩:=h.evv hl hG hx
            obtain⟨e2,g2⟩:=h.evv hl hG hy
            refine⟨_,⟨rfl,?_⟩,y_max hE e1 e2⟩
            show k.wrap (max i j)=max i j
            rcases Int.le_total i j with hle | hle
            · rw[Int.max_eq_right hle];exact g2
            · rw[Int.max_eq_left hle];exact g1
        · cases hv
      · rename_i x y z hargs
        have ha:args= #[x,y,z]:=by apply Array.ext';simpa using hargs
        subst ha
        unfold mm3 at hv
        split at hv
        · rename_i k i q j q' m hx hy hz
          cases hk:ikq k q&&ikq k q' with
          | false=>rw[hk] at hv;cases hv
          | true =>
            rw[hk] at hv
            rw[Bool.and_eq_true] at hk
            obtain rfl:=ikq_spec hk.1
            obtain rfl:=ikq_spec hk.2
            cases hv
            obtain⟨e1,g1⟩:=h.evv hl hG hx
            obtain⟨e2,g2⟩:=h.evv hl hG hy
            obtain⟨e3,g3⟩:=h.evv hl hG hz
            refine⟨_,⟨rfl,?_⟩,y_min3 hE e1 e2 e3⟩
            show k.wrap (min (min i j) m)=min (min i j) m
            have gm:k.wrap (min i j)=min i j:=by
              rcases Int.le_total i j with hle | hle
              · rw[Int.min_eq_left hle];exact g1
              · rw[Int.min_eq_right hle];exact g2
            rcases Int.le_total (min i j) m with hle | hle
            · rw[Int.min_eq_left hle];exact gm
            · rw[Int.min_eq_right hle];exact g3
        · cases hv
      · cases hv
    · cases hv
  | _=>simp only[pvx] at hv;cases hv
end
end Go.Proofs.YtapfpflmcgfbkaaGreatDoor.Ri

namespace Go.Proofs.YtapfpflmcgfbkaaGreatDoor.Fw
open Go.RowKit
set_option linter.unusedVariables false
section
variable {P:Program} {α:Type} [Dat α] {w:World}
theorem run_appT {t ts e ty sz bytes:Nat} {z:Value} (ht:chkSlice P t e sz bytes=true) (hsz:sz=Dat.sz α) (hz: ∀ w,(zeroValue e).run P w= .ok z w) (hzs:z.cells.size=sz) {v:Value} {str:ByteArray} {xs ys:List α} {F:List Nat} (hv:SlO w v xs F) (hF:F.Nodup)
  {news:List Value} {Gs:List (List Nat)} (hts:P.underlying ts=some .string) (hstr:str.size=ys.length) (hfirst: ∀ w,(Builtin.firstCells (Dat.sz α) ys.length (.string str)).run P w= .ok news.toArray w) (hl:news.length=ys.length*Dat.sz α) (h1: ∀ u∈news,u.oneCell'=true) (hy:Elems w news ys Gs) (hG:Gs.flatten.Nodup) (hdis: ∀ b∈Gs.flatten,b ∉ F)
  (hb:(xs.length+ys.length)*bytes≤140737488355328) (hm:xs.length+ys.length≤maxLen):
  ∃ v' w' F',(Builtin.append_ #[t,ts] ty #[v,.string str]).run P w= .ok v' w'∧SlO w' v' (xs++ys) F'∧F'.Nodup∧w'.os=w.os∧w'.tape=w.tape∧w'.output=w.output∧w.heap.size≤w'.heap.size∧
   (∀ b,b<w.heap.size→b ∉ F→w'.heap[b]?=w.heap[b]?)∧(∀ b∈F',b∈F∨b∈Gs.flatten∨w.heap.size≤b):=by
 obtain⟨hu,i,hi,his,hib⟩:=chkSlice_spec ht
 have hzi:i.zero=some z:=by
  have:=hz w
  simp only[zeroValue,Sem.run_bind,typeInfo,run_program,hi,Sem.run_pure,Result.andThen_ok] at this
  cases hzz:i.zero with
  | none=>rw[hzz] at this;simp at this
  | some z'=>rw[hzz] at this;simp at this;rw[this]
 subst his
 have hszp:0<Dat.sz α:=Dat.sz_pos α
 have grow: ∀ (old:Nat) (olds:List Value) (Fs:List (List Nat)),old<xs.length+ys.length→olds.length=xs.length*Dat.sz α→Elems w olds xs Fs→(Fs.flatten++Gs.flatten).Nodup→(∀ b∈Fs.flatten,b∈F)→
   ∀ v' w',v'= .slice (some ⟨w.heap.size,0,none⟩) (xs.length+ys.length) (grownCap w (xs.length+ys.length) old e)→
    w'=w.drew.alloc (.cells (olds.toArray++news.toArray++Builtin.zeroCells z.cells (grownCap w (xs.length+ys.length) old e - (xs.length+ys.length))) e)→
    ∃ F',SlO w' v' (xs++ys) F'∧F'.Nodup∧w'.os=w.os∧w'.tape=w.tape∧w'.output=w.output∧w.heap.size≤w'.heap.size∧
     (∀ b,b<w.heap.size→b ∉ F→w'.heap[b]?=w.heap[b]?)∧(∀ b∈F',b∈F∨b∈Gs.flatten∨w.heap.size≤b):=by
  intro old olds Fs ho hlo hels hnd hsub v' w' ev ew
  subst ev
  subst ew
  have hge:=grownCap_ge w (xs.length+ys.length) old e
  have hcm:=grownCap_le_maxLen w (xs.length+ys.length) old e hm
  have hsame: ∀ (b:Nat),b<w.heap.size→(w.drew.alloc (.cells (olds.toArray++news.toArray++Builtin.zeroCells z.cells (grownCap w (xs.length+ys.length) old e - (xs.length+ys.length))) e)).heap[b]?=w.heap[b]?:=fun b hb=>heap_alloc_old w.drew _ hb
  have hltF:=hels.lt
  have hltG:=hy.lt
  refine⟨w.heap.size::(Fs++Gs).flatten,?_,?_,rfl,rfl,rfl,by simp,fun b hb _=>hsame b hb,?_⟩
  ·refine SlO_iff.2 (.inr ⟨w.heap.size,_,_,e,Fs++Gs,by rw[List.length_append],heap_alloc_new w.drew _,by rw[List.length_append];exact hge,hcm,?_,rfl,?_⟩)
   ·simp only[Array.size_append,List.size_toArray,size_zeroCells,hzs,hlo,hl,hsz]
    rw[←Nat.add_mul,←Nat.add_mul]
    exact Nat.mul_le_mul_right _ (by omega)
   ·refine(hels.same fun b hb=>hsame b (hltF b hb)).app (hy.same fun b hb=>hsame b (hltG b hb)) (l':=news) ?_ (by omega)
    simp only[Array.toList_append,List.append_assoc]
    rw[←List.append_assoc,List.take_append_of_le_length (by rw[List.length_append,hlo,hl,Nat.add_mul];exact Nat.le_refl _),List.take_of_length_le (by rw[List.length_append,hlo,hl,Nat.add_mul];exact Nat.le_refl _),
     List.take_of_length_le (by rw[hlo];exact Nat.le_refl _)]
  ·rw[List.flatten_append]
   refine List.nodup_cons.2 ⟨fun hb=>?_,hnd⟩
   rcases List.mem_append.1 hb with hb | hb
   ·exact absurd (hltF _ hb) (by omega)
   ·exact absurd (hltG _ hb) (by omega)
  ·intro b hb
   rw[List.flatten_append] at hb
   rcases List.mem_cons.1 hb with rfl | hb
   ·exact .inr (.inr (Nat.le_refl _))
   ·rcases List.mem_append.1 hb with hb | hb
    ·exact .inl (hsub b hb)
    ·exact .inr (.inl hb)
 rcases SlO_iff.1 hv with ⟨rfl,rfl,rfl⟩ | ⟨g,cap,arr,T,Fs,rfl,hg,hlc,hcm,hsize,rfl,hels⟩
 ·by_cases h0:ys.length=0
  ·have:ys=[]:=List.eq_nil_of_length_eq_zero h0
   subst this
   refine⟨.slice none 0 0,w,[],?_,SlO_iff.2 (.inl ⟨rfl,rfl,rfl⟩),by simp,rfl,rfl,rfl,Nat.le_refl _,fun _ _ _=>rfl,fun b hb=>by cases hb⟩
   simp only[List.length_nil] at hfirst ⊢
   simp[Builtin.append_,run_underlying hu,run_underlying hts,hstr,sizeOf,typeInfo,hi,Builtin.lenOf,hsz,hfirst]
  ·obtain⟨F',h⟩:=grow 0 [] [] (by simp;omega) (by simp) Elems.nil (by simpa using hG) (by simp) _ _ rfl rfl
   refine⟨_,_,F',?_,h⟩
   have h63': ¬ (9223372036854775807<(ys.length:Int)):=by simp only[List.length_nil,Nat.zero_add,maxLen] at hm;omega
   have h48': ¬ (281474976710656<Builtin.nextslicecap ys.length 0*i.bytes):=by rw[nextslicecap_zero (by omega),hib];simp only[List.length_nil,Nat.zero_add] at hb;omega
   simp only[List.length_nil,Nat.zero_add,Array.empty_append,List.toArray]
   simp[Builtin.append_,run_underlying hu,run_underlying hts,hstr,sizeOf,typeInfo,hi,hzi,Builtin.lenOf,hsz,hfirst,h0,h63',h48',zeroValue,grownCap,run_firstCells_none,newRow,Question.forced]
 ·have hal:arr.toList.length=arr.size:=Array.length_toList
  by_cases hroom:xs.length+ys.length≤cap
  ·have hcut:(xs.length+ys.length)*Dat.sz α≤arr.size:=Nat.le_trans (Nat.mul_le_mul_right _ hroom) hsize
   rw[Nat.add_mul] at hcut
   have hst:=run_storeCells_at P g (xs.length*Dat.sz α) T news 0 arr w hg (by omega) h1
   simp only[Nat.add_zero] at hst
   have hother: ∀ b,b≠g→(w.setRow g (arr.toList.take (xs.length*Dat.sz α)++news++arr.toList.drop (xs.length*Dat.sz α+news.length)).toArray).heap[b]?=w.heap[b]?:=fun b hb=>setRow_other w g b _ hb
   have hnd:=hF
   rw[List.nodup_cons] at hnd
   refine⟨_,_,g::(Fs++Gs).flatten,?_,SlO_iff.2 (.inr ⟨g,cap,_,T,Fs++Gs,rfl,setRow_heap w g arr _ T _ hg,by rw[List.length_append];exact hroom,hcm,?_,rfl,?_⟩),?_,rfl,rfl,rfl,by simp,fun b _ hb=>hother b (fun e=>hb (by simp[e])),?_⟩
   ·rw[List.length_append]
    simp[Builtin.append_,run_underlying hu,run_underlying hts,hstr,sizeOf,typeInfo,hi,Builtin.lenOf,hroom,hsz,hfirst,Addr.add_lit,hst]
   ·simp only[List.size_toArray,List.length_append,List.length_take,List.length_drop,hal]
    omega
   ·refine(hels.same fun b hb=>hother b (fun e=>hnd.1 (e▸hb))).app (hy.same fun b hb=>hother b (fun e=>hdis b hb (by simp[e]))) (l':=news) ?_ (by rw[hal];omega)
    rw[List.append_assoc,←List.append_assoc,List.take_append_of_le_length (by rw[List.length_append,List.length_take,hal,hl,Nat.add_mul];omega),List.take_of_length_le (by rw[List.length_append,List.length_take,hal,hl,Nat.add_mul];omega)]
   ·rw[List.flatten_append]
    refine List.nodup_cons.2 ⟨fun hb=>?_,List.nodup_append.2 ⟨hnd.2,hG,fun a ha b hb'=>?_⟩⟩
    ·rcases List.mem_append.1 hb with hb | hb
     ·exact hnd.1 hb
     ·exact hdis g hb (by simp)
    ·rintro rfl
     exact hdis a hb' (List.mem_cons_of_mem _ ha)
   ·intro b hb
    rw[List.flatten_append] at hb
    rcases List.mem_cons.1 hb with rfl | hb
    ·exact .inl (by simp)
    ·rcases List.mem_append.1 hb with hb | hb
     ·exact .inl (List.mem_cons_of_mem _ hb)
     ·exact .inr (.inl hb)
  ·have hnd:=hF
   rw[List.nodup_cons] at hnd
   have hsz':xs.length*Dat.sz α≤arr.size:=Nat.le_trans (Nat.mul_le_mul_right _ hlc) hsize
   have hlo:(arr.toList.take (xs.length*Dat.sz α)).length=xs.length*Dat.sz α:=by rw[List.length_take,hal];omega
   have hels' : Elems w (arr.toList.take (xs.length * Dat.sz α)) xs Fs := ⟨hels.1, fun i x hi => by
    obtain⟨G,hG,ho⟩:=hels.2 i x hi
    refine⟨G,hG,?_⟩
    rw[cut_take ((List.getElem?_eq_some_iff.1 hi).1)]
    exact ho⟩
   obtain⟨F',h⟩:=grow cap (arr.toList.take (xs.length*Dat.sz α)) Fs (by omega) hlo hels' (List.nodup_append.2 ⟨hnd.2,hG,fun a ha b hb'=>by rintro rfl;exact hdis a hb' (List.mem_cons_of_mem _ ha)⟩) (fun b hb=>List.mem_cons_of_mem _ hb) _ _ rfl rfl
   refine⟨_,_,F',?_,h⟩
   have hrow:CellsAt w ⟨g,0,none⟩ arr.toList:=CellsAt.row (by simpa using hg)
   have holds : ∀ j u, (arr.toList.take (xs.length * Dat.sz α))[j]? = some u → w.cell? ((⟨g, 0, none⟩ : Addr).add j) = some u := fun j u hj => by
    rw[List.getElem?_take] at hj
    split at hj
    ·exact hrow j u hj
    ·cases hj
   have hf2:=run_firstCells_some (P:=P) w.drew (Dat.sz α) xs.length ⟨g,0,none⟩ xs.length cap _ hlo holds
   have h63': ¬ (9223372036854775807<((xs.length:Int)+(ys.length:Int))):=by simp only[maxLen] at hm;omega
   have h48': ¬ (281474976710656<Builtin.nextslicecap (xs.length+ys.length) cap*i.bytes):=by have:=growslice_fits (old:=cap) (need:=xs.length+ys.length) (bytes:=i.bytes) (by omega) (by rw[hib];exact hb);omega
   have hng: ¬ (xs.length+ys.length≤cap):=hroom
   simp[Builtin.append_,run_underlying hu,run_underlying hts,hstr,sizeOf,typeInfo,hi,hzi,Builtin.lenOf,hsz,hfirst,hf2,hng,h63',h48',zeroValue,grownCap,newRow,Question.forced]
   congr 2
   apply Array.ext'
   simp[List.append_assoc]
end
section
variable {c:Cx} {σ:St} {all:Array Oper} {ty:TypeId} {pos:String} {after:Array Edge} {d:Nat}
end
end Go.Proofs.YtapfpflmcgfbkaaGreatDoor.Fw

namespace Go.Proofs.YtapfpflmcgfbkaaGreatDoor.Fw
open Go.RowKit
set_option linter.unusedVariables false
set_option maxRecDepth 100000
section
variable {c:Cx} {σ:St} {all:Array Oper} {ty:TypeId} {pos:String} {after:Array Edge} {d:Nat}
theorem cut_mid {sz k m : Nat} {l ds : List Value} (hd : ds.length = m * sz) (hl : k * sz + m * sz ≤ l.length) (i : Nat) : Fw.cut sz (l.take (k * sz) ++ ds ++ l.drop (k * sz + m * sz)) i = if i < k then Fw.cut sz l i else if i < k + m then Fw.cut sz ds (i - k) else Fw.cut sz l i := by
 have h1:(l.take (k*sz)).length=k*sz:=by rw[List.length_take];omega
 have h2:(l.take (k*sz)++ds).length=(k+m)*sz:=by rw[List.length_append,h1,hd,Nat.add_mul]
 by_cases hi:i<k
 ·rw[if_pos hi,List.append_assoc,cut_append_left h1 hi,cut_take hi]
 ·rw[if_neg hi]
  by_cases hm:i<k+m
  ·rw[if_pos hm,cut_append_left h2 hm,cut_append_right h1 (by omega)]
  ·rw[if_neg hm,cut_append_right h2 (by omega)]
   unfold Fw.cut
   rw[List.drop_drop,←Nat.add_mul,←Nat.add_mul,show k+m+(i - (k+m))=i by omega]
theorem cut_zero {z:Array Value} {n i:Nat} (hz:0<z.size) (hi:i<n):Fw.cut z.size (Builtin.zeroCells z n).toList i=z.toList:=by
 apply List.ext_getElem?
 intro q
 unfold Fw.cut Builtin.zeroCells
 rw[List.getElem?_take]
 by_cases hq:q<z.size
 ·rw[if_pos hq,List.getElem?_drop]
  have hlt:i*z.size+q<n*z.size:=by
   have:=Nat.mul_le_mul_right z.size (show i+1≤n by omega)
   rw[Nat.succ_mul] at this
   omega
  have hmod:(i*z.size+q) % z.size=q:=by rw[Nat.add_comm,Nat.add_mul_mod_self_right,Nat.mod_eq_of_lt hq]
  simp[hlt,hmod,hq]
 ·rw[if_neg hq,List.getElem?_eq_none (by rw[Array.length_toList];omega)]
end
end Go.Proofs.YtapfpflmcgfbkaaGreatDoor.Fw

namespace Go.Proofs.YtapfpflmcgfbkaaGreatDoor.Fw
open Go.RowKit
set_option linter.unusedVariables false
set_option maxRecDepth 100000
def insL {α:Type} (xs:List α) (k:Nat) (c:α):List α:=xs.take k++c::xs.drop k
theorem insL_length {α:Type} {xs:List α} {k:Nat} {c:α} (hk:k≤xs.length):(insL xs k c).length=xs.length+1:=by
 unfold insL
 rw[List.length_append,List.length_take,List.length_cons,List.length_drop]
 omega
section
variable {α:Type} [dα:Dat α]
def FlE (l:List Value) (xs:List α):Prop:= ∀ i x,xs[i]?=some x→ ∀ w,Dat.own w (Fw.cut (Dat.sz α) l i) x []
theorem own_flat (s:Str α) (hf:flats s.fk=true) {w w':World} {cs:List Value} {x:α} {G:List Nat} (h:Dat.own w cs x G):Dat.own w' cs x []:=flat_own s hf (Dat.own_rd (B:=fun _=>True) h fun _ _=>trivial)
theorem rep_nil: ∀ n,(List.replicate n ([]:List Nat)).flatten=[]:=by
 intro n
 induction n with
 | zero=>rfl
 | succ n ih=>rw[List.replicate_succ,List.flatten_cons,ih];rfl
theorem FlE.slo {w:World} {g cap n:Nat} {arr:Array Value} {T:TypeId} {xs:List α} (h:FlE arr.toList xs) (hg:w.heap[g]?=some (.cells arr T (0,0))) (hn:n=xs.length) (h1:n≤cap) (h2:cap≤maxLen) (h3:cap*Dat.sz α≤arr.size):SlO w (.slice (some ⟨g,0,none⟩) n cap) xs [g]:=by
 subst hn
 refine SlO_iff.2 (.inr ⟨g,cap,arr,T,List.replicate xs.length [],rfl,hg,h1,h2,h3,by rw[rep_nil],by rw[List.length_replicate],fun i x hi=>⟨[],?_,h i x hi w⟩⟩)
 rw[List.getElem?_replicate,if_pos (List.getElem?_eq_some_iff.1 hi).1]
theorem SlO.fl (s:Str α) (hf:flats s.fk=true) {w:World} {v:Value} {xs:List α} {F:List Nat} (h:SlO w v xs F):(v= .slice none 0 0∧xs=[]) ∨
  ∃ (g cap:Nat) (arr:Array Value) (T:TypeId),v= .slice (some ⟨g,0,none⟩) xs.length cap∧w.heap[g]?=some (.cells arr T (0,0))∧xs.length≤cap∧cap≤maxLen∧cap*Dat.sz α≤arr.size∧g∈F∧FlE arr.toList xs:=by
 rcases h with ⟨e1,e2,_⟩ | ⟨g,cap,arr,T,Fs,e1,e2,e3,e4,e5,e6,e7,e8⟩
 ·exact .inl ⟨e1,e2⟩
 ·refine .inr ⟨g,cap,arr,T,e1,e2,e3,e4,e5,by rw[e6];exact List.mem_cons_self,fun i x hi w'=>?_⟩
  obtain⟨G,_,ho⟩:=e8 i x hi
  exact own_flat s hf ho
theorem FlE.ins {l l2 ec:List Value} {xs:List α} {k:Nat} {c:α} (h:FlE l xs) (hk:k≤xs.length) (hc: ∀ w,Dat.own w ec c []) (h2: ∀ i,i<xs.length+1→Fw.cut (Dat.sz α) l2 i=if i<k then Fw.cut (Dat.sz α) l i else if i=k then ec else Fw.cut (Dat.sz α) l (i - 1)):FlE l2 (insL xs k c):=by
 intro i x hi w
 have hlt:=(List.getElem?_eq_some_iff.1 hi).1
 rw[insL_length hk] at hlt
 rw[h2 i hlt]
 unfold insL at hi
 have h1:(xs.take k).length=k:=by rw[List.length_take];omega
 by_cases h3:i<k
 ·rw[if_pos h3]
  rw[List.getElem?_append_left (by omega),List.getElem?_take,if_pos h3] at hi
  exact h i x hi w
 ·rw[if_neg h3]
  rw[List.getElem?_append_right (by omega),h1] at hi
  by_cases h4:i=k
  ·rw[if_pos h4]
   rw[h4,Nat.sub_self,List.getElem?_cons_zero] at hi
   cases hi
   exact hc w
  ·rw[if_neg h4]
   rw[show i - k=(i - k - 1)+1 by omega,List.getElem?_cons_succ,List.getElem?_drop,show k+(i - k - 1)=i - 1 by omega] at hi
   exact h (i - 1) x hi w
theorem FlE.one {l:List Value} {xs:List α} (h:FlE l xs) (w:World): ∀ u∈l.take (xs.length*Dat.sz α),u.oneCell'=true:=by
 intro u hu
 obtain⟨j,hj⟩:=List.getElem?_of_mem hu
 have hsp:=Dat.sz_pos α
 rw[List.getElem?_take] at hj
 split at hj
 ·rename_i hlt
  have hq:j / Dat.sz α<xs.length:=(Nat.div_lt_iff_lt_mul hsp).2 hlt
  refine Dat.rd_one (Dat.own_rd (B:=fun _=>True) (h _ _ (List.getElem?_eq_getElem hq) w) fun _ _=>trivial) u ?_
  unfold Fw.cut
  refine List.mem_of_getElem? (i:=j % Dat.sz α) ?_
  rw[List.getElem?_take,if_pos (Nat.mod_lt _ hsp),List.getElem?_drop,Nat.mul_comm,Nat.div_add_mod]
  exact hj
 ·cases hj
def midC (sz k m:Nat) (l:List Value):List Value:=(l.drop (k*sz)).take (m*sz)
theorem midC_len {sz k m:Nat} {l:List Value} (h:k*sz+m*sz≤l.length):(midC sz k m l).length=m*sz:=by unfold midC;rw[List.length_take,List.length_drop];omega
theorem midC_mem {sz k n:Nat} {l:List Value} (hk:k≤n) {u:Value} (h:u∈midC sz k (n - k) l):u∈l.take (n*sz):=by
 unfold midC at h
 rw[show(n - k)*sz=n*sz - k*sz by rw[Nat.sub_mul],←List.drop_take] at h
 exact List.mem_of_mem_drop h
theorem midC_cut {sz k m i:Nat} {l:List Value} (hi:i<m):Fw.cut sz (midC sz k m l) i=Fw.cut sz l (k+i):=by
 unfold midC
 rw[cut_take hi]
 unfold Fw.cut
 rw[List.drop_drop,←Nat.add_mul]
end
section
variable {P:Program} {w:World} {t e ty sz by':Nat}
theorem run_cpy (ht:chkSlice P t e sz by'=true) {g o dLen dCap sLen sCap m:Nat} {S:Addr} {news:List Value} {arr:Array Value} {T:TypeId} (hm:Nat.min sLen dLen=m) (hl:news.length=m*sz) (hsrc: ∀ j u,news[j]?=some u→w.cell? (S.add j)=some u) (hg:w.heap[g]?=some (.cells arr T (0,0))) (hle:o+m*sz≤arr.size) (h1: ∀ u∈news,u.oneCell'=true):
  (Builtin.copy_ #[t,t] ty #[.slice (some ⟨g,o,none⟩) dLen dCap,.slice (some S) sLen sCap]).run P w= .ok (goInt m) (w.setRow g (arr.toList.take o++news++arr.toList.drop (o+m*sz)).toArray):=by
 obtain⟨hu,i,hi,his,_⟩:=chkSlice_spec ht
 have hfirst:=run_firstCells_some (P:=P) w sz m S sLen sCap news hl hsrc
 have hst:=run_storeCells_at P g o T news 0 arr w hg (by omega) h1
 rw[Nat.add_zero,hl] at hst
 subst his
 simp[Builtin.copy_,run_underlying hu,Builtin.lenOf,sizeOf,typeInfo,hi,hm,hfirst,hst]
end
def InsQ {α:Type} [Dat α] (ys:List α) (F:List Nat) (w:World) (e:Ending) (w':World):Prop:= ∃ v' F',e= .returned v'∧SlO w' v' ys F'∧F'.Nodup∧w'.os=w.os∧w'.tape=w.tape∧w'.output=w.output∧w.heap.size≤w'.heap.size∧(∀ b,b<w.heap.size→b ∉ F→w'.heap[b]?=w.heap[b]?)∧ ∀ b∈F',b∈F∨w.heap.size≤b
end Go.Proofs.YtapfpflmcgfbkaaGreatDoor.Fw

namespace Go.Proofs.YtapfpflmcgfbkaaGreatDoor.Fw
open Go.RowKit
set_option linter.unusedVariables false
theorem run_storeCells_mk (P:Program) (g o:Nat) (t:TypeId) (fz:Nat×Nat): ∀ (vs:List Value) (i:Nat) (cur:Array Value) (w:World),w.heap[g]?=some (.cells cur t fz)→(fz.2=0∨cur.size≤fz.1)→o+i+vs.length≤cur.size→(∀ v∈vs,v.oneCell'=true)→
  (storeCells ⟨g,o,none⟩ vs i).run P w= .ok () (w.setRow g (cur.toList.take (o+i)++vs++cur.toList.drop (o+i+vs.length)).toArray)
 | [], i, cur, w, hg, _, _, _ => by
  simp only[storeCells,List.append_nil,List.length_nil,Nat.add_zero,List.take_append_drop,Array.toArray_toList]
  rw[setRow_self w g cur t fz hg]
  rfl
 | v :: rest, i, cur, w, hg, hfz, hl, h1 => by
  have hi:o+i<cur.size:=by simp at hl;omega
  have hadd:(⟨g,o,none⟩:Addr).add i=⟨g,o+i,none⟩:=by unfold Addr.add;split<;>simp_all
  have hcell:w.cell? ⟨g,o+i,none⟩=some cur[o+i]:=by simp[World.cell?,hg,hi]
  have hfro:w.frozen? ⟨g,o+i,none⟩=false:=by
   obtain⟨lo,hi'⟩:=fz
   simp only[World.frozen?,hg,Bool.and_eq_false_iff,decide_eq_false_iff_not]
   simp only at hfz
   omega
  have hst:(store ((⟨g,o,none⟩:Addr).add i) v).run P w= .ok () (w.setRow g (cur.setIfInBounds (o+i) v)):=by
   rw[hadd,run_store P w _ v _ (h1 v (by simp)),hcell]
   simp[hfro,setCell_eq_setRow w g (o+i) cur t fz v hg]
  have ih:=run_storeCells_mk P g o t fz rest (i+1) (cur.setIfInBounds (o+i) v) (w.setRow g (cur.setIfInBounds (o+i) v)) (setRow_heap w g cur _ t _ hg) (by rw[Array.size_setIfInBounds];exact hfz) (by simp at hl ⊢;omega) (fun x hx=>h1 x (by simp[hx]))
  simp only[storeCells,Sem.run_bind,hst,Result.andThen_ok,ih,setRow_setRow]
  congr 3
  have e:=list_seg_step cur.toList (o+i) v rest (by simp at hl ⊢;omega)
  simpa [Array.toList_setIfInBounds,Nat.add_assoc] using e
section
variable {P:Program}
end
section
variable {c:Cx} {σ:St} {all:Array Oper} {ty:TypeId} {pos:String} {after:Array Edge} {d:Nat}
end
end Go.Proofs.YtapfpflmcgfbkaaGreatDoor.Fw

namespace Go.Proofs.YtapfpflmcgfbkaaGreatDoor.Fw
open Go.RowKit
set_option linter.unusedVariables false
structure Raw (n:Nat) where
 val:List Value
 len:val.length=n
 one: ∀ u∈val,u.oneCell'=true
abbrev rawDat (n:Nat) (hn:0<n):Dat (Raw n):=Dat.flat n hn (·.val) (fun _=>True) (·.len) (fun _ _=>True) (·.one)
def rawCells {n:Nat} (raws:List (Raw n)):List Value:=raws.flatMap (·.val)
theorem rawCells_len {n:Nat}: ∀ raws:List (Raw n),(rawCells raws).length=raws.length*n
 | []=>by simp[rawCells]
 | r :: rs => by
  have:=rawCells_len rs
  unfold rawCells at this ⊢
  rw[List.flatMap_cons,List.length_append,this,r.len,List.length_cons,Nat.add_mul,Nat.one_mul,Nat.add_comm]
theorem rawCells_one {n : Nat} (raws : List (Raw n)) : ∀ u ∈ rawCells raws, u.oneCell' = true := fun u hu => by
 obtain⟨r,_,hr⟩:=List.mem_flatMap.1 hu
 exact r.one u hr
theorem rawCells_cut {n:Nat}: ∀ {raws:List (Raw n)} {i:Nat} {r:Raw n},raws[i]?=some r→Fw.cut n (rawCells raws) i=r.val
 | r0 :: rs, 0, r, h => by
  cases h
  unfold Fw.cut rawCells
  rw[List.flatMap_cons,Nat.zero_mul,List.drop_zero,List.take_append_of_le_length (by rw[r0.len];exact Nat.le_refl _),List.take_of_length_le (by rw[r0.len];exact Nat.le_refl _)]
 | r0 :: rs, i + 1, r, h => by
  have ih:=rawCells_cut (raws:=rs) (i:=i) (by simpa using h)
  unfold Fw.cut rawCells at ih ⊢
  rw[List.flatMap_cons,List.drop_append,List.drop_eq_nil_of_le (by rw[r0.len,Nat.add_mul];omega),List.nil_append,r0.len,Nat.add_mul,Nat.one_mul,Nat.add_sub_cancel]
  exact ih
theorem rawElems {n:Nat} (hn:0<n) (w:World) (raws:List (Raw n)):@Elems (Raw n) (rawDat n hn) w (rawCells raws) raws (List.replicate raws.length []):=⟨by simp,fun i x hi=>⟨[],by rw[List.getElem?_replicate,if_pos (List.getElem?_eq_some_iff.1 hi).1],⟨rawCells_cut hi,trivial⟩,rfl⟩⟩
theorem SlR.raws {α:Type} [d:Dat α] {S0:Nat→Prop} {w0 w:World} {u:Value} {xs:List α} (h:SlR S0 w0 u xs) (hk:Keep S0 w0 w):
  ∃ raws:List (Raw (Dat.sz α)),raws.length=xs.length∧Src w u xs.length (rawCells raws)∧ ∀ (i:Nat) (x:α) (r:Raw (Dat.sz α)),xs[i]?=some x→raws[i]?=some r→Dat.rd S0 w0 r.val x:=by
 obtain⟨A,cap,rfl,h1,h2,h3⟩:=h
 by_cases hx:xs=[]
 ·subst hx
  exact⟨[],rfl,⟨A,cap,rfl,fun j u h=>by simp[rawCells] at h⟩,fun i x r h=>by cases h⟩
 ·obtain⟨ad,rfl,hb,hc⟩:=h3 hx
  have key: ∀ (xs:List α) (a:Addr),a.block=ad.block→(∀ i x,xs[i]?=some x→ ∃ cs,Dat.rd S0 w0 cs x∧CellsAt w0 (a.add (i*Dat.sz α)) cs)→ ∃ raws:List (Raw (Dat.sz α)),raws.length=xs.length∧CellsAt w a (rawCells raws)∧ ∀ (i:Nat) (x:α) (r:Raw (Dat.sz α)),xs[i]?=some x→raws[i]?=some r→Dat.rd S0 w0 r.val x:=by
   intro xs
   induction xs with
   | nil=>intro a _ _;exact⟨[],rfl,fun j u h=>by simp[rawCells] at h,fun i x r h=>by cases h⟩
   | cons x xs ih =>
    intro a ha h
    obtain⟨cs,hr,hcs⟩:=h 0 x rfl
    rw[Nat.zero_mul,Addr.add_zero'] at hcs
    have hl:cs.length=Dat.sz α:=Dat.rd_len hr
    have hab:(a.add (Dat.sz α)).block=ad.block:=by rw[←ha];unfold Addr.add;split<;>rfl
    obtain ⟨raws, n1, n2, n3⟩ := ih (a.add (Dat.sz α)) hab fun i y hi => by
     obtain⟨ds,h1,h2⟩:=h (i+1) y (by simpa using hi)
     refine⟨ds,h1,?_⟩
     rw[add_add]
     rwa [Nat.add_mul,Nat.one_mul,Nat.add_comm] at h2
    refine⟨⟨cs,hl,Dat.rd_one hr⟩::raws,by rw[List.length_cons,n1,List.length_cons],fun j u hj=>?_,fun i y r hi hri=>?_⟩
    ·have hj':(cs++rawCells raws)[j]?=some u:=by
      unfold rawCells at hj ⊢
      rw[List.flatMap_cons] at hj
      exact hj
     rcases Nat.lt_or_ge j cs.length with h1 | h1
     ·rw[List.getElem?_append_left h1] at hj'
      have h5:CellsAt w a cs:=hcs.keep hk (by rw[ha];exact hb)
      exact h5 j u hj'
     ·rw[List.getElem?_append_right h1] at hj'
      have:=n2 _ u hj'
      rwa [add_add,hl,show Dat.sz α+(j - Dat.sz α)=j by omega] at this
    ·cases i with
     | zero=>cases hi;cases hri;exact hr
     | succ i=>exact n3 i y r (by simpa using hi) (by simpa using hri)
  obtain⟨raws,n1,n2,n3⟩:=key xs ad rfl hc
  exact⟨raws,n1,⟨some ad,cap,rfl,fun j u hj=>⟨ad,rfl,n2 j u hj⟩⟩,n3⟩
def ClonedR {n:Nat} (raws:List (Raw n)) (w w':World) (l:Loc):Prop:=Below w.heap.size w w'∧((l.A=none∧raws=[]∧l.cap=0∧l.F=[]) ∨
 ∃ g arr T,l.A=some ⟨g,0,none⟩∧l.F=[g]∧w.heap.size≤g∧w'.heap[g]?=some (.cells arr T (0,0))∧raws.length≤l.cap∧l.cap≤maxLen∧l.cap*n≤arr.size∧ ∀ i r,raws[i]?=some r→Fw.cut n arr.toList i=r.val)
def CloneC (P:Program) (f:FuncId) (n:Nat):Prop:= ∀ (w:World) (A:Option Addr) (len cap:Nat) (raws:List (Raw n)),raws.length=len→Src w (.slice A len cap) len (rawCells raws)→len≤1099511627776→Calls P f #[.slice A len cap] w fun e w'=> ∃ l,e= .returned (.slice l.A len l.cap)∧ClonedR raws w w' l
theorem raw_row {n:Nat} (hn:0<n) {w w':World} {v:Value} {raws:List (Raw n)} {F:List Nat} (h:@SlO (Raw n) (rawDat n hn) w' v raws F) (hb:Below w.heap.size w w') (hF: ∀ b∈F,w.heap.size≤b): ∃ l:Loc,v= .slice l.A raws.length l.cap∧ClonedR raws w w' l:=by
 rcases(@SlO_iff (Raw n) (rawDat n hn) w' raws v F).1 h with ⟨rfl,rfl,rfl⟩ | ⟨g,cap,arr,T,Fs,rfl,h1,h2,h3,h4,h5,h6,h7⟩
 ·exact⟨⟨none,0,[]⟩,rfl,hb,.inl ⟨rfl,rfl,rfl,rfl⟩⟩
 ·refine⟨⟨some ⟨g,0,none⟩,cap,[g]⟩,rfl,hb,.inr ⟨g,arr,T,rfl,rfl,hF g (by rw[h5];exact List.mem_cons_self),h1,h2,h3,h4,fun i r hi=>?_⟩⟩
  obtain⟨G,_,⟨ho,_⟩,_⟩:=h7 i r hi
  exact ho
section
variable {c:Cx} {σ:St} {all:Array Oper} {ty:TypeId} {pos:String} {after:Array Edge} {d:Nat}
end
end Go.Proofs.YtapfpflmcgfbkaaGreatDoor.Fw

namespace Go.Proofs.YtapfpflmcgfbkaaGreatDoor.Ri
open Go.Proofs.YtapfpflmcgfbkaaGreatDoor.Fw
open Go.RowKit
set_option linter.unusedVariables false
set_option linter.unusedSimpArgs false
structure Eff (τ:Tab) where
 frz:List Nat
 del:List Nat
 set:List (Nat×Ex τ)
 put:Option (Vx τ)
section
variable {τ:Tab}
def frz1 (r:Nat) (E:List (Nat×Ex τ)):List (Nat×Ex τ):=match lkA E r with
 | some (.own e xs)=>insA r (.ro e xs) E
 | _=>E
def frzE:List Nat→List (Nat×Ex τ)→List (Nat×Ex τ)
 | [],E=>E
 | r::rs,E=>frzE rs (frz1 r E)
def delE:List Nat→List (Nat×Ex τ)→List (Nat×Ex τ)
 | [],E=>E
 | r::rs,E=>delE rs (delA r E)
def setE:List (Nat×Ex τ)→List (Nat×Ex τ)→List (Nat×Ex τ)
 | [],E=>E
 | (r,e)::rs,E=>setE rs (insA r e E)
def Eff.app (f:Eff τ) (E:List (Nat×Ex τ)):List (Nat×Ex τ):=setE f.set (delE f.del (frzE f.frz E))
def cl1 (El:Nat→Option (Ex τ)):Vx τ→Option (Cl τ)
 | .v (.int k i)=>some (.v (.int k i))
 | .v (.bool b)=>some (.v (.bool b))
 | .v (.string s)=>some (.v (.string s))
 | .v (.slice A n m)=>some (.v (.slice A n m))
 | .ro e xs=>some (.sl e xs)
 | .sl r => match El r with
  | some (.own e xs)=>some (.sl e xs)
  | some (.ro e xs)=>some (.sl e xs)
  | _=>none
 | _=>none
def cls (El:Nat→Option (Ex τ)):List (Vx τ)→Option (List (Cl τ))
 | []=>some []
 | v :: r => match cl1 El v, cls El r with
  | some c,some cs=>some (c::cs)
  | _,_=>none
def nms:List (Vx τ)→List Nat
 | []=>[]
 | .sl r::vs=>r::nms vs
 | _::vs=>nms vs
end
section
variable {τ:Tab} {B:Bx} {θ:Nat→Lo} {S:Nat→Prop} {σ:Sx τ} {a:Act} {w w':World} {p:Nat→Prop}
theorem lkA_frz1 (r:Nat) (E:List (Nat×Ex τ)) (x:Nat):lkA (frz1 r E) x=(match lkA E x with
    | some (.own e xs)=>if x=r then some (.ro e xs) else some (.own e xs)
    | o=>o):=by
  unfold frz1
  cases hr:lkA E r with
  | none =>
    simp only
    cases hx:lkA E x with
    | none=>rfl
    | some e => cases e with
      | own e xs=>simp only;rw[if_neg (fun h=>by subst h;rw[hx] at hr;cases hr)]
      | _=>rfl
  | some e => cases e with
    | own e xs =>
      simp only
      rw[lkA_ins]
      by_cases hxr:x=r
      · subst hxr;simp[hr]
      · rw [if_neg hxr]
        cases hx:lkA E x with
        | none=>rfl
        | some e' => cases e' with
          | own=>simp[hxr]
          | _=>rfl
    | var cs t =>
      simp only
      cases hx:lkA E x with
      | none=>rfl
      | some e' => cases e' with
        | own=>simp only;rw[if_neg (fun h=>by subst h;rw[hx] at hr;cases hr)]
        | _=>rfl
    | ro e xs =>
      simp only
      cases hx:lkA E x with
      | none=>rfl
      | some e' => cases e' with
        | own=>simp only;rw[if_neg (fun h=>by subst h;rw[hx] at hr;cases hr)]
        | _=>rfl
theorem lkA_frzE_ro: ∀ (rs:List Nat) {E:List (Nat×Ex τ)} {x e:Nat} {xs:List (τ.T e)},lkA E x=some (.ro e xs)→lkA (frzE rs E) x=some (.ro e xs)
 | [],_,_,_,_,h=>h
 | r::rs,E,x,e,xs,h=>lkA_frzE_ro rs (by rw[lkA_frz1,h])
theorem lkA_frzE_own: ∀ (rs:List Nat) {E:List (Nat×Ex τ)} {x e:Nat} {xs:List (τ.T e)},lkA E x=some (.own e xs)→x∈rs→lkA (frzE rs E) x=some (.ro e xs)
 | [],_,_,_,_,_,hx=>by cases hx
 | r :: rs, E, x, e, xs, h, hx => by
  by_cases hr:x=r
  ·exact lkA_frzE_ro rs (by rw[lkA_frz1,h];simp[hr])
  ·refine lkA_frzE_own rs (by rw[lkA_frz1,h];simp[hr]) ?_
   rcases List.mem_cons.1 hx with h' | h'
   ·exact absurd h' hr
   ·exact h'
theorem lkA_frzE_var: ∀ (rs:List Nat) {E:List (Nat×Ex τ)} {x:Nat} {cs:List (Vx τ)} {t:TypeId},lkA E x=some (.var cs t)→lkA (frzE rs E) x=some (.var cs t)
 | [],_,_,_,_,h=>h
 | r::rs,E,x,cs,t,h=>lkA_frzE_var rs (by rw[lkA_frz1,h])
theorem lkA_frzE: ∀ (rs:List Nat) {E:List (Nat×Ex τ)} {x:Nat} {e':Ex τ},lkA (frzE rs E) x=some e'→lkA E x=some e' ∨ ∃ e xs,e'= .ro e xs∧lkA E x=some (.own e xs)
 | [],_,_,_,h=> .inl h
 | r :: rs, E, x, e', h => by
  rcases lkA_frzE rs h with h1 | ⟨e,xs,he,h1⟩
  ·rw[lkA_frz1] at h1
   split at h1
   ·rename_i e xs hE
    split at h1
    ·cases h1;exact .inr ⟨e,xs,rfl,hE⟩
    ·cases h1;exact .inl hE
   ·exact .inl h1
  ·rw[lkA_frz1] at h1
   split at h1
   ·rename_i e2 xs2 hE
    split at h1
    ·cases h1
    ·cases h1;exact .inr ⟨e,xs,he,hE⟩
   ·exact .inr ⟨e,xs,he,h1⟩
theorem RxC.frz1 (h:RxC B θ S σ a w) (r:Nat): ∃ S',(∀ b,S b→S' b)∧RxC B θ S' ⟨σ.n,σ.ρ,Ri.frz1 r σ.E⟩ a w:=by
 unfold Ri.frz1
 split
 ·rename_i e xs hr;exact h.frz hr
 ·exact⟨S,fun _ h=>h,h⟩
theorem RxC.frzs (h:RxC B θ S σ a w): ∀ (rs:List Nat) {E:List (Nat×Ex τ)},(∃ S1,(∀ b,S b→S1 b)∧RxC B θ S1 ⟨σ.n,σ.ρ,E⟩ a w)→ ∃ S',(∀ b,S b→S' b)∧RxC B θ S' ⟨σ.n,σ.ρ,frzE rs E⟩ a w
 | [],_,h'=>h'
 | r :: rs, E, ⟨S1, h1, h2⟩ => by
  obtain⟨S2,h3,h4⟩:=h2.frz1 r
  exact RxC.frzs h rs ⟨S2,fun b hb=>h3 b (h1 b hb),h4⟩
theorem Nm.frz (h : Nm p σ) (rs : List Nat) : Nm p ⟨σ.n, σ.ρ, frzE rs σ.E⟩ := ⟨h.slot, fun r e hr => by
 rcases lkA_frzE rs hr with h1 | ⟨e',xs,rfl,h1⟩
 ·exact h.ent r e h1
 ·exact⟨(h.ent r _ h1).1,trivial⟩⟩
theorem SlR.nil {α:Type} [Dat α] {A:Option Addr} {n m:Nat}:n=0→m=0→SlR S w (.slice A n m) ([]:List α):=by
 rintro rfl rfl
 exact⟨A,0,rfl,Nat.le_refl _,Nat.zero_le _,fun h=>absurd rfl h⟩
theorem cl1_rd {E:List (Nat×Ex τ)} {rs:List Nat} (h: ∀ r e,lkA (frzE rs E) r=some e→ExOk θ S w r e) {v:Vx τ} {c:Cl τ} {u:Value} (hc:cl1 (lkA E) v=some c) (hn: ∀ r,v= .sl r→r∈rs) (hr:Rep θ S w v u):c.rd S w u:=by
 cases v with
 | v x =>
  obtain⟨rfl,hg⟩:=hr
  cases u<;>simp only[cl1] at hc<;>cases hc<;>exact⟨rfl,hg,rfl⟩
 | ro e xs=>cases hc;exact hr
 | sl r =>
  have hu:u=_:=hr
  simp only[cl1] at hc
  split at hc
  ·rename_i e xs he
   cases hc
   have:=h r _ (lkA_frzE_own rs he (hn r rfl))
   show SlR S w u xs
   rw[hu];exact this
  ·rename_i e xs he
   cases hc
   have:=h r _ (lkA_frzE_ro rs he)
   show SlR S w u xs
   rw[hu];exact this
  ·cases hc
 | _=>cases hc
theorem cls_rd {E:List (Nat×Ex τ)} {rs:List Nat} (h: ∀ r e,lkA (frzE rs E) r=some e→ExOk θ S w r e): ∀ {vs:List (Vx τ)} {cs:List (Cl τ)} {us:List Value},cls (lkA E) vs=some cs→(∀ r,r∈nms vs→r∈rs)→RepL θ S w vs us→RdC S w us cs
 | [],cs,us,hc,_,hr=>by cases hc;exact hr
 | v :: vs, cs, us, hc, hn, ⟨u, r, h1, h2, h3⟩ => by
  simp only[cls] at hc
  split at hc
  ·rename_i c cs' hc1 hc2
   cases hc
   refine⟨u,r,h1,cl1_rd h hc1 (fun r hv=>?_) h2,cls_rd h hc2 (fun r hr=>hn r ?_) h3⟩
   ·subst hv;exact hn r (by simp[nms])
   ·cases v<;>simp[nms,hr]
  ·cases hc
theorem RdC.one: ∀ {cs:List (Cl τ)} {us:List Value},RdC S w us cs→ ∀ u∈us,u.oneCell'=true
 | [],us,h=>by cases h;intro u hu;cases hu
 | c :: _, _, ⟨u, r, h1, h2, h3⟩ => by
  intro x hx
  rw[h1] at hx
  rcases List.mem_cons.1 hx with rfl | hx
  ·cases c with
   | v y=>exact h2.1▸h2.2.2
   | sl e xs=>obtain⟨A,cap,rfl,_⟩:=h2;rfl
  ·exact RdC.one h3 x hx
theorem Vx.cells_all {v:Vx τ} {cs:List (Vx τ)} (h:v.cells=some cs) (ha:v.all p):allL p cs:=by
 cases v with
 | ag l=>cases h;exact ha
 | v x=>cases x<;>simp only[Vx.cells] at h<;>cases h<;>exact⟨trivial,trivial⟩
 | ro e xs=>cases h;exact⟨trivial,trivial⟩
 | sl r=>cases h;exact⟨ha,trivial⟩
 | pt r o=>cases h;exact⟨ha,trivial⟩
 | pw r e k o=>cases h;exact⟨ha,trivial⟩
 | pe e x o=>cases h;exact⟨trivial,trivial⟩
 | _=>cases h
theorem zcx_all: ∀ {l:List Value} {cs:List (Vx τ)},zcx l=some cs→allL p cs
 | [],cs,h=>by cases h;trivial
 | x :: r, cs, h => by
  simp only[zcx] at h
  cases hb:goodB x with
  | false=>rw[hb] at h;cases h
  | true =>
   rw[hb] at h
   simp only[cond_true] at h
   split at h
   ·rename_i l' h';cases h;exact⟨trivial,zcx_all h'⟩
   ·cases h
theorem evx_all (hn:Nm p σ) {l:Nat→Option (Sl τ)} (hl:Sees l σ.ρ) {G:List (Nat×Bool)} {x:Operand} {v:Vx τ} (hx:evx l G x=some v):v.all p:=by
 cases x with
 | tmp t =>
  simp only[evx] at hx
  cases hs:l t with
  | none=>rw[hs] at hx;cases hx
  | some s =>
   rw[hs] at hx
   have h1:=hn.slot t s (hl t s hs)
   cases s with
   | ok v'=>cases hx;exact h1
   | gd j b v' =>
    simp only[slO,slv] at hx
    cases hm:memG j b G with
    | false=>rw[hm] at hx;cases hx
    | true=>rw[hm] at hx;cases hx;exact h1
 | const c=>simp only[evx] at hx;cases hb:goodB c<;>rw[hb] at hx<;>cases hx;trivial
 | global g=>cases hx;trivial
 | func f=>cases hx;trivial
theorem RxC.app (h:RxC B θ S σ a w) (hn:Nm p σ) {r:Nat} {e0:Ex τ} (hr:lkA σ.E r=some e0) (hm:e0.mut=true)
  (hos:w'.os=w.os) (htape:w'.tape=w.tape) (hout:w'.output=w.output) (hsize:w.heap.size≤w'.heap.size) (hsame: ∀ x,x<w.heap.size→(∀ b,(θ r).A=some b→x≠b.block)→w'.heap[x]?=w.heap[x]?)
  {r':Nat} (hr': ¬ p r') {l:Lo} {e:Ex τ} (hl: ∀ b,l.A=some b→w.heap.size≤b.block ∨ ∃ b0,(θ r).A=some b0∧b.block=b0.block) (ho:Keep S w w'→ExOk (Ri.upd θ r' l) S w' r' e):
  RxC B (Ri.upd θ r' l) S ⟨σ.n,σ.ρ,insA r' e (delA r σ.E)⟩ a w':=by
 have hp: ∀ x,p x→Ri.upd θ r' l x=θ x:=fun x hx=>upd_ne fun e=>hr' (e▸hx)
 have hblk: ∀ b,(θ r).A=some b→ ¬ S b.block∧b.block<w.heap.size∧ ¬ B.K b.block:=fun b hb=>⟨((h.ent r e0 hr).blk hm hb).1,((h.ent r e0 hr).blk hm hb).2.1,h.off r e0 b hr hm hb⟩
 have hkS:Keep S w w':=⟨hos,htape,hout,hsize,fun x hx=>hsame x (h.dom x hx) fun b hb e=>(hblk b hb).1 (e▸hx)⟩
 have hBl: ∀ b,B.K b→b<w.heap.size:=fun b hb=>Nat.lt_of_lt_of_le (B.dom b hb) h.keep.size
 have hkB:Keep B.K w w':=⟨hos,htape,hout,hsize,fun x hx=>hsame x (hBl x hx) fun b hb e=>(hblk b hb).2.2 (e▸hx)⟩
 refine h.upd hn hp (fun _ h=>h) (fun _ h=> .inl h) hkS hkB (fun b hb=>Nat.lt_of_lt_of_le (h.dom b hb) hsize) ?_ (fun x e' hx=>?_) ?_
 ·intro x e' b hx hm' hb
  rw[lkA_ins,lkA_del] at hx
  split at hx
  ·rename_i ex;subst ex
   rw[upd_at] at hb
   rcases hl b hb with h1 | ⟨b0,h1,h2⟩
   ·intro hK;have:=hBl _ hK;omega
   ·rw[h2];exact(hblk b0 h1).2.2
  ·split at hx
   ·cases hx
   ·rw[hp x (hn.ent x e' hx).1] at hb
    exact h.off x e' b hx hm' hb
 ·rw[lkA_ins,lkA_del] at hx
  split at hx
  ·rename_i ex;subst ex;cases hx;exact ho hkS
  ·split at hx
   ·cases hx
   ·rename_i ex
    refine(h.ent x e' hx).keep hp (hn.ent x e' hx).1 (hn.ent x e' hx).2 (fun _ h=>h) hkS fun hm' b hb=>?_
    have h2:=(h.ent x e' hx).blk hm' hb
    exact⟨hsame _ h2.2.1 fun b0 hb0 eb=>ex (h.inj x r e' e0 b b0 hx hr hm' hm hb hb0 eb),h2.1⟩
 ·intro x x' e1 e2 b b' h1 h2 m1 m2 hb hb' hbb
  rw[lkA_ins,lkA_del] at h1 h2
  split at h1<;>split at h2
  ·rename_i q1 q2;rw[q1,q2]
  ·rename_i q1 q2
   subst q1
   split at h2
   ·cases h2
   ·rename_i q3
    rw[upd_at] at hb
    rw[hp x' (hn.ent x' e2 h2).1] at hb'
    have h4:=((h.ent x' e2 h2).blk m2 hb').2.1
    rcases hl b hb with h5 | ⟨b0,h5,h6⟩
    ·omega
    ·exact absurd (h.inj x' r e2 e0 b' b0 h2 hr m2 hm hb' h5 (by omega)) q3
  ·rename_i q1 q2
   subst q2
   split at h1
   ·cases h1
   ·rename_i q3
    rw[upd_at] at hb'
    rw[hp x (hn.ent x e1 h1).1] at hb
    have h4:=((h.ent x e1 h1).blk m1 hb).2.1
    rcases hl b' hb' with h5 | ⟨b0,h5,h6⟩
    ·omega
    ·exact absurd (h.inj x r e1 e0 b b0 h1 hr m1 hm hb h5 (by omega)) q3
  ·split at h1
   ·cases h1
   ·split at h2
    ·cases h2
    ·rw[hp x (hn.ent x e1 h1).1] at hb
     rw[hp x' (hn.ent x' e2 h2).1] at hb'
     exact h.inj x x' e1 e2 b b' h1 h2 m1 m2 hb hb' hbb
end
end Go.Proofs.YtapfpflmcgfbkaaGreatDoor.Ri

namespace Go.Proofs.YtapfpflmcgfbkaaGreatDoor.Ri
open Go.Proofs.YtapfpflmcgfbkaaGreatDoor.Fw
open Go.RowKit
set_option linter.unusedVariables false
set_option linter.unusedSimpArgs false
def castL {τ:Tab} (e e':Nat) (xs:List (τ.T e)):Option (List (τ.T e')):=if h:e=e' then some (h▸xs) else none
theorem castL_ok {τ:Tab} {e e':Nat} {xs:List (τ.T e)} {ys:List (τ.T e')} (h:castL e e' xs=some ys):e=e'∧HEq xs ys:=by
 unfold castL at h
 split at h
 ·rename_i he;subst he;cases h;exact⟨rfl,HEq.rfl⟩
 ·cases h
section
variable {τ:Tab} (O:Opn τ) (ti:Nat→TI) (zr:Zr) (l:Nat→Option (Sl τ)) (El:Nat→Option (Ex τ)) (G:List (Nat×Bool)) (b:Nat) (oc:Bool)
def litX (e sz:Nat):Nat→List (Nat×Operand)→Option (List (τ.T e)×List Nat)
  | _,[]=>some ([],[])
  | k, (i, x) :: r => bif Nat.beq i k then (match evx l G x with
    | some v => (match v.cells with
      | some ds => bif Nat.beq ds.length sz then (match cls El ds with
        | some cs => (match O.mk e cs, litX e sz (k + 1) r with
          | some y,some q=>some (y::q.1,nms ds++q.2)
          | _,_=>none)
        | none=>none) else none
      | none=>none)
    | none=>none) else none
def bsX (len:Nat) (parts:List (Nat×Operand)):TI→Option (Bool×Eff τ)
  | .sl e sz _ => bif Nat.beq sz (Dat.sz (τ.T e)) && (Nat.beq parts.length len && Nat.ble (len * sz) 16777216) then (match zr e, litX O l El G e sz 0 parts with
    | some z,some q=>bif Nat.beq z.cells.size sz then some (true,⟨q.2,[],[(b,.own e q.1)],some (.sl b)⟩) else none
    | _,_=>none) else none
  | _=>none
def boxX (T:TypeId):Option (Vx τ)→Option (Bool×Eff τ)
 | some v => match v.cells with
  | some cs=>some (true,⟨[],[],[(b,.var cs T)],some (.pt b 0)⟩)
  | none=>none
 | none=>none
def boxR (T:TypeId):Option (Vx τ)→Option (Bool×Eff τ)
 | some v => match v.cells with
  | some vs => match cls El vs with
   | some cs => match O.mk T cs with
    | some y=>some (true,⟨nms vs,[],[],some (.pe T y 0)⟩)
    | none=>none
   | none=>none
  | none=>none
 | none=>none
def mcX (f:FuncId):Option (List (Vx τ))→Option (Bool×Eff τ)
 | some [.pt r 0] => match El r with
  | some (.var vs T) => match cls El vs with
   | some cs => match O.mk T cs with
    | some y=>some (true,⟨nms vs,[r],[],some (.fn f [.pe T y 0])⟩)
    | none=>none
   | none=>none
  | _=>none
 | _=>none
def alX (T:TypeId):Option Value→Option (Bool×Eff τ)
 | some z => match zcx (τ := τ) z.cells.toList with
  | some cs=>some (true,⟨[],[],[(b,.var cs T)],some (.pt b 0)⟩)
  | none=>none
 | none=>none
def memN:Nat→List Nat→Bool
 | _,[]=>false
 | x,y::r=>bif Nat.beq x y then true else memN x r
def splC (cs ds:List (Cl τ)) (off n:Nat):List (Cl τ):=cs.take off++ds++cs.drop (off+n)
def stX (i:TI):Option (Vx τ)→Option (Vx τ)→Option (Bool×Eff τ)
 | some (.pt r off), some v => match El r, v.cells, i.cells with
  | some (.var cs T),some ds,some n=>bif Nat.beq ds.length n&&(Nat.ble (off+n) cs.length&&oneLx ds) then some (true,⟨[],[],[(r,.var (spl cs ds off n) T)],none⟩) else none
  | _,_,_=>none
 | some (.pw r e k off), some v => match El r, v.cells, i.cells with
  | some (.own e' xs), some ds, some n => match cls El ds with
   | some dc => bif Nat.beq e e' && (Nat.beq ds.length n && (Nat.ble (off + n) (Dat.sz (τ.T e')) && !(memN r (nms ds)))) then (match O.mk e' (splC (O.fld e' (nth xs k)) dc off n) with
    | some y=>some (true,⟨nms ds,[],[(r,.own e' (xs.set k y))],none⟩)
    | none=>none) else none
   | none=>none
  | _,_,_=>none
 | _,_=>none
def mkX (x y:Option (Vx τ)):TI→Option (Bool×Eff τ)
 | .sl e sz by' => match x, y, zr e with
  | some (.v (.int .i64 i)), some (.v (.int .i64 j)), some z => match zcx (τ := τ) z.cells.toList with
   | some zs => match cls El zs with
    | some cs => match O.mk e cs with
     | some z0=>bif Nat.beq sz (Dat.sz (τ.T e))&&Nat.beq z.cells.size sz then some (decide (i=j)&&(decide (0≤i)&&decide ((by':Int)*i≤281474976710656)),⟨[],[],[(b,.own e (List.replicate i.toNat z0))],some (.sl b)⟩) else none
     | none=>none
    | none=>none
   | none=>none
  | _,_,_=>none
 | _=>none
def rowX (e:Nat):Option (Vx τ)→Option (List (τ.T e))
 | some (.v (.slice none n m))=>bif Nat.ble n 0&&Nat.ble m 0 then some [] else none
 | some (.ro e' xs)=>castL e' e xs
 | some (.sl r) => match El r with
  | some (.own e' xs)=>castL e' e xs
  | some (.ro e' xs)=>castL e' e xs
  | _=>none
 | _=>none
def apX (x y:Option (Vx τ)):TI→Option (Bool×Eff τ)
  | .sl e sz by' => match rowX El e y, zr e with
    | some ys, some z => bif Nat.beq sz (Dat.sz (τ.T e)) && Nat.beq z.cells.size sz then (match x with
      | some (.sl r) => match El r with
        | some (.own e' xs') => match castL e' e xs' with
          | some xs=>some (decide ((xs.length+ys.length)*by'≤140737488355328)&&decide (xs.length+ys.length≤maxLen),⟨[],[r],[(b,.own e (xs++ys))],some (.sl b)⟩)
          | none=>none
        | _=>none
      | some (.v (.slice none n m))=>bif Nat.ble n 0&&Nat.ble m 0 then some (decide (ys.length*by'≤140737488355328)&&decide (ys.length≤maxLen),⟨[],[],[(b,.own e ys)],some (.sl b)⟩) else none
      | _=>none) else none
    | _,_=>none
  | _=>none
def apS (x y:Option (Vx τ)):TI→TI→Option (Bool×Eff τ)
  | .sl e sz by', .str => match y, zr e with
    | some (.v (.string s)), some z => bif O.byt e && (Nat.beq sz 1 && Nat.beq z.cells.size sz) then (match x with
      | some (.sl r) => match El r with
        | some (.own e' xs') => match castL e' e xs' with
          | some xs=>some (decide ((xs.length+s.size)*by'≤140737488355328)&&decide (xs.length+s.size≤maxLen),⟨[],[r],[(b,.own e (xs++(sbytes s).map (O.ofB e)))],some (.sl b)⟩)
          | none=>none
        | _=>none
      | _=>none) else none
    | _,_=>none
  | _,_=>none
def ocX (t:TI) (r:Nat) (lo hi:Option Operand):Option (Bool×Eff τ):=
 match t,El r with
 | .sl _ sz _, some (.own e xs) => bif Nat.beq sz (Dat.sz (τ.T e)) then (match bndX l G 0 lo, bndX l G (xs.length : Int) hi with
  | some i, some j => bif oc && lo.isNone then some (decide (0 ≤ j) && decide (j ≤ (xs.length : Int)), ⟨[], [r], [(b, .own e (xs.take j.toNat))], some (.sl b)⟩)
   else bif oc&&hi.isNone then some (decide (0≤i)&&decide (i≤(xs.length:Int)),⟨[],[],[],some (.tl r e i.toNat)⟩)
   else some (decide (0≤i)&&(decide (i≤j)&&decide (j≤(xs.length:Int))),⟨[r],[],[],some (.ro e (cutL xs i.toNat j.toNat))⟩)
  | _,_=>none) else none
 | _,_=>none
def clX (x:Option (Vx τ)):TI→Option (Bool×Eff τ)
 | .sl e sz _ => match x, zr e with
  | some (.tl r e' k), some z => match El r with
   | some (.own e2 xs) => match zcx (τ := τ) z.cells.toList with
    | some zs => match cls El zs with
     | some cs => match O.mk e2 cs with
      | some z0=>bif Nat.beq e2 e'&&(Nat.beq sz (Dat.sz (τ.T e2))&&Nat.beq z.cells.size sz) then some (true,⟨[],[],[(r,.own e2 (cutL xs 0 k++List.replicate (xs.length - k) z0))],some (.tu [])⟩) else none
      | none=>none
     | none=>none
    | none=>none
   | _=>none
  | _,_=>none
 | _=>none
def cbX (x:Option (Vx τ)):TI→TI→Option (Bool×Eff τ)
 | .str, .sl e sz _ => match x, ti e with
  | some (.v (.string s)),.int .u8=>bif O.byt e&&Nat.beq sz 1 then some (true,⟨[],[],[(b,.own e ((sbytes s).map (O.ofB e)))],some (.sl b)⟩) else none
  | _,_=>none
 | _,_=>none
def effX:Op→Option (Bool×Eff τ)
 | .convert t u x=>cbX O ti b (evx l G x) (ti t) (ti u)
 | .box T x=>bif oc then boxR O El T (evx l G x) else boxX b T (evx l G x)
 | .alloc T=>alX b T (zr T)
 | .makeFunc (.func f) first xs=>bif Nat.beq first.size 0 then mcX O El f (evsx l G xs.toList) else none
 | .store t x y=>stX O El (ti t) (evx l G x) (evx l G y)
 | .buildSlice t len parts=>bsX O zr l El G b len parts.toList (ti t)
 | .makeSlice t x y=>mkX O zr El b (evx l G x) (evx l G y) (ti t)
 | .slice t x lo hi none => match evx l G x with
  | some (.sl r)=>ocX l El G b oc (ti t) r lo hi
  | _=>none
 | .call c => match c.callee, c.args.toList, c.argTypes.toList with
  | .builtin .clear,[x],[t]=>clX O zr El (evx l G x) (ti t)
  | .builtin .append,[x,y],[t,t']=>bif Nat.beq t t' then apX zr El b (evx l G x) (evx l G y) (ti t) else apS O zr El b (evx l G x) (evx l G y) (ti t) (ti t')
  | _,_,_=>none
 | _=>none
end
def Runs (P:Program) (a:Act) (w:World) (op:Op) (ty:TypeId) (o:Option Value) (w':World):Prop:=
 ∀ dst pos after g,(execOp a.eval ⟨dst,op,ty,pos,after,g⟩).run P w= .ok (match o with | some u=> .value u | none=> .skip) w'
def PutOk {τ:Tab} (θ:Nat→Lo) (S:Nat→Prop) (w:World):Option (Vx τ)→Option Value→Prop
 | some v,some u=>Rep θ S w v u
 | none,none=>True
 | _,_=>False
def Does {τ:Tab} (P:Program) (B:Bx) (ef:Eff τ) (σ:Sx τ) (a:Act) (w:World) (op:Op) (ty:TypeId):Prop:=
 ∃ o w' θ' S',Runs P a w op ty o w'∧RxC B θ' S' ⟨σ.n,σ.ρ,ef.app σ.E⟩ a w'∧PutOk θ' S' w' ef.put o
section
variable {τ:Tab} {O:Opn τ} {P:Program} {ti:Nat→TI} {zr:Zr} {B:Bx} {θ:Nat→Lo} {S:Nat→Prop} {σ:Sx τ} {a:Act} {w w':World} {l:Nat→Option (Sl τ)} {El:Nat→Option (Ex τ)} {G:List (Nat×Bool)} {p:Nat→Prop} {b:Nat} {c:Bool} {ef:Eff τ} {ty:TypeId}
theorem cls_sees {E:List (Nat×Ex τ)} (hE:Sees El E): ∀ {vs:List (Vx τ)} {cs:List (Cl τ)},cls El vs=some cs→cls (lkA E) vs=some cs
 | [],cs,h=>h
 | v :: vs, cs, h => by
  have one: ∀ {v:Vx τ} {c:Cl τ},cl1 El v=some c→cl1 (lkA E) v=some c:=by
   intro v c h
   cases v with
   | sl r =>
    simp only[cl1] at h ⊢
    split at h
    ·rename_i e xs he;rw[hE _ _ he];exact h
    ·rename_i e xs he;rw[hE _ _ he];exact h
    ·cases h
   | v x=>cases x<;>exact h
   | _=>exact h
  simp only[cls] at h ⊢
  split at h
  ·rename_i c cs' h1 h2
   rw[one h1,cls_sees hE h2]
   exact h
  ·cases h
theorem memN_false: ∀ {x:Nat} {l:List Nat},memN x l=false→x ∉ l
 | _,[],_,h=>by cases h
 | x, y :: r, h, hm => by
  simp only[memN] at h
  by_cases e:x=y
  ·subst e;rw[beq_t] at h;cases h
  ·rw[beq_f e] at h
   rcases List.mem_cons.1 hm with h' | h'
   ·exact e h'
   ·exact memN_false h h'
theorem new_var (h:RxC B θ S σ a w) (hn:Nm p σ) (hb: ¬ p b) {cs:List (Vx τ)} {us:List Value} (T:TypeId) (ha:allL p cs) (hr:RepL θ S w cs us):
  ∃ θ',RxC B θ' S ⟨σ.n,σ.ρ,insA b (.var cs T) σ.E⟩ a (w.alloc (.cells us.toArray T))∧Rep θ' S (w.alloc (.cells us.toArray T)) (τ:=τ) (.pt b 0) (.pointer (some ((⟨w.heap.size,0,none⟩:Addr).add 0))):=by
 have hk:Keep (Old w) w (w.alloc (.cells us.toArray T)):=⟨rfl,rfl,rfl,by simp,fun b hb=>heap_alloc_old w _ hb⟩
 have hkS:Keep S w (w.alloc (.cells us.toArray T)):=hk.mono h.dom
 refine⟨Ri.upd θ b ⟨some ⟨w.heap.size,0,none⟩,0,0⟩,h.new hn hk hb (fun b hb=>by cases hb;exact Nat.le_refl _) ⟨w.heap.size,us,by rw[upd_at],?_,heap_alloc_new w _,fun hS=>?_⟩,⟨w.heap.size,by rw[upd_at],rfl⟩⟩
 ·exact RepL.ext (p:=p) (show ∀ x,p x→Ri.upd θ b ⟨some ⟨w.heap.size,0,none⟩,0,0⟩ x=θ x from fun x hx=>upd_ne fun e=>hb (e▸hx)) ha (RepL.mono (fun _ h=>h) hkS hr)
 ·have:=h.dom _ hS;omega
theorem box_ok (h:RxC B θ S σ a w) (hn:Nm p σ) (hb: ¬ p b) (hl:Sees l σ.ρ) (hG:Gs G a) {T:TypeId} {x:Operand} (he:boxX b T (evx l G x)=some (c,ef)):Does P B ef σ a w (.box T x) ty:=by
 unfold boxX at he
 split at he
 ·rename_i v hv
  split at he
  ·rename_i cs hcs
   cases he
   obtain⟨us,hr,hu⟩:=Vx.cells_ok hcs (h.ev hl hG hv).1
   obtain⟨θ',h1,h2⟩:=new_var h hn hb T (Vx.cells_all hcs (evx_all hn hl hv)) hr
   refine⟨some _,_,θ',S,?_,h1,h2⟩
   intro _ _ _ _
   simp[execOp,Instr.box,newVar,newRow,hu,Addr.add]
  ·cases he
 ·cases he
theorem RxC.more (h:RxC B θ S σ a w) {o:Obj}:RxC B θ (fun b=>S b∨b=w.heap.size) σ a (w.alloc o):=by
 have hk:Keep (Old w) w (w.alloc o):=⟨rfl,rfl,rfl,by simp,fun b hb=>heap_alloc_old w _ hb⟩
 have hkS:Keep S w (w.alloc o):=hk.mono h.dom
 have hBl: ∀ b,B.K b→b<w.heap.size:=fun b hb=>Nat.lt_of_lt_of_le (B.dom b hb) h.keep.size
 refine h.upd (p:=fun _=>True) ⟨fun t s _=>RxC.grow.allOne _,fun r e _=>⟨trivial,?_⟩⟩ (fun _ _=>rfl) (fun b hb=> .inl hb) (fun b hb=>?_) hkS (hk.mono hBl) (fun b hb=>?_) h.off (fun r e hr=>?_) h.inj
 ·cases e with
  | var cs t=>exact RxC.grow.allAll cs
  | own=>trivial
  | ro=>trivial
 ·rcases hb with hb | hb
  ·exact .inl hb
  ·exact .inr fun hK=>by have:=hBl _ hK;omega
 ·rcases hb with hb | hb
  ·have:=h.dom b hb;simp;omega
  ·simp;omega
 ·refine (h.ent r e hr).keep (p := fun _ => True) (fun _ _ => rfl) trivial ?_ (fun b hb => .inl hb) hkS fun hm b hb => ?_
  ·cases e with
   | var cs t=>exact RxC.grow.allAll cs
   | own=>trivial
   | ro=>trivial
  ·have:=(h.ent r e hr).blk hm hb
   refine⟨hk.block _ this.2.1,fun hx=>?_⟩
   rcases hx with hx | hx
   ·exact this.1 hx
   ·omega
theorem boxR_ok (h:RxC B θ S σ a w) (hl:Sees l σ.ρ) (hEl:Sees El σ.E) (hG:Gs G a) {T:TypeId} {x:Operand} (he:boxR O El T (evx l G x)=some (c,ef)):Does P B ef σ a w (.box T x) ty:=by
 unfold boxR at he
 split at he
 ·rename_i v hv
  split at he
  ·rename_i vs hvs
   split at he
   ·rename_i cs hcs
    split at he
    ·rename_i y hy
     cases he
     obtain⟨us,hr,hu⟩:=Vx.cells_ok hvs (h.ev hl hG hv).1
     obtain⟨S1,hS1,h1⟩:=h.frzs (nms vs) (E:=σ.E) ⟨S,fun _ h=>h,h⟩
     have hdr:RdC S1 w us cs:=cls_rd (θ:=θ) (rs:=nms vs) h1.ent (cls_sees hEl hcs) (fun _ h=>h) (RepL.mono hS1 (Keep.refl _ _) hr)
     have hrd:=O.cl _ _ _ hy hdr
     have hk:Keep (Old w) w (w.alloc (.cells us.toArray T)):=⟨rfl,rfl,rfl,by simp,fun b hb=>heap_alloc_old w _ hb⟩
     refine⟨some (.pointer (some ⟨w.heap.size,0,none⟩)),_,θ,_,?_,h1.more (o:= .cells us.toArray T),?_⟩
     ·intro _ _ _ _
      simp[execOp,Instr.box,newVar,newRow,hu]
     ·refine⟨⟨w.heap.size,0,none⟩,us,by rw[Addr.add_zero'],CellsAt.row (heap_alloc_new w _),.inr rfl,Dat.rd_mono (fun b hb=> .inl hb) (Dat.rd_below (hk.mono h1.dom) hrd)⟩
    ·cases he
   ·cases he
  ·cases he
 ·cases he
theorem RxC.fvar (h:RxC B θ S σ a w) {r:Nat} {cs:List (Vx τ)} {t:TypeId} (hr:lkA σ.E r=some (.var cs t)):RxC B θ (fun b=>S b ∨ ∃ A,(θ r).A=some A∧b=A.block) ⟨σ.n,σ.ρ,delA r σ.E⟩ a w:=by
 have hmut:(Ex.var cs t:Ex τ).mut=true:=rfl
 refine h.upd (p:=fun _=>True) ⟨fun t s _=>RxC.grow.allOne _,fun r e _=>⟨trivial,?_⟩⟩ (fun _ _=>rfl) (fun b hb=> .inl hb) ?_ (Keep.refl _ _) (Keep.refl _ _) ?_ ?_ (fun x e' hx=>?_) ?_
 ·cases e with
  | var cs t=>exact RxC.grow.allAll cs
  | own=>trivial
  | ro=>trivial
 ·rintro b (hb | ⟨A,hA,rfl⟩)
  ·exact .inl hb
  ·exact .inr (h.off r _ A hr hmut hA)
 ·rintro b (hb | ⟨A,hA,rfl⟩)
  ·exact h.dom b hb
  ·exact((h.ent r _ hr).blk hmut hA).2.1
 ·intro x e' b' hx hm' hb'
  rw[lkA_del] at hx
  split at hx
  ·cases hx
  ·exact h.off x e' b' hx hm' hb'
 ·rw[lkA_del] at hx
  split at hx
  ·cases hx
  ·rename_i ex
   refine(h.ent x e' hx).keep (p:=fun _=>True) (fun _ _=>rfl) trivial ?_ (fun b hb=> .inl hb) (Keep.refl _ _) fun hm' b' hb'=>?_
   ·cases e' with
    | var cs t=>exact RxC.grow.allAll cs
    | own=>trivial
    | ro=>trivial
   ·have h2:=(h.ent x e' hx).blk hm' hb'
    refine⟨rfl,?_⟩
    rintro (hS | ⟨A,hA,hAb⟩)
    ·exact h2.1 hS
    ·exact ex (h.inj x r e' _ b' A hx hr hm' hmut hb' hA hAb)
 ·intro x x' e1 e2 b1 b2 h1 h2 m1 m2 hb1 hb2 hbb
  rw[lkA_del] at h1 h2
  split at h1
  ·cases h1
  ·split at h2
   ·cases h2
   ·exact h.inj x x' e1 e2 b1 b2 h1 h2 m1 m2 hb1 hb2 hbb
theorem mc_ok (h:RxC B θ S σ a w) (hl:Sees l σ.ρ) (hEl:Sees El σ.E) (hG:Gs G a) {f:FuncId} {xs:Array Operand} (he:mcX O El f (evsx l G xs.toList)=some (c,ef)):Does P B ef σ a w (.makeFunc (.func f) #[] xs) ty:=by
 unfold mcX at he
 split at he
 ·rename_i r hv
  split at he
  ·rename_i vs T hE
   split at he
   ·rename_i cs hcs
    split at he
    ·rename_i y hy
     cases he
     obtain⟨us,e1,e2,_⟩:=h.evs hl hG hv
     obtain⟨u,rr,rfl,⟨b0,hb0,hu⟩,hrr⟩:=e1
     obtain rfl:=hrr
     obtain⟨S1,hS1,h1⟩:=h.frzs (nms vs) (E:=σ.E) ⟨S,fun _ h=>h,h⟩
     have hr1:lkA (frzE (nms vs) σ.E) r=some (.var vs T):=lkA_frzE_var _ (hEl r _ hE)
     obtain⟨b1,us1,q1,q2,q3,q4⟩:=h1.ent r _ hr1
     rw[hb0] at q1
     obtain rfl:b0=b1:=by injection q1 with q1;injection q1
     have hdr:RdC S1 w us1 cs:=cls_rd (θ:=θ) (rs:=nms vs) h1.ent (cls_sees hEl hcs) (fun _ h=>h) q2
     have hrd:=O.cl _ _ _ hy hdr
     have h2:=h1.fvar hr1
     refine⟨some (.func (.func f) #[] #[u]),w,θ,_,?_,h2,⟨[u],rfl,?_⟩⟩
     ·intro _ _ _ _
      have hm:xs.map a.eval= #[u]:=by
       apply Array.ext'
       simpa using e2
      simp only[execOp,Instr.makeFunc,hm,Array.map_empty]
      simp
     ·refine⟨u,[],rfl,⟨⟨b0,0,none⟩,us1,hu,CellsAt.row q3,.inr ⟨⟨b0,0,none⟩,hb0,rfl⟩,Dat.rd_mono (fun b hb=> .inl hb) hrd⟩,rfl⟩
    ·cases he
   ·cases he
  ·cases he
 ·cases he
theorem alloc_ok (s:Sy P ti zr) (h:RxC B θ S σ a w) (hn:Nm p σ) (hb: ¬ p b) {T:TypeId} (he:alX b T (zr T)=some (c,ef)):Does P B ef σ a w (.alloc T) ty:=by
 unfold alX at he
 split at he
 ·rename_i z hz
  split at he
  ·rename_i cs hcs
   cases he
   obtain⟨θ',h1,h2⟩:=new_var h hn hb T (zcx_all hcs) (zcx_ok (θ:=θ) (S:=S) (w:=w) hcs)
   refine⟨some _,_,θ',S,?_,h1,h2⟩
   intro _ _ _ _
   simp[execOp,Instr.alloc,newVar,newRow,s.zok T z hz,Addr.add]
  ·cases he
 ·cases he
theorem run_store {t:TypeId} {x y:Operand} {b off:Nat} {arr:Array Value} {T:TypeId} {dl:List Value} {n:Nat} (hp:a.eval x= .pointer (some ((⟨b,0,none⟩:Addr).add off))) (hc:(a.eval y).cells=dl.toArray) {fz:Nat×Nat} (hrow:w.heap[b]?=some (.cells arr T fz)) (hfz:fz.2=0∨arr.size≤fz.1) (hsz:(sizeOf t).run P w= .ok n w) (hl:dl.length=n) (hle:off+n≤arr.size) (h1:dl.all Value.oneCell'=true):
  Runs P a w (.store t x y) ty none (w.setRow b (arr.toList.take off++dl++arr.toList.drop (off+n)).toArray):=by
 intro _ _ _ _
 have hst:=run_storeCells_mk P b off T fz dl 0 arr w hrow hfz (by omega) (List.all_eq_true.1 h1)
 have hs:(a.eval y).cells.size=n:=by rw[hc];simpa using hl
 simp only[execOp,hp,Instr.storeAt,Instr.sureAddr,storeVar,Sem.run_bind,Sem.run_pure,Result.andThen_ok,hsz,hs,ne_eq,not_true_eq_false,if_false,a0]
 rw[hc,show dl.toArray.toList=dl from rfl,hst]
 simp only[Nat.add_zero,hl,Result.andThen_ok]
theorem RdC.take {θ:Nat→Lo}: ∀ {cs:List (Cl τ)} {us:List Value} (n:Nat),RdC S w us cs→RdC S w (us.take n) (cs.take n)
 | _,_,0,_=>by simp[RdC]
 | [],us,n+1,h=>by cases h;simp[RdC]
 | _::_,_,n+1,⟨u,r,h1,h2,h3⟩=>⟨u,r.take n,by rw[h1];rfl,h2,RdC.take (θ:=θ) n h3⟩
theorem RdC.drop {θ:Nat→Lo}: ∀ {cs:List (Cl τ)} {us:List Value} (n:Nat),RdC S w us cs→RdC S w (us.drop n) (cs.drop n)
 | cs,us,0,h=>by simpa using h
 | [],us,n+1,h=>by cases h;simp[RdC]
 | _::_,_,n+1,⟨u,r,h1,h2,h3⟩=>by rw[h1];exact RdC.drop (θ:=θ) n h3
theorem RdC.app: ∀ {cs ds:List (Cl τ)} {us vs:List Value},RdC S w us cs→RdC S w vs ds→RdC S w (us++vs) (cs++ds)
 | [],ds,us,vs,h,h'=>by cases h;exact h'
 | _::_,_,_,_,⟨u,r,h1,h2,h3⟩,h'=>⟨u,r++_,by rw[h1];rfl,h2,RdC.app h3 h'⟩
theorem Cl.rd_keep {c:Cl τ} {u:Value} (h:c.rd S w u) (hk:Keep S w w'):c.rd S w' u:=by
 cases c with
 | v x=>exact h
 | sl e xs=>exact SlR.below hk h
theorem RdC.keep: ∀ {cs:List (Cl τ)} {us:List Value},RdC S w us cs→Keep S w w'→RdC S w' us cs
 | [],_,h,_=>h
 | _::_,_,⟨u,r,h1,h2,h3⟩,hk=>⟨u,r,h1,Cl.rd_keep h2 hk,RdC.keep h3 hk⟩
theorem cut_set {sz k i off n:Nat} {L dl:List Value} (hk:(k+1)*sz≤L.length) (hon:off+n≤sz) (hd:dl.length=n):
  cut sz (L.take (k*sz+off)++dl++L.drop (k*sz+off+n)) i=if i=k then(cut sz L k).take off++dl++(cut sz L k).drop (off+n) else cut sz L i:=by
 have hks:k*sz+sz≤L.length:=by rw[Nat.add_mul,Nat.one_mul] at hk;exact hk
 have hlen:(L.take (k*sz+off)++dl++L.drop (k*sz+off+n)).length=L.length:=by
  simp only[List.length_append,List.length_take,List.length_drop];omega
 have get : ∀ j, (L.take (k * sz + off) ++ dl ++ L.drop (k * sz + off + n))[j]? = if k * sz + off ≤ j ∧ j < k * sz + off + n then dl[j - (k * sz + off)]? else L[j]? := by
  intro j
  have hl1:(L.take (k*sz+off)).length=k*sz+off:=by rw[List.length_take];omega
  rw[List.append_assoc]
  by_cases h1:j<k*sz+off
  ·rw[List.getElem?_append_left (by omega),List.getElem?_take_of_lt h1,if_neg (by omega)]
  ·rw[List.getElem?_append_right (by omega),hl1]
   by_cases h2:j<k*sz+off+n
   ·rw[List.getElem?_append_left (by omega),if_pos (by omega)]
   ·rw[List.getElem?_append_right (by omega),if_neg (by omega),List.getElem?_drop,hd]
    congr 1
    omega
 refine List.ext_getElem? fun j=>?_
 unfold cut
 by_cases hj:j<sz
 ·rw[List.getElem?_take_of_lt hj,List.getElem?_drop,get]
  by_cases hi:i=k
  ·subst hi
   rw[if_pos rfl]
   have hcl:((L.drop (i*sz)).take sz).length=sz:=by rw[List.length_take,List.length_drop];omega
   have hl1:(((L.drop (i*sz)).take sz).take off).length=off:=by rw[List.length_take,hcl];omega
   rw[List.append_assoc]
   by_cases h1:j<off
   ·rw[if_neg (by omega),List.getElem?_append_left (by omega),List.getElem?_take_of_lt h1,List.getElem?_take_of_lt hj,List.getElem?_drop]
   ·rw[List.getElem?_append_right (by omega),hl1]
    by_cases h2:j<off+n
    ·rw[if_pos (by omega),List.getElem?_append_left (by omega)]
     congr 1
     omega
    ·rw[if_neg (by omega),List.getElem?_append_right (by omega),List.getElem?_drop,List.getElem?_take_of_lt (by omega),List.getElem?_drop]
     congr 1
     omega
  ·rw[if_neg hi,List.getElem?_take_of_lt hj,List.getElem?_drop,if_neg]
   intro hc
   rcases Nat.lt_or_ge i k with h1 | h1
   ·have:(i+1)*sz≤k*sz:=Nat.mul_le_mul_right _ h1
    rw[Nat.add_mul,Nat.one_mul] at this
    omega
   ·have:(k+1)*sz≤i*sz:=Nat.mul_le_mul_right _ (by omega)
    rw[Nat.add_mul,Nat.one_mul] at this
    omega
 ·rw[List.getElem?_eq_none (by rw[List.length_take];omega)]
  symm
  refine List.getElem?_eq_none ?_
  split
  ·simp only[List.length_append,List.length_take,List.length_drop];omega
  ·rw[List.length_take];omega
theorem lkA_frzE_not: ∀ (rs:List Nat) {E:List (Nat×Ex τ)} {x:Nat} {e:Ex τ},lkA E x=some e→x ∉ rs→lkA (frzE rs E) x=some e
 | [],_,_,_,h,_=>h
 | r :: rs, E, x, e, h, hx => by
  refine lkA_frzE_not rs ?_ fun h'=>hx (List.mem_cons_of_mem _ h')
  rw[lkA_frz1,h]
  cases e with
  | own e xs=>simp[show x≠r from fun h'=>hx (by rw[h'];exact List.mem_cons_self)]
  | _=>rfl
theorem store_ok (s:Sy P ti zr) (h:RxC B θ S σ a w) (hl:Sees l σ.ρ) (hEl:Sees El σ.E) (hG:Gs G a) {t:TypeId} {x y:Operand} (he:stX O El (ti t) (evx l G x) (evx l G y)=some (c,ef)):Does P B ef σ a w (.store t x y) ty:=by
 unfold stX at he
 split at he
 ·rename_i r off v hx hy
  split at he
  ·rename_i cs T ds n hr hds hn
   cases hb:Nat.beq ds.length n&&(Nat.ble (off+n) cs.length&&oneLx ds) with
   | false=>rw[hb] at he;cases he
   | true =>
    rw[hb] at he
    cases he
    simp only[Bool.and_eq_true] at hb
    have hl1:=Nat.eq_of_beq_eq_true hb.1
    have hl2:=Nat.le_of_ble_eq_true hb.2.1
    obtain⟨bk,us,e1,e2,e3,e4⟩:=h.ent r _ (hEl r _ hr)
    obtain⟨b',e5,e6⟩:=(h.ev hl hG hx).1
    rw[e1] at e5;cases e5
    obtain⟨dl,hdl,hcells⟩:=Vx.cells_ok hds (h.ev hl hG hy).1
    have hdlen:=RepL.len hdl
    have hlen:=RepL.len e2
    have hrun:=run_store (P:=P) (ty:=ty) (t:=t) e6 hcells e3 (.inl rfl) (TI.cells_size (s.tiok t) hn w) (by omega) (by simp;omega) (oneLx_ok hb.2.2 hdl)
    refine⟨none,_,θ,S,hrun,?_,trivial⟩
    refine h.turn (hEl r _ hr) rfl e1 ⟨rfl,rfl,rfl,by simp,fun x hx=>setRow_other w bk x _ hx.2⟩ rfl fun hR=>⟨bk,_,e1,?_,setRow_heap w bk _ _ T _ e3,e4⟩
    have all: ∀ {cs:List (Vx τ)} {us':List Value},RepL θ S w cs us'→RepL θ S (w.setRow bk (us.toArray.toList.take off++dl++us.toArray.toList.drop (off+n)).toArray) cs us':=by
     intro cs
     induction cs with
     | nil=>intro us' h';exact h'
     | cons c cs ih=>intro us' ⟨u,r',q1,q2,q3⟩;exact⟨u,r',q1,hR _ _ q2,ih q3⟩
    exact all (RepL.app (RepL.app (RepL.take _ e2) hdl) (RepL.drop _ e2))
  ·cases he
 ·rename_i r e k off v hx hy
  split at he
  ·rename_i e' xs ds n hr hds hn
   split at he
   ·rename_i dc hdc
    cases hb:Nat.beq e e'&&(Nat.beq ds.length n&&(Nat.ble (off+n) (Dat.sz (τ.T e'))&&!(memN r (nms ds)))) with
    | false=>rw[hb] at he;cases he
    | true =>
     rw[hb] at he
     simp only[cond_true] at he
     split at he
     ·rename_i y' hy'
      cases he
      simp only[Bool.and_eq_true,Bool.not_eq_true'] at hb
      obtain rfl:=Nat.eq_of_beq_eq_true hb.1
      have hl1:=Nat.eq_of_beq_eq_true hb.2.1
      have hl2:=Nat.le_of_ble_eq_true hb.2.2.1
      have hnr:=memN_false hb.2.2.2
      obtain⟨bk,e1,e2,e3⟩:=(h.ev hl hG hx).1
      obtain⟨dl,hdl,hcells⟩:=Vx.cells_ok hds (h.ev hl hG hy).1
      obtain⟨S1,hS1,h1⟩:=h.frzs (nms ds) (E:=σ.E) ⟨S,fun _ h=>h,h⟩
      have hr1:lkA (frzE (nms ds) σ.E) r=some (.own e xs):=lkA_frzE_not _ (hEl r _ hr) hnr
      have hdr:RdC S1 w dl dc:=cls_rd (θ:=θ) (rs:=nms ds) h1.ent (cls_sees hEl hdc) (fun _ h=>h) (RepL.mono hS1 (Keep.refl _ _) hdl)
      have hdlen:=RepL.len hdl
      rcases h1.ent r _ hr1 with ⟨q1,_⟩ | ⟨g,arr,T,q1,q2,q3,q4,⟨fz,q5,qz⟩,q6,q7,q8⟩
      ·rw[q1] at e1;cases e1
      ·rw[q1] at e1;cases e1
       have hk:k<xs.length:=by omega
       have hsz:0<Dat.sz (τ.T e):=Dat.sz_pos _
       have hcap:(k+1)*Dat.sz (τ.T e)≤arr.size:=Nat.le_trans (Nat.mul_le_mul_right _ (by omega)) q6
       have hcap':=hcap
       rw[Nat.add_mul,Nat.one_mul] at hcap'
       have hrun:=run_store (P:=P) (ty:=ty) (t:=t) e3 hcells q5 qz.z (TI.cells_size (s.tiok t) hn w) (by omega) (by omega) (List.all_eq_true.2 (RdC.one hdr))
       refine⟨none,_,θ,S1,hrun,?_,trivial⟩
       refine h1.turn hr1 rfl q1 ⟨rfl,rfl,rfl,by simp,fun x hx=>setRow_other w bk x _ hx.2⟩ rfl fun hR=>   .inr ⟨bk,_,T,q1,by rw[List.length_set];exact q2,by rw[List.length_set];exact q3,q4,⟨fz,setRow_heap w bk _ _ T _ q5,?_⟩,?_,q7,?_⟩
       ·have:(arr.toList.take (k*Dat.sz (τ.T e)+off)++dl++arr.toList.drop (k*Dat.sz (τ.T e)+off+n)).toArray.size=arr.size:=by
         simp only[List.size_toArray,List.length_append,List.length_take,List.length_drop,Array.length_toList]
         omega
        rw[this];exact qz
       ·simp only[List.size_toArray,List.length_append,List.length_take,List.length_drop,Array.length_toList]
        omega
       ·intro i x' hi
        have hkk:Keep S1 w (w.setRow bk (arr.toList.take (k*Dat.sz (τ.T e)+off)++dl++arr.toList.drop (k*Dat.sz (τ.T e)+off+n)).toArray):=⟨rfl,rfl,rfl,by simp,fun x hx=>setRow_other w bk x _ fun e=>q7 (e▸hx)⟩
        have hcs:=cut_set (i:=i) (L:=arr.toList) (dl:=dl) (sz:=Dat.sz (τ.T e)) (k:=k) (off:=off) (n:=n) (by simpa using hcap) hl2 (by omega)
        unfold cut at hcs
        rw[hcs]
        have hxk:xs[k]?=some (nth xs k):=by
         unfold nth
         rw[List.getElem?_eq_getElem hk,List.getD_eq_getElem?_getD,List.getElem?_eq_getElem hk]
         rfl
        by_cases hik:i=k
        ·subst hik
         rw[if_pos rfl]
         rw[List.getElem?_set_self hk] at hi
         cases hi
         have hold:=O.op _ _ (q8 i _ hxk)
         exact O.cl _ _ _ hy' (RdC.keep (RdC.app (RdC.app (RdC.take (θ:=θ) _ hold) hdr) (RdC.drop (θ:=θ) _ hold)) hkk)
        ·rw[if_neg hik]
         rw[List.getElem?_set_ne (Ne.symm hik)] at hi
         exact Dat.rd_below hkk (q8 i x' hi)
     ·cases he
   ·cases he
  ·cases he
 ·cases he
end
end Go.Proofs.YtapfpflmcgfbkaaGreatDoor.Ri

namespace Go.Proofs.YtapfpflmcgfbkaaGreatDoor.Ri
open Go.Proofs.YtapfpflmcgfbkaaGreatDoor.Fw
open Go.RowKit
set_option linter.unusedVariables false
set_option linter.unusedSimpArgs false
theorem cut_flat {n:Nat} {f:Value→List Value}: ∀ {us:List Value} {i:Nat} {u:Value},(∀ u∈us,(f u).length=n)→us[i]?=some u→cut n (us.flatMap f) i=f u
 | u0 :: us, 0, u, hl, h => by
  cases h
  unfold cut
  rw[List.flatMap_cons,Nat.zero_mul,List.drop_zero,List.take_append_of_le_length (by rw[hl u0 (by simp)];exact Nat.le_refl _),List.take_of_length_le (by rw[hl u0 (by simp)];exact Nat.le_refl _)]
 | u0 :: us, i + 1, u, hl, h => by
  have ih:=cut_flat (n:=n) (f:=f) (us:=us) (i:=i) (fun u hu=>hl u (List.mem_cons_of_mem _ hu)) (by simpa using h)
  unfold cut at ih ⊢
  rw[List.flatMap_cons,List.drop_append,List.drop_eq_nil_of_le (by rw[hl u0 (by simp),Nat.add_mul];omega),List.nil_append,hl u0 (by simp),Nat.add_mul,Nat.one_mul,Nat.add_sub_cancel]
  exact ih
theorem flat_len {n:Nat} {f:Value→List Value}: ∀ {us:List Value},(∀ u∈us,(f u).length=n)→(us.flatMap f).length=us.length*n
 | [],_=>by simp
 | u0 :: us, hl => by
  rw[List.flatMap_cons,List.length_append,hl u0 (by simp),flat_len fun u hu=>hl u (List.mem_cons_of_mem _ hu),List.length_cons,Nat.add_mul,Nat.one_mul,Nat.add_comm]
section
variable {τ:Tab} {O:Opn τ} {P:Program} {ti:Nat→TI} {zr:Zr} {B:Bx} {θ:Nat→Lo} {S:Nat→Prop} {σ:Sx τ} {a:Act} {w w':World} {l:Nat→Option (Sl τ)} {El:Nat→Option (Ex τ)} {G:List (Nat×Bool)} {p:Nat→Prop} {b:Nat} {c:Bool} {ef:Eff τ} {ty:TypeId} {oc:Bool}
theorem new_row (h:RxC B θ S σ a w) (hn:Nm p σ) (hb: ¬ p b) {e:Nat} {xs:List (τ.T e)} {arr:Array Value} (T:TypeId) {cap:Nat} (h1:xs.length≤cap) (h2:cap≤maxLen) (h3:cap*Dat.sz (τ.T e)≤arr.size) (hx: ∀ i x,xs[i]?=some x→Dat.rd S w (cut (Dat.sz (τ.T e)) arr.toList i) x):
  ∃ θ',RxC B θ' S ⟨σ.n,σ.ρ,insA b (.own e xs) σ.E⟩ a (w.alloc (.cells arr T))∧Rep θ' S (w.alloc (.cells arr T)) (τ:=τ) (.sl b) (.slice (some ⟨w.heap.size,0,none⟩) xs.length cap):=by
 have hk:Keep (Old w) w (w.alloc (.cells arr T)):=⟨rfl,rfl,rfl,by simp,fun b hb=>heap_alloc_old w _ hb⟩
 have hkS:Keep S w (w.alloc (.cells arr T)):=hk.mono h.dom
 refine⟨Ri.upd θ b ⟨some ⟨w.heap.size,0,none⟩,xs.length,cap⟩,h.new hn hk hb (fun b hb=>by cases hb;exact Nat.le_refl _) (.inr ⟨w.heap.size,arr,T,by rw[upd_at],by rw[upd_at],by rw[upd_at];exact h1,by rw[upd_at];exact h2,⟨(0,0),heap_alloc_new w _,.inl rfl⟩,by rw[upd_at];exact h3,fun hS=>?_,fun i x hi=>Dat.rd_below hkS (hx i x hi)⟩),by show _=_;rw[upd_at]⟩
 have:=h.dom _ hS;omega
theorem litX_ok {S1:Nat→Prop} {rs:List Nat} (hl: ∀ x v,evx l G x=some v→Rep θ S1 w v (a.eval x)) (hEl:Sees El σ.E) (hent: ∀ r e,lkA (frzE rs σ.E) r=some e→ExOk θ S1 w r e) {e sz:Nat} (hsz:sz=Dat.sz (τ.T e)): ∀ {parts:List (Nat×Operand)} {k:Nat} {ys:List (τ.T e)} {ns:List Nat},litX O l El G e sz k parts=some (ys,ns)→(∀ r∈ns,r∈rs)→
  ∃ us:List Value,parts.map (fun p=>(p.1,a.eval p.2))=(us.zipIdx k).map (fun x=>(x.2,x.1))∧(∀ u∈us,u.cells.toList.length=sz)∧us.length=parts.length∧ys.length=us.length∧ ∀ (i:Nat) y,ys[i]?=some y→ ∃ u:Value,us[i]?=some u∧Dat.rd S1 w u.cells.toList y
 | [],k,ys,ns,h,_=>by cases h;exact⟨[],rfl,by simp,rfl,rfl,fun i y h=>by simp at h⟩
 | (i, x) :: r, k, ys, ns, h, hns => by
  simp only[litX] at h
  cases hb:Nat.beq i k with
  | false=>rw[hb] at h;cases h
  | true =>
   rw[hb] at h
   obtain rfl:=Nat.eq_of_beq_eq_true hb
   simp only[cond_true] at h
   split at h
   ·rename_i v hv
    split at h
    ·rename_i ds hds
     cases hb2:Nat.beq ds.length sz with
     | false=>rw[hb2] at h;cases h
     | true =>
      rw[hb2] at h
      simp only[cond_true] at h
      split at h
      ·rename_i cs hcs
       split at h
       ·rename_i y q hy hq
        cases h
        obtain⟨ys',ns'⟩:=q
        obtain⟨us,h1,h2,h3,h4,h5⟩:=litX_ok hl hEl hent hsz hq fun r hr=>hns r (List.mem_append_right _ hr)
        obtain⟨dl,hdl,hcells⟩:=Vx.cells_ok hds (hl x v hv)
        have hrd:=cls_rd hent (cls_sees hEl hcs) (fun r hr=>hns r (List.mem_append_left _ hr)) hdl
        have hlen:=RepL.len hdl
        refine⟨a.eval x::us,by rw[List.map_cons,h1,List.zipIdx_cons,List.map_cons],?_,by rw[List.length_cons,h3,List.length_cons],by simp[h4],?_⟩
        ·intro u hu
         rcases List.mem_cons.1 hu with rfl | hu
         ·rw[hcells];simp;rw[hlen];exact Nat.eq_of_beq_eq_true hb2
         ·exact h2 u hu
        ·intro j y' hj
         cases j with
         | zero =>
          simp at hj
          subst hj
          exact⟨_,rfl,by rw[hcells];exact O.cl _ _ _ hy hrd⟩
         | succ j =>
          obtain⟨u,hu,hr⟩:=h5 j y' (by simpa using hj)
          exact⟨u,by simpa using hu,hr⟩
       ·cases h
      ·cases h
    ·cases h
   ·cases h
theorem bs_ok (s:Sy P ti zr) (h:RxC B θ S σ a w) (hn:Nm p σ) (hb: ¬ p b) (hl:Sees l σ.ρ) (hEl:Sees El σ.E) (hG:Gs G a) {t len:Nat} {parts:Array (Nat×Operand)} (he:bsX O zr l El G b len parts.toList (ti t)=some (c,ef)):Does P B ef σ a w (.buildSlice t len parts) ty:=by
  unfold bsX at he
  split at he
  · rename_i e sz by' hti
    cases hb0:Nat.beq sz (Dat.sz (τ.T e))&&(Nat.beq parts.toList.length len&&Nat.ble (len*sz) 16777216) with
    | false=>rw[hb0] at he;cases he
    | true =>
      rw[hb0] at he
      simp only[cond_true] at he
      simp only[Bool.and_eq_true] at hb0
      have hsz:=Nat.eq_of_beq_eq_true hb0.1
      have hlen:=Nat.eq_of_beq_eq_true hb0.2.1
      have hbig:=Nat.le_of_ble_eq_true hb0.2.2
      split at he
      · rename_i z q hz hq
        cases hb1:Nat.beq z.cells.size sz with
        | false=>rw[hb1] at he;cases he
        | true =>
          rw[hb1] at he
          cases he
          have hzs:=Nat.eq_of_beq_eq_true hb1
          obtain⟨ys,ns⟩:=q
          obtain⟨S1,hS1,h1⟩:=h.frzs ns (E:=σ.E) ⟨S,fun _ h=>h,h⟩
          obtain⟨us,g1,g2,g3,g4,g5⟩:=litX_ok (S1:=S1) (rs:=ns) (σ:=σ) (θ:=θ) (a:=a) (w:=w) (fun x v hx=>Rep.mono hS1 (Keep.refl _ _) (h.ev hl hG hx).1) hEl h1.ent hsz hq (fun _ h=>h)
          have hp:0<sz:=by rw[hsz];exact Dat.sz_pos _
          obtain⟨hu,inf,hinf,his,_⟩:=chkSlice_spec (s.sl hti)
          have hszr:(sizeOf e).run P w= .ok sz w:=by simp[sizeOf,typeInfo,hinf,his]
          have hul:us.length=len:=by rw[g3,hlen]
          have hrun:Runs P a w (.buildSlice t len parts) ty (some (.slice (some ⟨w.heap.size,0,none⟩) len len)) (w.alloc (.cells (us.flatMap fun u=>u.cells.toList).toArray e)):=by
            intro dst pos after g
            by_cases h0:len=0
            · have hus : us = [] := List.eq_nil_of_length_eq_zero (by omega)
              have hpt:parts= #[]:=by
                apply Array.eq_empty_of_size_eq_zero
                have:parts.toList.length=0:=by omega
                simpa using this
              subst h0;subst hpt;subst hus
              simp[execOp,Instr.buildSlice,run_underlying hu,hszr,Instr.fill,newRow]
              rw[show Array.map (fun _=>(default:Value)) (Array.range 0)= #[] from by simp]
            · have hfill := Go.Great.fill_whole hp us ((Array.range (len * sz)).map (z.cells[· % z.cells.size]!)) (fun u hu => by have := g2 u hu; simpa using this) (by simp [hul])
              have hm:(parts.map fun(x:Nat×Operand)=>match x with | (i,x)=>(i,a.eval x)).toList=parts.toList.map fun p=>(p.1,a.eval p.2):=by rw[Array.toList_map]
              have hne: ¬ len*sz=0:=by have:=Nat.mul_pos (show 0<len by omega) hp;omega
              have hng : ¬ len * sz > 2 ^ 24 := by have : (2 : Nat) ^ 24 = 16777216 := by decide
                                                   omega
              simp only[execOp,Instr.buildSlice,Sem.run_bind,run_underlying hu,Result.andThen_ok,hszr,hng,if_false,hne,s.zok e z hz,Sem.run_pure,hm,g1,hfill]
              simp[newRow]
          have hfl:(us.flatMap fun u=>u.cells.toList).length=us.length*sz:=flat_len g2
          obtain ⟨θ', k1, k2⟩ := new_row h1 (hn.frz ns) hb (xs := ys) (arr := (us.flatMap fun u => u.cells.toList).toArray) e (cap := len) (by omega) (by unfold maxLen; have := Nat.le_mul_of_pos_right len hp; omega) (by rw [List.size_toArray, hfl, hul, hsz]; exact Nat.le_refl _) (fun i x hi => by
            obtain⟨u,hu,hr⟩:=g5 i x hi
            rw[←hsz,show(us.flatMap fun u=>u.cells.toList).toArray.toList=us.flatMap fun u=>u.cells.toList from rfl,cut_flat g2 hu]
            exact hr)
          rw[show ys.length=len from by omega] at k2
          exact⟨_,_,θ',S1,hrun,k1,k2⟩
      · cases he
  · cases he
theorem zcx_cells {zs:List Value} {vs:List (Vx τ)} (h:zcx zs=some vs):nms vs=[]:=by
 induction zs generalizing vs with
 | nil=>cases h;rfl
 | cons x r ih =>
  simp only[zcx] at h
  cases hb:goodB x with
  | false=>rw[hb] at h;cases h
  | true =>
   rw[hb] at h
   simp only[cond_true] at h
   split at h
   ·rename_i l' h';cases h;exact(show nms l'=[] from ih h')
   ·cases h
theorem mk_ok (s:Sy P ti zr) (h:RxC B θ S σ a w) (hn:Nm p σ) (hb: ¬ p b) (hl:Sees l σ.ρ) (hEl:Sees El σ.E) (hG:Gs G a) {t:TypeId} {x y:Operand} (he:mkX O zr El b (evx l G x) (evx l G y) (ti t)=some (c,ef)) (hc:c=true):Does P B ef σ a w (.makeSlice t x y) ty:=by
  unfold mkX at he
  split at he
  · rename_i e sz by' hti
    split at he
    · rename_i i j z hx hy hz
      split at he
      · rename_i zs hzs
        split at he
        · rename_i cs hcs
          split at he
          · rename_i z0 hz0
            cases hb0:Nat.beq sz (Dat.sz (τ.T e))&&Nat.beq z.cells.size sz with
            | false=>rw[hb0] at he;cases he
            | true =>
              rw[hb0] at he
              cases he
              simp only[Bool.and_eq_true] at hb0
              have hsz:=Nat.eq_of_beq_eq_true hb0.1
              have hzz:=Nat.eq_of_beq_eq_true hb0.2
              simp only[Bool.and_eq_true,decide_eq_true_eq] at hc
              obtain⟨rfl,hi0,hlim⟩:=hc
              obtain⟨m,rfl⟩:=Int.eq_ofNat_of_zero_le hi0
              have hex:=(h.evv hl hG hx).1
              have hey:=(h.evv hl hG hy).1
              have hgm:=(h.evv hl hG hx).2
              obtain⟨hu,inf,hinf,his,hib⟩:=chkSlice_spec (s.sl hti)
              have hw:IntKind.i64.wrap (m:Int)=m:=hgm
              have hmm:m≤maxLen:=by
                have:=good_in hgm
                simp[hiK,IntKind.bits,IntKind.signed] at this
                unfold maxLen;omega
              have hp:0<sz:=by rw[hsz];exact Dat.sz_pos _
              have hE:=h.env
              have: ∃ arr:Array Value,arr.size=m*sz∧(∀ i,i<m→cut sz arr.toList i=z.cells.toList)∧Runs P a w (.makeSlice t x y) ty (some (.slice (some ⟨w.heap.size,0,none⟩) m m)) (w.alloc (.cells arr e)):=by
                by_cases h0:m=0
                · subst h0
                  refine⟨#[],by simp,fun i hi=>by omega,?_⟩
                  have hr:Array.range 0= #[]:=rfl
                  intro _ _ _ _
                  simp[execOp,hE.eval hex,hE.eval hey,Instr.makeSlice,run_underlying hu,asInt,asIntOf,typeInfo,hinf,sizeOf,newRow,hr,show IntKind.i64.wrap 0=0 from rfl]
                · refine ⟨(Array.range (m * sz)).map (z.cells[· % z.cells.size]!), by simp, fun i hi => made_cut hzz hp hi, ?_⟩
                  have hne: ¬ (m*sz=0):=by rw[Nat.mul_eq_zero];omega
                  have hz':=s.zok e z hz w
                  have hm0: ¬ ((m:Int)<0):=by omega
                  have hszn: ¬ (sz=0):=by omega
                  have hlim' : ¬ (((by' : Int) * (m : Int)) > 2 ^ 48) := by have : (2 : Int) ^ 48 = 281474976710656 := by decide
                                                                            omega
                  have hlim2: ¬ (281474976710656<(by':Int)*(m:Int)):=by omega
                  intro _ _ _ _
                  simp[execOp,hE.eval hex,hE.eval hey,Instr.makeSlice,run_underlying hu,asInt,asIntOf,typeInfo,hinf,sizeOf,newRow,hib,his,hw,hlim2,hz',hm0]
                  exact fun h=>absurd h hne
              obtain⟨arr,hasz,hcut,hrun⟩:=this
              have hrd:Dat.rd S w z.cells.toList z0:=O.cl _ _ _ hz0 (cls_rd (θ:=θ) (rs:=[]) h.ent (cls_sees hEl hcs) (fun r hr=>by rw[zcx_cells hzs] at hr;cases hr) (zcx_ok hzs))
              obtain ⟨θ', k1, k2⟩ := new_row h hn hb (xs := List.replicate m z0) (arr := arr) e (cap := m) (by simp) hmm (by rw [hasz, hsz]; exact Nat.le_refl _) (fun i x' hi => by
                have him:i<m:=by simpa using (List.getElem?_eq_some_iff.1 hi).1
                rw[List.getElem?_replicate,if_pos him] at hi
                cases hi
                rw[←hsz,hcut i him]
                exact hrd)
              rw[List.length_replicate] at k2
              exact⟨_,_,θ',S,hrun,k1,k2⟩
          · cases he
        · cases he
      · cases he
    · cases he
  · cases he
end
end Go.Proofs.YtapfpflmcgfbkaaGreatDoor.Ri
