/-
  The texts HQ, VO, VP, LM, VN, VS, GEi of this proof, one behind the other: what each proves stands at its head. No condition.
-/
import Derived.Test.YtppialklomgajaaGreatDoorSUA
import Derived.Test.YtppialklomgajaaGreatDoorSUB
import Derived.Test.YtppialklomgajaaGreatDoorSUC
import Derived.Test.YtppialklomgajaaGreatDoorSUD
import Derived.Test.YtppialklomgajaaGreatDoorSUE
set_option linter.unusedVariables false
set_option linter.unusedSimpArgs false
set_option maxRecDepth 100000
namespace Go.Proofs.YtppialklomgajaaGreatDoor.Fw
section
open Go.RowKit
def toL {α:Type} [Inhabited α] (f:α→α) (xs:List α):Nat→List α→Nat→List α
 | 0,w,_=>w
 | n+1,w,i=>toL f xs n (w.set i (f (nth xs i))) (i+1)
theorem Qpd {α:Type} [Inhabited α] {f:α→α} (hf: ∀ x,f x=x) (xs:List α): ∀ n w i,n=xs.length - i→w.length=xs.length→(∀ j,j<i→w[j]?=xs[j]?)→toL f xs n w i=xs:=by
 intro n
 induction n with
 | zero =>
  intro w i h hl hj
  show w=xs
  apply List.ext_getElem?
  intro j
  rcases Nat.lt_or_ge j i with h1 | h1
  ·exact hj j h1
  ·rw[List.getElem?_eq_none (by omega),List.getElem?_eq_none (by omega)]
 | succ n ih =>
  intro w i h hl hj
  rw[toL]
  refine ih _ (i+1) (by omega) (by rw[List.length_set];exact hl) fun j hji=>?_
  rcases Nat.lt_or_ge j i with h1 | h1
  ·rw[List.getElem?_set_ne (by omega)]
   exact hj j h1
  ·obtain rfl : j = i := by omega
   rw[List.getElem?_set_self (by omega),hf]
   unfold nth
   rw[List.getD_eq_getElem?_getD,List.getElem?_eq_getElem (by omega:j<xs.length)]
   rfl
def eqL {α:Type} [Inhabited α] (f:α→α→Bool) (xs ys:List α):Nat→Nat→Bool
 | 0,_=>true
 | n+1,i=>bif !(f (nth xs i) (nth ys i)) then false else eqL f xs ys n (i+1)
theorem Qj1 {α:Type} [Inhabited α] {f:α→α→Bool} (hf: ∀ x,f x x=true) (xs:List α): ∀ n i,eqL f xs xs n i=true:=by
 intro n
 induction n with
 | zero=>intro i;rfl
 | succ n ih=>intro i;rw[eqL,hf,ih];rfl
theorem Q0x (p0:Cell):Qhd p0=p0:=by
 unfold Qhd
 rfl
theorem Qpq (p0:List Cell): ∀ n w i,Qew p0 n w i=toL (Qhd) p0 n w i:=by
 intro n
 induction n with
 | zero=>intro w i;rfl
 | succ n ih=>intro w i;rw[Qew,toL,ih]
theorem Qm8 (p0:List Cell):Qgu p0=p0:=by
 unfold Qgu
 rw[Qpq]
 exact Qpd (Q0x) p0 _ _ 0 rfl (by rw[List.length_replicate]) fun j hj=>by omega
theorem Qoc (p0:Call):Qgm p0=p0:=by
 unfold Qgm
 rfl
theorem Qpr (p0:List Call): ∀ n w i,Qex p0 n w i=toL (Qgm) p0 n w i:=by
 intro n
 induction n with
 | zero=>intro w i;rfl
 | succ n ih=>intro w i;rw[Qex,toL,ih]
theorem Qzd (p0:List Call):Qh8 p0=p0:=by
 unfold Qh8
 rw[Qpr]
 exact Qpd (Qoc) p0 _ _ 0 rfl (by rw[List.length_replicate]) fun j hj=>by omega
theorem Qxv (p0:Answer):Qgh p0=p0:=by
 unfold Qgh
 rfl
theorem Qny (p0:List Answer): ∀ n w i,Qdr p0 n w i=toL (Qgh) p0 n w i:=by
 intro n
 induction n with
 | zero=>intro w i;rfl
 | succ n ih=>intro w i;rw[Qdr,toL,ih]
theorem Qlo (p0:List Answer):Qf3 p0=p0:=by
 unfold Qf3
 rw[Qny]
 exact Qpd (Qxv) p0 _ _ 0 rfl (by rw[List.length_replicate]) fun j hj=>by omega
theorem Qnx (p0:List ByteArray): ∀ n w i,Qdq p0 n w i=toL (fun x=>x) p0 n w i:=by
 intro n
 induction n with
 | zero=>intro w i;rfl
 | succ n ih=>intro w i;rw[Qdq,toL,ih]
theorem Qln (p0:List ByteArray):Qeq p0=p0:=by
 unfold Qeq
 rw[Qnx]
 exact Qpd (fun _=>rfl) p0 _ _ 0 rfl (by rw[List.length_replicate]) fun j hj=>by omega
theorem Qy9 (p0:Touch):Qh5 p0=p0:=by
 unfold Qh5
 simp only[Qln]
theorem Qq7 (p0:List Int): ∀ n w i,Qfg p0 n w i=toL (fun x=>x) p0 n w i:=by
 intro n
 induction n with
 | zero=>intro w i;rfl
 | succ n ih=>intro w i;rw[Qfg,toL,ih]
theorem Q0v (p0:List Int):Qi0 p0=p0:=by
 unfold Qi0
 rw[Qq7]
 exact Qpd (fun _=>rfl) p0 _ _ 0 rfl (by rw[List.length_replicate]) fun j hj=>by omega
theorem Yca (p0:Tx):Qjc p0=p0:=by
 unfold Qjc
 simp only[Qlo,Qzd,Q0v,Qy9]
theorem Qxt (p0:List Tx): ∀ n w i,Qfx p0 n w i=toL (Qjc) p0 n w i:=by
 intro n
 induction n with
 | zero=>intro w i;rfl
 | succ n ih=>intro w i;rw[Qfx,toL,ih]
theorem Q73 (p0:List Tx):Qj5 p0=p0:=by
 unfold Qj5
 rw[Qxt]
 exact Qpd (Yca) p0 _ _ 0 rfl (by rw[List.length_replicate]) fun j hj=>by omega
theorem Q0u (p0:Slot):Qhc p0=p0:=by
 unfold Qhc
 simp only[Qm8]
theorem Qpp (p0:List Slot): ∀ n w i,Qev p0 n w i=toL (Qhc) p0 n w i:=by
 intro n
 induction n with
 | zero=>intro w i;rfl
 | succ n ih=>intro w i;rw[Qev,toL,ih]
theorem Qzb (p0:List Slot):Qh7 p0=p0:=by
 unfold Qh7
 rw[Qpp]
 exact Qpd (Q0u) p0 _ _ 0 rfl (by rw[List.length_replicate]) fun j hj=>by omega
theorem Qq6 (p0:Journal):Qg5 p0=p0:=by
 unfold Qg5
 rfl
theorem Q0w (p0:Disk):Qi1 p0=p0:=by
 unfold Qi1
 simp only[Qq6,Qzb]
theorem Q0t (p0:Step):Qhb p0=p0:=by
 unfold Qhb
 simp only[Qoc]
theorem Qpo (p0:List Step): ∀ n w i,Qeu p0 n w i=toL (Qhb) p0 n w i:=by
 intro n
 induction n with
 | zero=>intro w i;rfl
 | succ n ih=>intro w i;rw[Qeu,toL,ih]
theorem Qza (p0:List Step):Qh6 p0=p0:=by
 unfold Qh6
 rw[Qpo]
 exact Qpd (Q0t) p0 _ _ 0 rfl (by rw[List.length_replicate]) fun j hj=>by omega
theorem Qzc (p0:Entry):Qgt p0=p0:=by
 unfold Qgt
 simp only[Qlo,Qza]
theorem Qow (p0:List Entry): ∀ n w i,Qed p0 n w i=toL (Qgt) p0 n w i:=by
 intro n
 induction n with
 | zero=>intro w i;rfl
 | succ n ih=>intro w i;rw[Qed,toL,ih]
theorem Qxu (p0:List Entry):Qho p0=p0:=by
 unfold Qho
 rw[Qow]
 exact Qpd (Qzc) p0 _ _ 0 rfl (by rw[List.length_replicate]) fun j hj=>by omega
theorem Qmi (p0:Kernel):Qay p0=p0:=by
 unfold Qay
 simp only[Qm8,Q0w,Qxu,Qln,Q73]
theorem Qx4 (p0:Cell):Qi4 p0 p0=true:=by
 unfold Qi4
 simp only[decide_true,Bool.not_true,cond_false]
theorem Qp7 (p0 p1:List Cell): ∀ n i,Qe6 p0 p1 n i=eqL (Qi4) p0 p1 n i:=by
 intro n
 induction n with
 | zero=>intro i;rfl
 | succ n ih=>intro i;rw[Qe6,eqL,ih]
theorem Qlt (p0:List Cell):Qia p0 p0=true:=by
 unfold Qia
 rw[decide_eq_true rfl,Qp7]
 exact Qj1 (Qx4) _ _ _
theorem Qmj (p0:Call):Qh1 p0 p0=true:=by
 unfold Qh1
 simp only[decide_true,Bool.not_true,cond_false]
theorem Qp8 (p0 p1:List Call): ∀ n i,Qe7 p0 p1 n i=eqL (Qh1) p0 p1 n i:=by
 intro n
 induction n with
 | zero=>intro i;rfl
 | succ n ih=>intro i;rw[Qe7,eqL,ih]
theorem Qrl (p0:List Call):Qjg p0 p0=true:=by
 unfold Qjg
 rw[decide_eq_true rfl,Qp8]
 exact Qj1 (Qmj) _ _ _
theorem Qp9 (p0:Answer):Qhq p0 p0=true:=by
 unfold Qhq
 simp only[decide_true,Bool.not_true,cond_false]
theorem Qn7 (p0 p1:List Answer): ∀ n i,Qdz p0 p1 n i=eqL (Qhq) p0 p1 n i:=by
 intro n
 induction n with
 | zero=>intro i;rfl
 | succ n ih=>intro i;rw[Qdz,eqL,ih]
theorem Qki (p0:List Answer):Qg6 p0 p0=true:=by
 unfold Qg6
 rw[decide_eq_true rfl,Qn7]
 exact Qj1 (Qp9) _ _ _
theorem Qn6 (p0 p1:List ByteArray): ∀ n i,Qdy p0 p1 n i=eqL (fun a b=>decide (a=b)) p0 p1 n i:=by
 intro n
 induction n with
 | zero=>intro i;rfl
 | succ n ih=>intro i;rw[Qdy,eqL,ih]
theorem Qh0 (p0:List ByteArray):Qer p0 p0=true:=by
 unfold Qer
 rw[decide_eq_true rfl,Qn6]
 exact Qj1 (fun x=>by simp) _ _ _
theorem Qrg (p0:Touch):Qjd p0 p0=true:=by
 unfold Qjd
 simp only[decide_true,Bool.not_true,cond_false,Qh0]
theorem Qrj (p0 p1:List Int): ∀ n i,Qfi p0 p1 n i=eqL (fun a b=>decide (a=b)) p0 p1 n i:=by
 intro n
 induction n with
 | zero=>intro i;rfl
 | succ n ih=>intro i;rw[Qfi,eqL,ih]
theorem Qx2 (p0:List Int):Qkg p0 p0=true:=by
 unfold Qkg
 rw[decide_eq_true rfl,Qrj]
 exact Qj1 (fun x=>by simp) _ _ _
theorem Q0y (p0:Tx):Qls p0 p0=true:=by
 unfold Qls
 simp only[decide_true,Bool.not_true,cond_false,Qki,Qrl,Qx2,Qrg]
theorem Qxz (p0 p1:List Tx): ∀ n i,Qfz p0 p1 n i=eqL (Qls) p0 p1 n i:=by
 intro n
 induction n with
 | zero=>intro i;rfl
 | succ n ih=>intro i;rw[Qfz,eqL,ih]
theorem Qzg (p0:List Tx):Qlr p0 p0=true:=by
 unfold Qlr
 rw[decide_eq_true rfl,Qxz]
 exact Qj1 (Q0y) _ _ _
theorem Qx1 (p0:Slot):Qi3 p0 p0=true:=by
 unfold Qi3
 simp only[decide_true,Bool.not_true,cond_false,Qlt]
theorem Qp4 (p0 p1:List Slot): ∀ n i,Qe5 p0 p1 n i=eqL (Qi3) p0 p1 n i:=by
 intro n
 induction n with
 | zero=>intro i;rfl
 | succ n ih=>intro i;rw[Qe5,eqL,ih]
theorem Qri (p0:List Slot):Qjf p0 p0=true:=by
 unfold Qjf
 rw[decide_eq_true rfl,Qp4]
 exact Qj1 (Qx1) _ _ _
theorem Qo3 (p0:Journal):Qhv p0 p0=true:=by
 unfold Qhv
 simp only[decide_true,Bool.not_true,cond_false]
theorem Qx3 (p0:Disk):Qkh p0 p0=true:=by
 unfold Qkh
 simp only[decide_true,Bool.not_true,cond_false,Qo3,Qri]
theorem Qx0 (p0:Step):Qi2 p0 p0=true:=by
 unfold Qi2
 simp only[decide_true,Bool.not_true,cond_false,Qmj]
theorem Qp3 (p0 p1:List Step): ∀ n i,Qe4 p0 p1 n i=eqL (Qi2) p0 p1 n i:=by
 intro n
 induction n with
 | zero=>intro i;rfl
 | succ n ih=>intro i;rw[Qe4,eqL,ih]
theorem Qrh (p0:List Step):Qje p0 p0=true:=by
 unfold Qje
 rw[decide_eq_true rfl,Qp3]
 exact Qj1 (Qx0) _ _ _
theorem Qrk (p0:Entry):Qh9 p0 p0=true:=by
 unfold Qh9
 simp only[decide_true,Bool.not_true,cond_false,Qki,Qrh]
theorem Qo4 (p0 p1:List Entry): ∀ n i,Qef p0 p1 n i=eqL (Qh9) p0 p1 n i:=by
 intro n
 induction n with
 | zero=>intro i;rfl
 | succ n ih=>intro i;rw[Qef,eqL,ih]
theorem Qp6 (p0:List Entry):Qim p0 p0=true:=by
 unfold Qim
 rw[decide_eq_true rfl,Qo4]
 exact Qj1 (Qrk) _ _ _
theorem Qp5 (p0:Kernel):Qil p0 p0=true:=by
 unfold Qil
 simp only[decide_true,Bool.not_true,cond_false,Qlt,Qx3,Qp6,Qh0,Qzg]
end
section
open Go.RowKit
attribute [local irreducible] Qb0 Qdb Qay Qfn Qad
set_option maxHeartbeats 2000000
theorem fok9:FnOk Tryz.prog 9:=⟨_,Tryz.func9,rfl,by kernel_rfl⟩
theorem Yl6:FnOk Tryz.prog 11:=⟨_,Tryz.func11,rfl,by kernel_rfl⟩
theorem Yu3:FnOk Tryz.prog 13:=⟨_,Tryz.func13,rfl,by kernel_rfl⟩
theorem Yu1:FnOk Tryz.prog 19:=⟨_,Tryz.func19,rfl,by kernel_rfl⟩
theorem Yqz:FnOk Tryz.prog 21:=⟨_,Tryz.func21,rfl,by kernel_rfl⟩
def Qft (p0:Kernel):Bool:=bif decide ((Qgi p0 1048576)<0) then true else(bif !(Qer (Qb0 (Qay p0)) (Qdb (Qay p0))) then false else(bif !(Qil (Qay p0) (Qay p0)) then false else(bif (decide ((Qfn (Qay p0) 1)<0))||(!(Qer (Qb0 (Qay p0)) (Qdb (Qay p0)))) then false else(bif decide ((Qdm ((Qad (Qb0 (Qay p0)) 1).1) 1)<0) then false else(bif !decide ((Qdm ((Qad (Qb0 (Qay p0)) 1).1) 1)=((Qad (Qb0 (Qay p0)) 1).2)) then false else(bif !(Qer (Qb0 (Qay p0)) (Qdb (Qay p0))) then false else(bif decide ((Qdm ((Qad (Qb0 (Qay p0)) 1).1) 1)<0) then false else(bif !decide ((Qdm ((Qad (Qb0 (Qay p0)) 1).1) 1)=((Qad (Qb0 (Qay p0)) 1).2)) then false else true))))))))
theorem Qmx (p0:Kernel):CTs 5 [.o (.st Kernel _ inferInstance p0)] [Re.c (.bool (Qft p0))]:=by
 refine en Tryz.func5 Tryz.ntmps5 fun w hG hgd=>?_
 obtain⟨hg_p0,_⟩:=hgd
 have hM:=Qft.eq_1 p0
 refine ad 13 ?_
 refine op (cl (Qz1 p0 1048576) fok9) ?_
 refine ad 8 ?_
 refine cd (fun h1=>?_) (fun h1=>?_)
 ·
  have hM:=hM.trans (bt h1)
  refine ad 4 ?_
  exact rz (rs:=[.tmp 2]) (congrArg (fun x=>[Re.c (.bool x)]) hM)
 ·
  have hM:=hM.trans (bf h1)
  have hsm:=(Qke p0 1048576 (by decide) (by decide) hg_p0 (of_decide_eq_false h1)).1
  have hsm2:Dat.small 1048576 (Qay p0):=by rw[Qmi];exact hsm
  refine ad 4 ?_
  refine og (clg (Qip p0 (by first | assumption | exact Qcs hs (by omega))) Yl6) fun hgq=>?_
  obtain⟨hg2,_⟩:=hgq
  refine og (clg (Qzx (Qay p0) (by first | assumption | exact hsm2)) Yu2) fun hgq=>?_
  obtain⟨hg3,_⟩:=hgq
  refine ad 5 ?_
  refine og (clg (Qip p0 (by first | assumption | exact Qcs hs (by omega))) Yl6) fun hgq=>?_
  obtain⟨hg4,_⟩:=hgq
  refine ad 6 ?_
  refine og (clg (Qnl (Qay p0) (by first | assumption | exact hsm2)) Yrc) fun hgq=>?_
  obtain⟨hg5,_⟩:=hgq
  refine ad 7 ?_
  refine op (cl (Qgd (Qb0 (Qay p0)) (Qdb (Qay p0))) Yif) ?_
  refine ad 2 ?_
  refine cd (fun h6=>?_) (fun h6=>?_)
  ·
   have hM:=hM.trans (bt h6)
   refine ad 4 ?_
   exact rz (rs:=[.tmp 2]) (congrArg (fun x=>[Re.c (.bool x)]) hM)
  ·
   have hM:=hM.trans (bf h6)
   refine ad 3 ?_
   refine dr 5 fun _ _ _ _ _ hb=>?_
   refine tk [0,1] ?_
   refine ong 2 [5,6,7,8,9,10,11,12,13,14,15,16,17,18,19,20,21,22,23] (clg (Qip p0 (by first | assumption | exact Qcs hs (by omega))) Yl6) fun hgq=>?_
   obtain⟨hg7,_⟩:=hgq
   refine on 3 [5,6,7,8,9,10,11,12,13,14,15,16,17,18,19,20,21,22,23] (cl (Qz6 (Qay p0) (Qay p0)) Yu3) ?_
   refine tk [4] ?_
   refine dn hb ?_
   refine cd (fun h8=>?_) (fun h8=>?_)
   ·
    have hM:=hM.trans (bt h8)
    refine ad 4 ?_
    exact rz (rs:=[.tmp 2]) (congrArg (fun x=>[Re.c (.bool x)]) hM)
   ·
    have hM:=hM.trans (bf h8)
    refine ad 9 ?_
    refine og (cm [12,13,14,15,16] [] [7,8,9,10,11] [] [0,1,2,3,4,5,6,12,13,14,15,16,17,18,19,20,21,22,23] (Qrt (Qay p0) 1 (by first | assumption | exact gi _)) Yu1) fun hg9=>?_
    refine ad 8 ?_
    refine ag 2 ?_
    refine op (cG (hct:=fun hB=>(Qgd (Qb0 (Qay p0)) (Qdb (Qay p0)))) (hfn:=Yif)) ?_
    refine ag 2 ?_
    refine ad 1 ?_
    refine cd (fun h10=>?_) (fun h10=>?_)
    ·
     have hM:=hM.trans (bt h10)
     refine ad 4 ?_
     exact rz (rs:=[.tmp 2]) (congrArg (fun x=>[Re.c (.bool x)]) hM)
    ·
     have hM:=hM.trans (bf h10)
     refine ad 9 ?_
     refine og (mu (Qku (Qb0 (Qay p0)) 1 (gi 1)) Yq2) fun hgq=>?_
     obtain⟨hg11,hg12⟩:=hgq
     refine ad 10 ?_
     refine op (cl (Qkz ((Qad (Qb0 (Qay p0)) 1).1) 1 (gi 1)) Yqz) ?_
     refine ad 8 ?_
     refine cd (fun h13=>?_) (fun h13=>?_)
     ·
      have hM:=hM.trans (bt h13)
      refine ad 4 ?_
      exact rz (rs:=[.tmp 2]) (congrArg (fun x=>[Re.c (.bool x)]) hM)
     ·
      have hM:=hM.trans (bf h13)
      refine ad 8 ?_
      refine cd (fun h14=>?_) (fun h14=>?_)
      ·
       have hM:=hM.trans (bt h14)
       refine ad 4 ?_
       exact rz (rs:=[.tmp 2]) (congrArg (fun x=>[Re.c (.bool x)]) hM)
      ·
       have hM:=hM.trans (bf h14)
       refine ad 4 ?_
       refine og (clg (Qip p0 (by first | assumption | exact Qcs hs (by omega))) Yl6) fun hgq=>?_
       obtain⟨hg15,_⟩:=hgq
       refine og (clg (Qnl (Qay p0) (by first | assumption | exact hsm2)) Yrc) fun hgq=>?_
       obtain⟨hg16,_⟩:=hgq
       refine ad 7 ?_
       refine op (cl (Qgd (Qb0 (Qay p0)) (Qdb (Qay p0))) Yif) ?_
       refine ad 2 ?_
       refine cd (fun h17=>?_) (fun h17=>?_)
       ·
        have hM:=hM.trans (bt h17)
        refine ad 4 ?_
        exact rz (rs:=[.tmp 2]) (congrArg (fun x=>[Re.c (.bool x)]) hM)
       ·
        have hM:=hM.trans (bf h17)
        refine ad 9 ?_
        refine op (cl (Qkz ((Qad (Qb0 (Qay p0)) 1).1) 1 (gi 1)) Yqz) ?_
        refine ad 8 ?_
        refine cd (fun h18=>?_) (fun h18=>?_)
        ·
         have hM:=hM.trans (bt h18)
         refine ad 4 ?_
         exact rz (rs:=[.tmp 2]) (congrArg (fun x=>[Re.c (.bool x)]) hM)
        ·
         have hM:=hM.trans (bf h18)
         refine ad 8 ?_
         refine cd (fun h19=>?_) (fun h19=>?_)
         ·
          have hM:=hM.trans (bt h19)
          refine ad 4 ?_
          exact rz (rs:=[.tmp 2]) (congrArg (fun x=>[Re.c (.bool x)]) hM)
         ·
          have hM:=hM.trans (bf h19)
          refine ad 5 ?_
          exact rz (rs:=[.tmp 2]) (congrArg (fun x=>[Re.c (.bool x)]) hM)
end
section
open Go.RowKit
theorem Ykm (l:List UInt8) (k:Nat):Qaw ⟨l.toArray⟩ k=l.getD k 0:=by
 unfold Qaw
 simp[Array.getD_eq_getD_getElem?,List.getD_eq_getElem?_getD]
theorem cut1 (b:UInt8) (r:List UInt8):cutS (⟨(b::r).toArray⟩:ByteArray) 0 1=⟨#[b]⟩:=by
 unfold cutS
 apply ByteArray.ext
 simp[ByteArray.data_extract]
theorem Yo9 (v:ByteArray):Qbc v ⟨#[45]⟩=((!decide (v=⟨#[]⟩))&&(decide (((Qaw v 0).toNat:Int)=45))):=by
 obtain⟨⟨l⟩⟩:=v
 cases l with
 | nil=>rfl
 | cons b r =>
  have h1 : ¬ (⟨(b :: r).toArray⟩ : ByteArray) = ⟨#[]⟩ := fun e => by
   have:=congrArg ByteArray.size e
   simp[ByteArray.size] at this
  unfold Qbc
  have h2:((⟨(b::r).toArray⟩:ByteArray).size:Int)≥((⟨#[45]⟩:ByteArray).size:Int):=by
   show((r.length+1:Nat):Int)≥1
   omega
  rw[decide_eq_true h2,decide_eq_false h1,Bool.true_and,Bool.not_false,Bool.true_and]
  rw[show cutS (⟨(b::r).toArray⟩:ByteArray) 0 (⟨#[45]⟩:ByteArray).size=⟨#[b]⟩ from cut1 b r]
  rw[show Qaw (⟨(b::r).toArray⟩:ByteArray) 0=b by rw[Ykm];rfl]
  apply decide_eq_decide.2
  constructor
  ·intro e
   injection e with e
   have:b=45:=by simpa using e
   rw[this];rfl
  ·intro e
   have:b=45:=by
    have h3:b.toNat=45:=by omega
    exact UInt8.toNat_inj.1 h3
   rw[this]
theorem Yb8 (v : ByteArray) : Qes v = bif ((!decide (v = ⟨#[]⟩)) && (decide (((Qaw v 0).toNat : Int) = 45))) then ((Qde (cutS v 1 v.size)).1) else ⟨#[]⟩ := by
 unfold Qes Qc3 Qbw
 rw[←Yo9]
 cases Qbc v ⟨#[45]⟩ with
 | false=>rfl
 | true =>
  show(Qc5 (cutS v 1 v.size)).1=(Qde (cutS v 1 v.size)).1
  rw[Qry]
theorem Q1v (p0:List Cell): ∀ (n:Nat) v (i:Nat),i+n≤100→Qfj p0 n v i=Qd9 p0 n v i:=by
 intro n
 induction n with
 | zero=>intro v i _;rfl
 | succ n ih =>
  intro v i h
  rw[Qfj,Qd9,ih _ _ (by omega),Yb8,Qmf,Yee _ _ (by unfold I64;omega)]
theorem Yea (p0:List Cell):Qkk p0=Qiw p0:=by
 have h:=Yff (Qfe p0 ⟨#[100,47,110]⟩)
 have e:Qdc p0=Qa2 (Qdp (Qa1 p0 ⟨#[100,47,110]⟩)) 0 40:=by
  rw[Yei (by rw[←Qmf,←Q7q];exact h.1),←Qmf,←Q7q]
  rfl
 unfold Qkk Qiw
 rw[e]
 have hb:=Q7t (Qdp (Qa1 p0 ⟨#[100,47,110]⟩))
 exact Q1v p0 _ _ 1 (by omega)
theorem Yd0 (p0:Disk): ∀ n i,Qdd p0 n i=p0:=by
 intro n
 induction n with
 | zero=>intro i;rfl
 | succ n ih=>intro i;rw[Qdd,ih]
theorem Ymb (p0:Disk):Qbo p0=p0:=Yd0 p0 _ _
theorem Yij (p0:Disk): ∀ n v i,i+n=p0.Slots.length→v=p0.Slots.take i→Qd8 p0 n v i=p0:=by
 intro n
 induction n with
 | zero =>
  intro v i hi hv
  rw[Qd8,hv,List.take_of_length_le (by omega)]
 | succ n ih =>
  intro v i hi hv
  rw[Qd8]
  refine ih _ (i+1) (by omega) ?_
  rw[hv,Qjy (by omega),List.nil_append]
theorem Ykh (p0:Disk):Qbk p0=p0:=Yij p0 _ _ 0 (by omega) rfl
theorem Yiw (a:Int) {c:Int} (h:0≤c):Qd3 a 0 c=Qa2 a 0 c:=by
 unfold Qd3 Qa2
 cases h1:(decide (c<0)||decide (a<0)) with
 | true =>
  have h2:c<0∨a<0:=by simpa using h1
  show max 0 (min a c)=0
  omega
 | false =>
  have h2:=of_decide_eq_false (Bool.or_eq_false_iff.1 h1).2
  cases h3:decide (a>c) with
  | true=>have h4:=of_decide_eq_true h3;show max 0 (min a c)=c;omega
  | false=>have h4:=of_decide_eq_false h3;show max 0 (min a c)=a;omega
theorem Q1w (p0:Journal):Qg7 p0=Qaq p0:=rfl
theorem Qyl (p0:Journal) (p1:Int):Qdn p0 p1=Qdh p0 p1:=by
 unfold Qdn Qdh
 rw[Q1w]
 cases h:Qaq p0 with
 | false=>rfl
 | true =>
  have hj:=Qjm h
  have hw1:IntKind.i64.wrap ((p0.Text.size:Int) - p0.Sure)=(p0.Text.size:Int) - p0.Sure:=IntWalk.i64_in _ (by omega)
  rw[Bool.not_true,cond_false,cond_false,hw1,Yiw _ (by omega)]
  have hbr:=Qj7 p1 (c:=(p0.Text.size:Int) - p0.Sure) (by omega)
  rw[IntWalk.i64_in (p0.Sure+Qa2 p1 0 ((p0.Text.size:Int) - p0.Sure)) (by omega)]
  have hz0:0≤p0.Sure+Qa2 p1 0 ((p0.Text.size:Int) - p0.Sure)∧p0.Sure+Qa2 p1 0 ((p0.Text.size:Int) - p0.Sure)≤(p0.Text.size:Int):=by omega
  generalize p0.Sure+Qa2 p1 0 ((p0.Text.size:Int) - p0.Sure)=z at hz0 ⊢
  have hz:((cutS p0.Text 0 z.toNat).size:Int)=z:=by
   unfold cutS
   rw[ByteArray.size_extract]
   omega
  rw[hz]
theorem Qym (p0:Disk) (p1:Int): ∀ n v i,Qdo p0 p1 n v i=Qdi p0 p1 n v i:=by
 intro n
 induction n with
 | zero=>intro v i;rw[Qdo,Qdi,Qyl,Ykh]
 | succ n ih=>intro v i;rw[Qdo,Qdi,ih]
theorem Q9c (p0:Disk) (p1:Int):Qg2 p0 p1=Qgf p0 p1:=by
 unfold Qg2 Qgf
 rw[Ymb,Ykh,Qo9,Qym]
theorem Q82 (k:Kernel):Qb0 k=Qdb k:=by
 unfold Qb0 Qdb
 rw[Q9c,Qoj,Yea]
end
section
open IntKind (i64)
open Go.RowKit
theorem Qd6 {s hi:Int} (h:0≤s∧s≤hi) (hh:hi≤2305843009213693952):0≤i64.wrap (s+1)∧i64.wrap (s+1)≤hi+1:=by
 rw[IntWalk.i64_in (s+1) ⟨by omega,by omega⟩]
 omega
theorem Yb7 {α:Type} [Inhabited α] {xs:List α} {i:Nat} {x:α} (h:i<xs.length):nth (xs.set i x) i=x:=by
 simp[nth,List.getD_eq_getElem?_getD,h]
theorem Qnt {α:Type} [Inhabited α] {xs:List α} {i j:Nat} {x:α} (h:i≠j):nth (xs.set i x) j=nth xs j:=by
 simp[nth,List.getD_eq_getElem?_getD,List.getElem?_set_ne h]
def Qk9 {α:Type} (f:Int→α):Nat→Nat→Int→List α→List α×Int
 | 0,_,s,y=>(y,s)
 | n+1,i,s,y=>Qk9 f n (i+1) (i64.wrap (s+1)) (y.set i (f s))
def Yic {α:Type} [Inhabited α] [DecidableEq α] (f:Int→α) (z:List α):Nat→Nat→Int→Int
 | 0,_,s=>s
 | n+1,i,s=>if(!decide (nth z i=f s))=true then(-1) else Yic f z n (i+1) (i64.wrap (s+1))
theorem Yb9 {α:Type} {f:Int→α}: ∀ (n i:Nat) (s:Int) (y:List α),(Qk9 f n i s y).1.length=y.length:=by
 intro n
 induction n with
 | zero=>intro i s y;rfl
 | succ n ih=>intro i s y;rw[Qk9,ih,List.length_set]
theorem Ydn {α:Type} [Inhabited α] {f:Int→α}: ∀ (n i:Nat) (s:Int) (y:List α) (j:Nat),j<i→nth (Qk9 f n i s y).1 j=nth y j:=by
 intro n
 induction n with
 | zero=>intro i s y j _;rfl
 | succ n ih=>intro i s y j hj;rw[Qk9,ih _ _ _ _ (by omega),Qnt (by omega)]
theorem Q72 {α:Type} {f:Int→α}: ∀ (n i:Nat) (s:Int) (y:List α),0≤s→s+n≤1152921504606846976→0≤(Qk9 f n i s y).2∧(Qk9 f n i s y).2≤s+n:=by
 intro n
 induction n with
 | zero=>intro i s y h0 h1;exact⟨h0,by simp[Qk9]⟩
 | succ n ih =>
  intro i s y h0 h1
  have hw:=Qd6 (s:=s) (hi:=s) ⟨h0,by omega⟩ (by omega)
  have:=ih (i+1) (i64.wrap (s+1)) (y.set i (f s)) hw.1 (by omega)
  rw[Qk9]
  exact⟨this.1,by omega⟩
theorem Ydt {α:Type} [Inhabited α] [DecidableEq α] {f:Int→α}: ∀ (n i:Nat) (s:Int) (y:List α),i+n≤y.length→Yic f (Qk9 f n i s y).1 n i s=(Qk9 f n i s y).2:=by
 intro n
 induction n with
 | zero=>intro i s y _;rfl
 | succ n ih =>
  intro i s y h
  rw[Yic,Qk9]
  have e:nth (Qk9 f n (i+1) (i64.wrap (s+1)) (y.set i (f s))).1 i=f s:=by
   rw[Ydn _ _ _ _ _ (by omega),Yb7 (by omega)]
  rw[e]
  simp only[decide_true,Bool.not_true,Bool.false_eq_true,if_false]
  exact ih (i+1) _ _ (by rw[List.length_set];omega)
theorem Yds {α:Type} [Inhabited α] [DecidableEq α] {f:Int→α} {y:List α} (hy:y.length≤1099511627776):
  Yic f (Qk9 f (y.length - 0) 0 1 y).1 ((Qk9 f (y.length - 0) 0 1 y).1.length - 0) 0 1=(Qk9 f (y.length - 0) 0 1 y).2∧0≤(Qk9 f (y.length - 0) 0 1 y).2:=by
 rw[Yb9]
 exact⟨Ydt _ _ _ _ (by omega),(Q72 _ _ _ _ (by decide) (by omega)).1⟩
theorem Qiu (p0:List ByteArray) (p1:Int): ∀ n i s y,Qeh p0 p1 n i s y=Qk9 (fun s=>Qae s) n i s y:=by
 intro n
 induction n with
 | zero=>intro i s y;rfl
 | succ n ih=>intro i s y;rw[Qeh,Qk9,ih]
theorem Qmv (p0:List ByteArray) (p1:Int): ∀ n i s,Qei p0 p1 n i s=Yic (fun s=>Qae s) p0 n i s:=by
 intro n
 induction n with
 | zero=>intro i s;rfl
 | succ n ih=>intro i s;rw[Qei,Yic,ih]
theorem Ql6 {y:List ByteArray} (hy:y.length≤1099511627776):Qdm (Qad y 1).1 1=(Qad y 1).2∧0≤(Qad y 1).2:=by
 unfold Qdm Qad
 rw[Qiu,Qmv]
 exact Yds hy
theorem Qn5 (p0:List Call) (p1:Int): ∀ (n i:Nat) (s:Int) (y:List Call),0≤s→s+6*n≤1152921504606846976→0≤(Qdx p0 p1 n i s y).2∧(Qdx p0 p1 n i s y).2≤s+6*n:=by
 intro n
 induction n with
 | zero=>intro i s y h0 h1;exact⟨h0,by simp[Qdx]⟩
 | succ n ih =>
  intro i s y h0 h1
  have hw:=(Qd6 (Qd6 (Qd6 (Qd6 (Qd6 (Qd6 (show 0≤s∧s≤s from⟨h0,Int.le_refl _⟩) (by omega)) (by omega)) (by omega)) (by omega)) (by omega)) (by omega))
  rw[Qdx]
  have h2:=fun Y=>ih (i+1) _ Y hw.1 (by omega)
  exact⟨(h2 _).1,Int.le_trans (h2 _).2 (by omega)⟩
theorem Qrf {p0:List Call} {p1:Int} (h0:0≤p1) (h1:p1≤576460752303423488) (hl:p0.length≤1048576):0≤(Qaf p0 p1).2∧(Qaf p0 p1).2≤p1+6291456:=by
 unfold Qaf
 have:=Qn5 p0 p1 (p0.length - 0) 0 p1 p0 h0 (by omega)
 exact⟨this.1,by omega⟩
theorem Qmu (p0:List Answer) (p1:Int): ∀ (n i:Nat) (s:Int) (y:List Answer),0≤s→s+3*n≤1152921504606846976→0≤(Qcy p0 p1 n i s y).2∧(Qcy p0 p1 n i s y).2≤s+3*n:=by
 intro n
 induction n with
 | zero=>intro i s y h0 h1;exact⟨h0,by simp[Qcy]⟩
 | succ n ih =>
  intro i s y h0 h1
  have hw:=(Qd6 (Qd6 (Qd6 (show 0≤s∧s≤s from⟨h0,Int.le_refl _⟩) (by omega)) (by omega)) (by omega))
  rw[Qcy]
  have h2:=fun Y=>ih (i+1) _ Y hw.1 (by omega)
  exact⟨(h2 _).1,Int.le_trans (h2 _).2 (by omega)⟩
theorem Qkf {p0:List Answer} {p1:Int} (h0:0≤p1) (h1:p1≤576460752303423488) (hl:p0.length≤1048576):0≤(Qac p0 p1).2∧(Qac p0 p1).2≤p1+3145728:=by
 unfold Qac
 have:=Qmu p0 p1 (p0.length - 0) 0 p1 p0 h0 (by omega)
 exact⟨this.1,by omega⟩
theorem Qn4 (p0:List Cell) (p1:Int): ∀ (n i:Nat) (s:Int) (y:List Cell),0≤s→s+2*n≤1152921504606846976→0≤(Qdw p0 p1 n i s y).2∧(Qdw p0 p1 n i s y).2≤s+2*n:=by
 intro n
 induction n with
 | zero=>intro i s y h0 h1;exact⟨h0,by simp[Qdw]⟩
 | succ n ih =>
  intro i s y h0 h1
  have hw:=(Qd6 (Qd6 (show 0≤s∧s≤s from⟨h0,Int.le_refl _⟩) (by omega)) (by omega))
  rw[Qdw]
  have h2:=fun Y=>ih (i+1) _ Y hw.1 (by omega)
  exact⟨(h2 _).1,Int.le_trans (h2 _).2 (by omega)⟩
theorem Qlq {p0:List Cell} {p1:Int} (h0:0≤p1) (h1:p1≤576460752303423488) (hl:p0.length≤1048576):0≤(Qas p0 p1).2∧(Qas p0 p1).2≤p1+2097152:=by
 unfold Qas
 have:=Qn4 p0 p1 (p0.length - 0) 0 p1 p0 h0 (by omega)
 exact⟨this.1,by omega⟩
theorem Qn2 (p0:List Step) (p1:Int): ∀ (n i:Nat) (s:Int) (y:List Step),0≤s→s+7*n≤1152921504606846976→0≤(Qdv p0 p1 n i s y).2∧(Qdv p0 p1 n i s y).2≤s+7*n:=by
 intro n
 induction n with
 | zero=>intro i s y h0 h1;exact⟨h0,by simp[Qdv]⟩
 | succ n ih =>
  intro i s y h0 h1
  have hw:=(Qd6 (Qd6 (Qd6 (Qd6 (Qd6 (Qd6 (Qd6 (show 0≤s∧s≤s from⟨h0,Int.le_refl _⟩) (by omega)) (by omega)) (by omega)) (by omega)) (by omega)) (by omega)) (by omega))
  rw[Qdv]
  have h2:=fun Y=>ih (i+1) _ Y hw.1 (by omega)
  exact⟨(h2 _).1,Int.le_trans (h2 _).2 (by omega)⟩
theorem Qrd {p0:List Step} {p1:Int} (h0:0≤p1) (h1:p1≤576460752303423488) (hl:p0.length≤1048576):0≤(Qaj p0 p1).2∧(Qaj p0 p1).2≤p1+7340032:=by
 unfold Qaj
 have:=Qn2 p0 p1 (p0.length - 0) 0 p1 p0 h0 (by omega)
 exact⟨this.1,by omega⟩
theorem Qhz {p0:List ByteArray} {p1:Int} (h0:0≤p1) (h1:p1≤576460752303423488) (hl:p0.length≤1048576):0≤(Qad p0 p1).2∧(Qad p0 p1).2≤p1+1048576:=by
 unfold Qad
 rw[Qiu]
 have:=Q72 (f:=fun s=>Qae s) (p0.length - 0) 0 p1 p0 h0 (by omega)
 exact⟨this.1,by omega⟩
theorem Qo2 (p0:List Int) (p1:Int): ∀ n i s y,Qfr p0 p1 n i s y=Qk9 (fun s=>s) n i s y:=by
 intro n
 induction n with
 | zero=>intro i s y;rfl
 | succ n ih=>intro i s y;rw[Qfr,Qk9,ih]
theorem Qxy {p0:List Int} {p1:Int} (h0:0≤p1) (h1:p1≤576460752303423488) (hl:p0.length≤1048576):0≤(Qbg p0 p1).2∧(Qbg p0 p1).2≤p1+1048576:=by
 unfold Qbg
 rw[Qo2]
 have:=Q72 (f:=fun s=>s) (p0.length - 0) 0 p1 p0 h0 (by omega)
 exact⟨this.1,by omega⟩
theorem Qp1 (p0:List Tx) (p1:Int) (hs:Dat.small 1048576 p0): ∀ (n i:Nat) (s:Int) (y:List Tx),n=p0.length - i→y.length=p0.length→(∀ j,i≤j→nth y j=nth p0 j)→0≤s→s+12582917*n≤288230376151711744→
  0≤(Qfm p0 p1 n i s y).2∧(Qfm p0 p1 n i s y).2≤s+12582917*n:=by
 intro n
 induction n with
 | zero=>intro i s y _ _ _ h0 _;exact⟨h0,by show s≤s+12582917*((0:Nat):Int);omega⟩
 | succ n ih =>
  intro i s y hn hy he h0 h1
  have hw0:=(Qd6 (Qd6 (Qd6 (Qd6 (show 0≤s∧s≤s from⟨h0,Int.le_refl _⟩) (by omega)) (by omega)) (by omega)) (by omega))
  have hsm:Dat.small 1048576 (nth p0 i):=Qcs hs (by omega)
  have e:=he i (Nat.le_refl _)
  have hl0:(nth y i).Calls.length≤1048576:=by rw[e];exact hsm.2.2.2.2.1.1
  have hw1:=Qrf (p0:=(nth y i).Calls) hw0.1 (by omega) hl0
  have hl1:(nth y i).Answers.length≤1048576:=by rw[e];exact hsm.2.2.2.2.2.1.1
  have hw2:=Qkf (p0:=(nth y i).Answers) hw1.1 (by omega) hl1
  have hl2:(nth y i).Touch.Reads.length≤1048576:=by rw[e];exact hsm.2.2.2.2.2.2.1.1.1
  have hw3:=Qhz (p0:=(nth y i).Touch.Reads) hw2.1 (by omega) hl2
  have hl3:(nth y i).Touch.Writes.length≤1048576:=by rw[e];exact hsm.2.2.2.2.2.2.1.2.1
  have hw4:=Qhz (p0:=(nth y i).Touch.Writes) hw3.1 (by omega) hl3
  have hl4:(nth y i).Marks.length≤1048576:=by rw[e];exact hsm.2.2.2.2.2.2.2.1.1
  have hw5:=Qxy (p0:=(nth y i).Marks) hw4.1 (by omega) hl4
  have hz:=(Qd6 (hi:=s+12582916) ⟨hw5.1,by omega⟩ (by omega))
  rw[Qfm]
  refine(ih (i+1) _ _ (by omega) (by rw[List.length_set];exact hy) (fun j hj=>?_) hz.1 (by omega)).imp id fun h=>Int.le_trans h (by omega)
  rw[Qnt (by omega)]
  exact he j (by omega)
theorem Qzf {p0:List Tx} {p1:Int} (hs:Dat.small 1048576 p0) (h0:0≤p1) (h1:p1≤100000000000000):0≤(Qc8 p0 p1).2∧(Qc8 p0 p1).2≤p1+13194144776192:=by
 have hl:p0.length≤1048576:=hs.1
 unfold Qc8
 have:=Qp1 p0 p1 hs _ 0 p1 p0 rfl rfl (fun _ _=>rfl) h0 (by omega)
 exact⟨this.1,by omega⟩
theorem Qna (p0:List Entry) (p1:Int) (hs:Dat.small 1048576 p0): ∀ (n i:Nat) (s:Int) (y:List Entry),n=p0.length - i→y.length=p0.length→(∀ j,i≤j→nth y j=nth p0 j)→0≤s→s+10485766*n≤288230376151711744→
  0≤(Qd2 p0 p1 n i s y).2∧(Qd2 p0 p1 n i s y).2≤s+10485766*n:=by
 intro n
 induction n with
 | zero=>intro i s y _ _ _ h0 _;exact⟨h0,by show s≤s+10485766*((0:Nat):Int);omega⟩
 | succ n ih =>
  intro i s y hn hy he h0 h1
  have hw0:=(Qd6 (Qd6 (Qd6 (show 0≤s∧s≤s from⟨h0,Int.le_refl _⟩) (by omega)) (by omega)) (by omega))
  have hsm:Dat.small 1048576 (nth p0 i):=Qcs hs (by omega)
  have e:=he i (Nat.le_refl _)
  have hl0:(nth y i).Steps.length≤1048576:=by rw[e];exact hsm.2.2.2.1.1
  have hw1:=Qrd (p0:=(nth y i).Steps) hw0.1 (by omega) hl0
  have hl1:(nth y i).Answers.length≤1048576:=by rw[e];exact hsm.2.2.2.2.1.1
  have hw2:=Qkf (p0:=(nth y i).Answers) hw1.1 (by omega) hl1
  have hz:=(Qd6 (hi:=s+10485763+1+1) (Qd6 (hi:=s+10485763+1) (Qd6 (hi:=s+10485763) ⟨hw2.1,by omega⟩ (by omega)) (by omega)) (by omega))
  rw[Qd2]
  refine(ih (i+1) _ _ (by omega) (by rw[List.length_set];exact hy) (fun j hj=>?_) hz.1 (by omega)).imp id fun h=>Int.le_trans h (by omega)
  rw[Qnt (by omega)]
  exact he j (by omega)
theorem Qp2 {p0:List Entry} {p1:Int} (hs:Dat.small 1048576 p0) (h0:0≤p1) (h1:p1≤100000000000000):0≤(Qc0 p0 p1).2∧(Qc0 p0 p1).2≤p1+10995122569216:=by
 have hl:p0.length≤1048576:=hs.1
 unfold Qc0
 have:=Qna p0 p1 hs _ 0 p1 p0 rfl rfl (fun _ _=>rfl) h0 (by omega)
 exact⟨this.1,by omega⟩
theorem Qn3 (p0:List Slot) (p1:Int) (hs:Dat.small 1048576 p0): ∀ (n i:Nat) (s:Int) (y:List Slot),n=p0.length - i→y.length=p0.length→(∀ j,i≤j→nth y j=nth p0 j)→0≤s→s+2097154*n≤288230376151711744→
  0≤(Qem p0 p1 n i s y).2∧(Qem p0 p1 n i s y).2≤s+2097154*n:=by
 intro n
 induction n with
 | zero=>intro i s y _ _ _ h0 _;exact⟨h0,by show s≤s+2097154*((0:Nat):Int);omega⟩
 | succ n ih =>
  intro i s y hn hy he h0 h1
  have hw0:=(Qd6 (show 0≤s∧s≤s from⟨h0,Int.le_refl _⟩) (by omega))
  have hsm:Dat.small 1048576 (nth p0 i):=Qcs hs (by omega)
  have e:=he i (Nat.le_refl _)
  have hl0:(nth y i).Cells.length≤1048576:=by rw[e];exact hsm.2.1.1
  have hw1:=Qlq (p0:=(nth y i).Cells) hw0.1 (by omega) hl0
  have hz:=(Qd6 (hi:=s+2097153) ⟨hw1.1,by omega⟩ (by omega))
  rw[Qem]
  refine(ih (i+1) _ _ (by omega) (by rw[List.length_set];exact hy) (fun j hj=>?_) hz.1 (by omega)).imp id fun h=>Int.le_trans h (by omega)
  rw[Qnt (by omega)]
  exact he j (by omega)
theorem Qre {p0:List Slot} {p1:Int} (hs:Dat.small 1048576 p0) (h0:0≤p1) (h1:p1≤100000000000000):0≤(Qdl p0 p1).2∧(Qdl p0 p1).2≤p1+2199025352704:=by
 have hl:p0.length≤1048576:=hs.1
 unfold Qdl
 have:=Qn3 p0 p1 hs _ 0 p1 p0 rfl rfl (fun _ _=>rfl) h0 (by omega)
 exact⟨this.1,by omega⟩
end
section
open Go.RowKit
theorem Q88 (p0:List Cell): ∀ n v i,(Qd9 p0 n v i).length≤v.length+n:=by
 intro n
 induction n with
 | zero=>intro v i;exact Nat.le_refl _
 | succ n ih =>
  intro v i
  rw[Qd9]
  refine Nat.le_trans (ih _ _) ?_
  rw[List.length_append,List.length_singleton]
  omega
theorem Yc3 (k:Kernel):(Qdb k).length≤1048576:=by
 unfold Qdb Qiw
 have h:=Qj7 (Qdp (Qa1 ((Qep (Qgf k.Disk 0)).1) ⟨#[100,47,110]⟩)) (c:=40) (by decide)
 refine Nat.le_trans (Q88 _ _ _ _) ?_
 simp only[List.length_nil]
 omega
end
section
open Go.RowKit
theorem Qo1 {k:Kernel} (hs:Dat.small 1048576 k):0≤Qfn k 1:=by
 have s0:Dat.small 1048576 k.Store:=hs.1
 have s1:Dat.small 1048576 k.Txs:=hs.2.1
 have s2:Dat.small 1048576 k.Disk.Slots:=hs.2.2.1.1
 have s3:Dat.small 1048576 k.History:=hs.2.2.2.2.2.2.1
 have s4:k.Seen.length≤1048576:=hs.2.2.2.2.2.2.2.1.1
 unfold Qfn Qgz
 have h1:=Qlq (p0:=k.Store) (p1:=1) (by decide) (by decide) s0.1
 have h2:=Qzf (p1:=(Qas k.Store 1).2) s1 h1.1 (by omega)
 have h3:=Qre (p1:=(Qc8 k.Txs (Qas k.Store 1).2).2) s2 h2.1 (by omega)
 have h4:=Qp2 (p1:=(Qdl k.Disk.Slots (Qc8 k.Txs (Qas k.Store 1).2).2).2) s3 h3.1 (by omega)
 exact(Qhz (p0:=k.Seen) h4.1 (by omega) s4).1
end
section
open Go.RowKit
theorem Q9b {P:Program} {W:World} {H:Type} {enc:TypeId×Value→H} {sp:Nat→Bool} {b:Bool} {fuel t g:Nat} {x:List MemPlace} {cs:Array Value} {nm nm2:String} {d:DataW H} {ms:Array (String×TypeId)}
  (hg:P.globalNamed nm=some g) (hu:P.underlying t=some (.interface ms)) (hv:W.var? P nm=some cs) (hd:DataW.trod enc P W 0 sp b fuel t cs.toList=some (.iface nm2 d,x)):GE g W:=by
 have key: ∃ u v,cs.toList=[.iface u v]:=by
  cases fuel with
  | zero=>simp[DataW.trod] at hd
  | succ n =>
   generalize cs.toList=l at hd ⊢
   rcases l with _ | ⟨c,_ | ⟨c2,r⟩⟩
   ·simp[DataW.trod,hu] at hd
   ·cases c<;>first | exact⟨_,_,rfl⟩ | simp[DataW.trod,hu] at hd
   ·simp[DataW.trod,hu] at hd
 obtain⟨u,v,e⟩:=key
 obtain⟨T,fr,h⟩:=Yms hg hv e
 refine⟨u,v,?_⟩
 simp[World.cell?,h]
end
end Go.Proofs.YtppialklomgajaaGreatDoor.Fw
