/-
  The texts X5, X6, VP, VR, PS, PT, X1, Sy11, X2, X3, X4, X8, X9, XB, XC, Y1, Y2, XA, Y3, HZ, HP of this proof, one behind the other: what each proves stands at its head. No condition.
-/
import Derived.Lib.ShelfFacts
import Derived.Test.YtppialklomgajaaGreatDoorFTA
import Derived.Test.YtppialklomgajaaGreatDoorFTB
import Derived.Test.YtppialklomgajaaGreatDoorFTC
import Derived.Test.YtppialklomgajaaGreatDoorFTD
set_option linter.unusedVariables false
set_option linter.unusedSimpArgs false
set_option maxRecDepth 100000
namespace Go.Proofs.YtppialklomgajaaGreatDoor.Fw
open Go.RowKit
open IntKind (i64)
open List (length_append length_nil length_cons length_take length_set)
section
theorem Q8m:FnOk Tryz.prog 189:=⟨_,Tryz.func189,rfl,by kernel_rfl⟩
theorem Ycd:FnOk Tryz.prog 190:=⟨_,Tryz.func190,rfl,by kernel_rfl⟩
theorem Yi9:FnOk Tryz.prog 232:=⟨_,Tryz.func232,rfl,by kernel_rfl⟩
theorem Qwd:FnOk Tryz.prog 258:=⟨_,Tryz.func258,rfl,by kernel_rfl⟩
theorem Yfa:FnOk Tryz.prog 259:=⟨_,Tryz.func259,rfl,by kernel_rfl⟩
theorem Yiu:FnOk Tryz.prog 260:=⟨_,Tryz.func260,rfl,by kernel_rfl⟩
def Qbg (p0:List Call):(List Call):=(([]:List Call)++p0)
theorem Qdx (p0:List Call) (hb:p0.length≤1073741824):CTs 258 [.o (.sl Call instDatCall p0)] [Re.sl Call instDatCall (Qbg p0)]:=by
 refine en Tryz.func258 Tryz.ntmps258 fun w hG hgd=>?_
 obtain⟨hg_p0,_⟩:=hgd
 have hl_p0:p0.length≤9223372036854775807:=hg_p0.1
 have hM:=Qbg.eq_1 p0
 refine ad 8 ?_
 refine ox nl fun nb1 hnb1=>?_
 refine ad 1 ?_
 refine cd (fun h2=>?_) (fun h2=>?_)
 ·
  obtain rfl:p0=[]:=hnb1 h2
  have hM:Qbg []=[]:=rfl
  refine ad 4 ?_
  exact rz (rs:=[.tmp 2]) (congrArg (fun x=>[Re.sl Call instDatCall x]) hM)
 ·
  refine ad 3 ?_
  refine op (l0) ?_
  refine ad 1 ?_
  refine li 1 (d:=instDatCall) ([]:List Call) ?_
  refine op (aS (dα:=instDatCall) (e:=149) (by':=72) ([]:List Call) p0 [1] (hb:=by(try simp only[List.length_append,List.length_cons,List.length_nil]);first | omega | exact om) (hm:=by(try simp only[List.length_append,List.length_cons,List.length_nil]);first | omega | exact om)) ?_
  refine ad 2 ?_
  exact rz (rs:=[.tmp 2]) (congrArg (fun x=>[Re.sl Call instDatCall x]) hM)
def Qfy (p0:List Int):(List Int):=(([]:List Int)++p0)
theorem Qna (p0:List Int) (hb:p0.length≤1073741824):CTs 259 [.o (.sl Int instDatInt p0)] [Re.sl Int instDatInt (Qfy p0)]:=by
 refine en Tryz.func259 Tryz.ntmps259 fun w hG hgd=>?_
 obtain⟨hg_p0,_⟩:=hgd
 have hl_p0:p0.length≤9223372036854775807:=hg_p0.1
 have hM:=Qfy.eq_1 p0
 refine ad 8 ?_
 refine ox nl fun nb1 hnb1=>?_
 refine ad 1 ?_
 refine cd (fun h2=>?_) (fun h2=>?_)
 ·
  obtain rfl:p0=[]:=hnb1 h2
  have hM:Qfy []=[]:=rfl
  refine ad 4 ?_
  exact rz (rs:=[.tmp 2]) (congrArg (fun x=>[Re.sl Int instDatInt x]) hM)
 ·
  refine ad 3 ?_
  refine op (l0) ?_
  refine ad 1 ?_
  refine li 1 (d:=instDatInt) ([]:List Int) ?_
  refine op (aS (dα:=instDatInt) (e:=3) (by':=8) ([]:List Int) p0 [1] (hb:=by(try simp only[List.length_append,List.length_cons,List.length_nil]);first | omega | exact om) (hm:=by(try simp only[List.length_append,List.length_cons,List.length_nil]);first | omega | exact om)) ?_
  refine ad 2 ?_
  exact rz (rs:=[.tmp 2]) (congrArg (fun x=>[Re.sl Int instDatInt x]) hM)
def Qdg (p0:List ByteArray):(List ByteArray):=(([]:List ByteArray)++p0)
theorem Qin (p0:List ByteArray) (hb:p0.length≤1073741824):CTs 190 [.o (.sl ByteArray instDatByteArray p0)] [Re.sl ByteArray instDatByteArray (Qdg p0)]:=by
 refine en Tryz.func190 Tryz.ntmps190 fun w hG hgd=>?_
 obtain⟨hg_p0,_⟩:=hgd
 have hl_p0:p0.length≤9223372036854775807:=hg_p0.1
 have hM:=Qdg.eq_1 p0
 refine ad 8 ?_
 refine ox nl fun nb1 hnb1=>?_
 refine ad 1 ?_
 refine cd (fun h2=>?_) (fun h2=>?_)
 ·
  obtain rfl:p0=[]:=hnb1 h2
  have hM:Qdg []=[]:=rfl
  refine ad 4 ?_
  exact rz (rs:=[.tmp 2]) (congrArg (fun x=>[Re.sl ByteArray instDatByteArray x]) hM)
 ·
  refine ad 3 ?_
  refine op (l0) ?_
  refine ad 1 ?_
  refine li 1 (d:=instDatByteArray) ([]:List ByteArray) ?_
  refine op (aS (dα:=instDatByteArray) (e:=9) (by':=16) ([]:List ByteArray) p0 [1] (hb:=by(try simp only[List.length_append,List.length_cons,List.length_nil]);first | omega | exact om) (hm:=by(try simp only[List.length_append,List.length_cons,List.length_nil]);first | omega | exact om)) ?_
  refine ad 2 ?_
  exact rz (rs:=[.tmp 2]) (congrArg (fun x=>[Re.sl ByteArray instDatByteArray x]) hM)
def Qja (p0:Touch):Touch:=(Touch.mk (Qdg p0.Reads) (Qdg p0.Writes))
theorem Qtr (p0:Touch) (hs:Dat.small 1048576 p0):CTs 260 [.o (.st Touch _ inferInstance p0)] [Re.st Touch _ inferInstance (Qja p0)]:=by
 refine en Tryz.func260 Tryz.ntmps260 fun w hG hgd=>?_
 obtain⟨hg_p0,_⟩:=hgd
 have hM:=Qja.eq_1 p0
 have hx0:p0.Reads.length≤1048576:=hs.1.1
 have hx1:p0.Writes.length≤1048576:=hs.2.1
 refine ad 6 ?_
 refine ds 8 [1,2,3] fun _ _ _ _ _ hb=>?_
 refine tk [0,1,3,4] ?_
 refine ong 2 [2,3,4] (clg (Qin p0.Reads lv2) Ycd) fun hgq=>?_
 obtain⟨hg1,_⟩:=hgq
 refine ong 5 [3,4,5] (clg (Qin p0.Writes lv2) Ycd) fun hgq=>?_
 obtain⟨hg2,_⟩:=hgq
 refine tk [6] ?_
 refine onS 7 [3,4,5] (OpS.st rfl) ?_
 refine dn hb ?_
 have hg3:Dat.good (Touch.mk (Qdg p0.Reads) (Qdg p0.Writes):Touch):=⟨hg1,hg2⟩
 exact rz (rs:=[.cell 2 117]) (congrArg (fun x=>[Re.st Touch _ inferInstance x]) hM)
def Qiz (p0:Tx):Tx:=(Tx.mk p0.Id p0.Age p0.Proc p0.Began (Qbg p0.Calls) (Qa0 p0.Answers) (Qja p0.Touch) (Qfy p0.Marks) p0.State)
def zT0 (p0:Tx):Nat×En:=(5,.var [.v (.int .i64 p0.Id),.v (.int .i64 p0.Age),.v (.int .i64 p0.Proc),.v (.int .i64 p0.Began),.sl 0 p0.Calls.length,.sl 1 p0.Answers.length,.sl 2 p0.Touch.Reads.length,.sl 3 p0.Touch.Writes.length,.sl 4 p0.Marks.length,.v (.int .i64 p0.State)] 119)
def zT1 (p0:Tx):Nat×En:=(6,.var [.v (.int .i64 0),.v (.int .i64 0),.v (.int .i64 0),.v (.int .i64 0),.v (.slice none 0 0),.v (.slice none 0 0),.v (.slice none 0 0),.v (.slice none 0 0),.v (.slice none 0 0),.v (.int .i64 0)] 119)
def zT2 (p0:Tx):Nat×En:=(3,.ros ByteArray instDatByteArray p0.Touch.Writes)
def zT3 (p0:Tx):Nat×En:=(2,.ros ByteArray instDatByteArray p0.Touch.Reads)
def zT4 (p0:Tx):Nat×V:=(13,.ag [.sl 2 p0.Touch.Reads.length,.sl 3 p0.Touch.Writes.length])
def zT5 (p0:Tx):Nat×En:=(1,.ros Answer instDatAnswer p0.Answers)
def zT6 (p0:Tx):Nat×En:=(0,.ros Call instDatCall p0.Calls)
def zT7 (p0:Tx):Nat×En:=(4,.ros Int instDatInt p0.Marks)
def zT8 (p0:Tx):Nat×En:=(7,.own Call instDatCall (Qbg p0.Calls))
def zT9 (p0:Tx):Nat×V:=(5,.sl 7 ((Qbg p0.Calls).length))
def zT10 (p0:Tx):Nat×En:=(8,.own Answer instDatAnswer (Qa0 p0.Answers))
def zT11 (p0:Tx):Nat×V:=(8,.sl 8 ((Qa0 p0.Answers).length))
theorem Qzc (p0:Tx) (hs:Dat.small 1048576 p0):CTs 232 [.o (.st Tx _ inferInstance p0)] [Re.st Tx _ inferInstance (Qiz p0)]:=by
 refine en Tryz.func232 Tryz.ntmps232 fun w hG hgd=>?_
 obtain⟨hg_p0,_⟩:=hgd
 have hM:=Qiz.eq_1 p0
 have hx0:p0.Calls.length≤1048576:=hs.2.2.2.2.1.1
 have hx1:p0.Answers.length≤1048576:=hs.2.2.2.2.2.1.1
 have hx2:p0.Touch.Reads.length≤1048576:=hs.2.2.2.2.2.2.1.1.1
 have hx3:p0.Touch.Writes.length≤1048576:=hs.2.2.2.2.2.2.1.2.1
 have hx4:p0.Marks.length≤1048576:=hs.2.2.2.2.2.2.2.1.1
 have hstT:Dat.small 1048576 p0.Touch:=hs.2.2.2.2.2.2.1
 refine ad 6 ?_
 refine ds 20 [0,2,3,4,5,6] fun _ _ _ _ _ hb=>?_
 refine tk [0,3,6,9] ?_
 refine Qfv (P:=Dat.good (Qbg p0.Calls:List Call)∧Dat.good (Qa0 p0.Answers:List Answer)∧Dat.good (Qfy p0.Marks:List Int)) 20 8 [0,1,2,3,4,5,6,7,8,9,10,12] ⟨20,10,[(1,.pt 5 0),(2,.pt 6 0),zT9 p0,zT11 p0,(11,.sl 9 ((Qfy p0.Marks).length)),zT4 p0,(15,.pt 5 4)],[(9,.own Int instDatInt (Qfy p0.Marks)),zT10 p0,zT8 p0,zT1 p0,zT0 p0,zT6 p0,zT5 p0,zT3 p0,zT2 p0,zT7 p0]⟩ (by dsimp only[zT9,zT11,zT4,zT10,zT8,zT1,zT0,zT6,zT5,zT3,zT2,zT7]) ?_ fun r1=>?_
 ·
  rintro ⟨hg2,hg3,hg4⟩
  have hg5:Dat.good (p0.Touch:Touch):=hg_p0.2.2.2.2.2.2.1
  refine ong 11 [5,7,8,9,10,11] (clg (Qtr p0.Touch (by first | assumption | exact hstT)) Yiu) fun hgq=>?_
  obtain⟨hg6,_⟩:=hgq
  refine on 13 [5,7,8,9,10,11] (OpS.st rfl) ?_
  refine tk [14] ?_
  refine on 15 [5,7,8,9,10,11] (OpS.st rfl) ?_
  refine tk [16] ?_
  refine on 17 [5,7,8,9,10,11] (OpS.st rfl) ?_
  refine tk [18] ?_
  refine on 19 [5,7,8,9,10,11] (OpS.st rfl) ?_
  refine dn hb ?_
  refine ad 5 ?_
  have hg7:Dat.good (Tx.mk p0.Id p0.Age p0.Proc p0.Began (Qbg p0.Calls) (Qa0 p0.Answers) (Qja p0.Touch) (Qfy p0.Marks) p0.State:Tx):=⟨hg_p0.1,hg_p0.2.1,hg_p0.2.2.1,hg_p0.2.2.2.1,hg2,hg3,hg6,hg4,hg_p0.2.2.2.2.2.2.2.2⟩
  exact rz (rs:=[.cell 2 119]) (congrArg (fun x=>[Re.st Tx _ inferInstance x]) hM)
 refine Qfv (P:=Dat.good (Qbg p0.Calls:List Call)∧Dat.good (Qa0 p0.Answers:List Answer)) 20 9 [0,1,2,3,4,5,6,7,9,10,12] ⟨20,9,[(1,.pt 5 0),(2,.pt 6 0),zT9 p0,zT11 p0,(10,.sl 4 p0.Marks.length),zT4 p0,(15,.pt 5 4)],[zT10 p0,zT8 p0,zT1 p0,zT0 p0,zT6 p0,zT5 p0,zT3 p0,zT2 p0,zT7 p0]⟩ (by dsimp only[zT9,zT11,zT4,zT10,zT8,zT1,zT0,zT6,zT5,zT3,zT2,zT7]) ?_ fun r8=>?_
 ·
  rintro ⟨hg9,hg10⟩
  refine ong 8 [3,5,6,7,8,9] (clg (Qna p0.Marks lv2) Yfa) fun hgq=>?_
  obtain⟨hg11,_⟩:=hgq
  exact dAt [0,1,2,3,4,5,6,7,8,9] [0,1,2,3,4,5,6,7,8,9] [] (r1 ⟨hg9,hg10,hg11⟩) (hs:=su) (hM:=trivial)
 refine Qfv (P:=Dat.good (Qbg p0.Calls:List Call)) 20 10 [0,1,2,3,4,6,7,9,10,12] ⟨20,8,[(1,.pt 5 0),(2,.pt 6 0),zT9 p0,(7,.sl 1 p0.Answers.length),(10,.sl 4 p0.Marks.length),zT4 p0,(15,.pt 5 4)],[zT8 p0,zT1 p0,zT0 p0,zT6 p0,zT5 p0,zT3 p0,zT2 p0,zT7 p0]⟩ (by dsimp only[zT9,zT4,zT8,zT1,zT0,zT6,zT5,zT3,zT2,zT7]) ?_ fun r12=>?_
 ·
  intro hg13
  refine ong 5 [2,4,5,6,7,8] (clg (Qbf p0.Answers lv2) Qm8) fun hgq=>?_
  obtain⟨hg14,_⟩:=hgq
  exact dAt [0,1,2,3,4,5,6,7,8] [0,1,2,3,4,5,6,7,8] [] (r8 ⟨hg13,hg14⟩) (hs:=su) (hM:=trivial)
 refine Qfv (P:=Dat.good (Qbg p0.Calls:List Call)∧Dat.good (Qa0 p0.Answers:List Answer)) 20 11 [0,1,2,3,4,5,6,7,9] ⟨20,9,[(1,.pt 5 0),(2,.pt 6 0),zT9 p0,zT11 p0,(10,.sl 4 p0.Marks.length),(12,.pt 5 6)],[zT10 p0,zT8 p0,zT1 p0,zT0 p0,zT6 p0,zT5 p0,zT3 p0,zT2 p0,zT7 p0]⟩ (by dsimp only[zT9,zT11,zT10,zT8,zT1,zT0,zT6,zT5,zT3,zT2,zT7]) ?_ fun r15=>?_
 ·
  rintro ⟨hg16,hg17⟩
  refine oL [8,10] (d2 ?_ (d2 ?_ d0))
  ·
   refine ong1 8 [3,5,6,7,8,9] (clg (Qna p0.Marks lv2) Yfa) fun hgq=>?_
   obtain⟨hg18,_⟩:=hgq
   refine on 10 [3,5,6,7,8,9] (OpS.st rfl) ?_
   refine tk [12] ?_
   exact dAt [0,1,2,3,4,5,6,7,8,9] [0,1,2,3,4,5,6,7,8,9] [] (r1 ⟨hg16,hg17,hg18⟩) (hs:=su) (hM:=trivial)
  ·
   refine on1 10 [2,4,5,6,7,8] (OpS.st rfl) ?_
   refine tk [12] ?_
   exact dAt [0,1,2,3,4,5,6,7,8] [0,1,2,3,4,5,6,7,8] [] (r8 ⟨hg16,hg17⟩) (hs:=su) (hM:=trivial)
 refine Qfv (P:=Dat.good (Qbg p0.Calls:List Call)∧Dat.good (Qa0 p0.Answers:List Answer)) 20 11 [0,1,2,3,4,5,6,9,10] ⟨20,9,[(1,.pt 5 0),(2,.pt 6 0),zT9 p0,zT11 p0,(9,.pt 5 8),zT4 p0],[zT10 p0,zT8 p0,zT1 p0,zT0 p0,zT6 p0,zT5 p0,zT3 p0,zT2 p0,zT7 p0]⟩ (by dsimp only[zT9,zT11,zT4,zT10,zT8,zT1,zT0,zT6,zT5,zT3,zT2,zT7]) ?_ fun r19=>?_
 ·
  rintro ⟨hg20,hg21⟩
  refine on 7 [2,4,5,6,7,8] (OpS.st rfl) ?_
  refine tk [12] ?_
  exact dAt [0,1,2,3,4,5,6,7,8] [0,1,2,3,4,5,6,7,8] [] (r8 ⟨hg20,hg21⟩) (hs:=su) (hM:=trivial)
 refine Qfv (P:=Dat.good (Qbg p0.Calls:List Call)) 20 12 [0,1,2,3,4,6,7,9] ⟨20,8,[(1,.pt 5 0),(2,.pt 6 0),zT9 p0,(7,.sl 1 p0.Answers.length),(10,.sl 4 p0.Marks.length),(12,.pt 5 6)],[zT8 p0,zT1 p0,zT0 p0,zT6 p0,zT5 p0,zT3 p0,zT2 p0,zT7 p0]⟩ (by dsimp only[zT9,zT8,zT1,zT0,zT6,zT5,zT3,zT2,zT7]) ?_ fun r22=>?_
 ·
  intro hg23
  refine oL [5,10] (d2 ?_ (d2 ?_ d0))
  ·
   refine ong1 5 [2,4,5,6,7,8] (clg (Qbf p0.Answers lv2) Qm8) fun hgq=>?_
   obtain⟨hg24,_⟩:=hgq
   exact dAt [0,1,2,3,4,5,6,7,8] [0,1,2,3,4,5,6,7,8] [] (r15 ⟨hg23,hg24⟩) (hs:=su) (hM:=trivial)
  ·
   refine on1 10 [1,3,4,5,6,7] (OpS.st rfl) ?_
   refine tk [12] ?_
   exact dAt [0,1,2,3,4,5,6,7] [0,1,2,3,4,5,6,7] [] (r12 hg23) (hs:=su) (hM:=trivial)
 refine Qfv (P:=Dat.good (Qbg p0.Calls:List Call)) 20 12 [0,1,2,3,4,6,9,10] ⟨20,8,[(1,.pt 5 0),(2,.pt 6 0),zT9 p0,(7,.sl 1 p0.Answers.length),(9,.pt 5 8),zT4 p0],[zT8 p0,zT1 p0,zT0 p0,zT6 p0,zT5 p0,zT3 p0,zT2 p0,zT7 p0]⟩ (by dsimp only[zT9,zT4,zT8,zT1,zT0,zT6,zT5,zT3,zT2,zT7]) ?_ fun r25=>?_
 ·
  intro hg26
  refine oL [5,7] (d2 ?_ (d2 ?_ d0))
  ·
   refine ong1 5 [2,4,5,6,7,8] (clg (Qbf p0.Answers lv2) Qm8) fun hgq=>?_
   obtain⟨hg27,_⟩:=hgq
   exact dAt [0,1,2,3,4,5,6,7,8] [0,1,2,3,4,5,6,7,8] [] (r19 ⟨hg26,hg27⟩) (hs:=su) (hM:=trivial)
  ·
   refine on1 7 [1,3,4,5,6,7] (OpS.st rfl) ?_
   refine tk [12] ?_
   exact dAt [0,1,2,3,4,5,6,7] [0,1,2,3,4,5,6,7] [] (r12 hg26) (hs:=su) (hM:=trivial)
 refine Qfv (P:=Dat.good (Qbg p0.Calls:List Call)) 20 12 [0,1,2,3,6,7,9,10] ⟨20,8,[(1,.pt 5 0),(2,.pt 6 0),zT9 p0,(6,.pt 5 5),(10,.sl 4 p0.Marks.length),zT4 p0],[zT8 p0,zT1 p0,zT0 p0,zT6 p0,zT5 p0,zT3 p0,zT2 p0,zT7 p0]⟩ (by dsimp only[zT9,zT4,zT8,zT1,zT0,zT6,zT5,zT3,zT2,zT7]) ?_ fun r28=>?_
 ·
  intro hg29
  refine on 4 [1,3,4,5,6,7] (OpS.st rfl) ?_
  refine tk [12] ?_
  exact dAt [0,1,2,3,4,5,6,7] [0,1,2,3,4,5,6,7] [] (r12 hg29) (hs:=su) (hM:=trivial)
 refine Qfv (P:=True) 20 12 [0,1,3,4,6,7,9,10] ⟨20,7,[(1,.pt 5 0),(2,.pt 6 0),(4,.sl 0 p0.Calls.length),(7,.sl 1 p0.Answers.length),(10,.sl 4 p0.Marks.length),zT4 p0],[zT1 p0,zT0 p0,zT6 p0,zT5 p0,zT3 p0,zT2 p0,zT7 p0]⟩ (by dsimp only[zT4,zT1,zT0,zT6,zT5,zT3,zT2,zT7]) ?_ fun r30=>?_
 ·
  intro _
  refine ong 2 [1,3,4,5,6,7] (clg (Qdx p0.Calls lv2) Qwd) fun hgq=>?_
  obtain⟨hg31,_⟩:=hgq
  refine tk [12] ?_
  exact dAt [0,1,2,3,4,5,6,7] [0,1,2,3,4,5,6,7] [] (r12 hg31) (hs:=su) (hM:=trivial)
 refine Qfv (P:=Dat.good (Qbg p0.Calls:List Call)) 20 13 [0,1,2,3,4,6,9] ⟨20,8,[(1,.pt 5 0),(2,.pt 6 0),zT9 p0,(7,.sl 1 p0.Answers.length),(9,.pt 5 8),(12,.pt 5 6)],[zT8 p0,zT1 p0,zT0 p0,zT6 p0,zT5 p0,zT3 p0,zT2 p0,zT7 p0]⟩ (by dsimp only[zT9,zT8,zT1,zT0,zT6,zT5,zT3,zT2,zT7]) ?_ fun r32=>?_
 ·
  intro hg33
  refine oL [5,7,10] (d2 ?_ (d2 ?_ (d2 ?_ d0)))
  ·
   refine ong1 5 [2,4,5,6,7,8] (clg (Qbf p0.Answers lv2) Qm8) fun hgq=>?_
   obtain⟨hg34,_⟩:=hgq
   refine oL [7,10] (d2 ?_ (d2 ?_ d0))
   ·
    refine on1 7 [2,4,5,6,7,8] (OpS.st rfl) ?_
    exact dAt [0,1,2,3,4,5,6,7,8] [0,1,2,3,4,5,6,7,8] [] (r15 ⟨hg33,hg34⟩) (hs:=su) (hM:=trivial)
   ·
    refine on1 10 [2,4,5,6,7,8] (OpS.st rfl) ?_
    exact dAt [0,1,2,3,4,5,6,7,8] [0,1,2,3,4,5,6,7,8] [] (r19 ⟨hg33,hg34⟩) (hs:=su) (hM:=trivial)
  ·
   refine on1 7 [1,3,4,5,6,7] (OpS.st rfl) ?_
   exact dAt [0,1,2,3,4,5,6,7] [0,1,2,3,4,5,6,7] [] (r22 hg33) (hs:=su) (hM:=trivial)
  ·
   refine on1 10 [1,3,4,5,6,7] (OpS.st rfl) ?_
   exact dAt [0,1,2,3,4,5,6,7] [0,1,2,3,4,5,6,7] [] (r25 hg33) (hs:=su) (hM:=trivial)
 refine Qfv (P:=Dat.good (Qbg p0.Calls:List Call)) 20 13 [0,1,2,3,6,7,9] ⟨20,8,[(1,.pt 5 0),(2,.pt 6 0),zT9 p0,(6,.pt 5 5),(10,.sl 4 p0.Marks.length),(12,.pt 5 6)],[zT8 p0,zT1 p0,zT0 p0,zT6 p0,zT5 p0,zT3 p0,zT2 p0,zT7 p0]⟩ (by dsimp only[zT9,zT8,zT1,zT0,zT6,zT5,zT3,zT2,zT7]) ?_ fun r35=>?_
 ·
  intro hg36
  refine oL [4,10] (d2 ?_ (d2 ?_ d0))
  ·
   refine on1 4 [1,3,4,5,6,7] (OpS.st rfl) ?_
   exact dAt [0,1,2,3,4,5,6,7] [0,1,2,3,4,5,6,7] [] (r22 hg36) (hs:=su) (hM:=trivial)
  ·
   refine on1 10 [1,3,4,5,6,7] (OpS.st rfl) ?_
   exact dAt [0,1,2,3,4,5,6,7] [0,1,2,3,4,5,6,7] [] (r28 hg36) (hs:=su) (hM:=trivial)
 refine Qfv (P:=Dat.good (Qbg p0.Calls:List Call)) 20 13 [0,1,2,3,6,9,10] ⟨20,8,[(1,.pt 5 0),(2,.pt 6 0),zT9 p0,(6,.pt 5 5),(9,.pt 5 8),zT4 p0],[zT8 p0,zT1 p0,zT0 p0,zT6 p0,zT5 p0,zT3 p0,zT2 p0,zT7 p0]⟩ (by dsimp only[zT9,zT4,zT8,zT1,zT0,zT6,zT5,zT3,zT2,zT7]) ?_ fun r37=>?_
 ·
  intro hg38
  refine oL [4,7] (d2 ?_ (d2 ?_ d0))
  ·
   refine on1 4 [1,3,4,5,6,7] (OpS.st rfl) ?_
   exact dAt [0,1,2,3,4,5,6,7] [0,1,2,3,4,5,6,7] [] (r25 hg38) (hs:=su) (hM:=trivial)
  ·
   refine on1 7 [1,3,4,5,6,7] (OpS.st rfl) ?_
   exact dAt [0,1,2,3,4,5,6,7] [0,1,2,3,4,5,6,7] [] (r28 hg38) (hs:=su) (hM:=trivial)
 refine Qfv (P:=True) 20 13 [0,1,3,4,6,7,9] ⟨20,7,[(1,.pt 5 0),(2,.pt 6 0),(4,.sl 0 p0.Calls.length),(7,.sl 1 p0.Answers.length),(10,.sl 4 p0.Marks.length),(12,.pt 5 6)],[zT1 p0,zT0 p0,zT6 p0,zT5 p0,zT3 p0,zT2 p0,zT7 p0]⟩ (by dsimp only[zT1,zT0,zT6,zT5,zT3,zT2,zT7]) ?_ fun r39=>?_
 ·
  intro _
  refine oL [2,10] (d2 ?_ (d2 ?_ d0))
  ·
   refine ong1 2 [1,3,4,5,6,7] (clg (Qdx p0.Calls lv2) Qwd) fun hgq=>?_
   obtain⟨hg40,_⟩:=hgq
   exact dAt [0,1,2,3,4,5,6,7] [0,1,2,3,4,5,6,7] [] (r22 hg40) (hs:=su) (hM:=trivial)
  ·
   refine on1 10 [0,2,3,4,5,6] (OpS.st rfl) ?_
   exact dAt [0,1,2,3,4,5,6] [0,1,2,3,4,5,6] [] (r30 trivial) (hs:=su) (hM:=trivial)
 refine Qfv (P:=True) 20 13 [0,1,3,4,6,9,10] ⟨20,7,[(1,.pt 5 0),(2,.pt 6 0),(4,.sl 0 p0.Calls.length),(7,.sl 1 p0.Answers.length),(9,.pt 5 8),zT4 p0],[zT1 p0,zT0 p0,zT6 p0,zT5 p0,zT3 p0,zT2 p0,zT7 p0]⟩ (by dsimp only[zT4,zT1,zT0,zT6,zT5,zT3,zT2,zT7]) ?_ fun r41=>?_
 ·
  intro _
  refine oL [2,7] (d2 ?_ (d2 ?_ d0))
  ·
   refine ong1 2 [1,3,4,5,6,7] (clg (Qdx p0.Calls lv2) Qwd) fun hgq=>?_
   obtain⟨hg42,_⟩:=hgq
   exact dAt [0,1,2,3,4,5,6,7] [0,1,2,3,4,5,6,7] [] (r25 hg42) (hs:=su) (hM:=trivial)
  ·
   refine on1 7 [0,2,3,4,5,6] (OpS.st rfl) ?_
   exact dAt [0,1,2,3,4,5,6] [0,1,2,3,4,5,6] [] (r30 trivial) (hs:=su) (hM:=trivial)
 refine Qfv (P:=True) 20 13 [0,1,3,6,7,9,10] ⟨20,7,[(1,.pt 5 0),(2,.pt 6 0),(4,.sl 0 p0.Calls.length),(6,.pt 5 5),(10,.sl 4 p0.Marks.length),zT4 p0],[zT1 p0,zT0 p0,zT6 p0,zT5 p0,zT3 p0,zT2 p0,zT7 p0]⟩ (by dsimp only[zT4,zT1,zT0,zT6,zT5,zT3,zT2,zT7]) ?_ fun r43=>?_
 ·
  intro _
  refine oL [2,4] (d2 ?_ (d2 ?_ d0))
  ·
   refine ong1 2 [1,3,4,5,6,7] (clg (Qdx p0.Calls lv2) Qwd) fun hgq=>?_
   obtain⟨hg44,_⟩:=hgq
   exact dAt [0,1,2,3,4,5,6,7] [0,1,2,3,4,5,6,7] [] (r28 hg44) (hs:=su) (hM:=trivial)
  ·
   refine on1 4 [0,2,3,4,5,6] (OpS.st rfl) ?_
   exact dAt [0,1,2,3,4,5,6] [0,1,2,3,4,5,6] [] (r30 trivial) (hs:=su) (hM:=trivial)
 refine Qfv (P:=True) 20 13 [0,3,4,6,7,9,10] ⟨20,7,[(1,.pt 5 0),(2,.pt 6 0),(3,.pt 5 4),(7,.sl 1 p0.Answers.length),(10,.sl 4 p0.Marks.length),zT4 p0],[zT1 p0,zT0 p0,zT6 p0,zT5 p0,zT3 p0,zT2 p0,zT7 p0]⟩ (by dsimp only[zT4,zT1,zT0,zT6,zT5,zT3,zT2,zT7]) ?_ fun r45=>?_
 ·
  intro _
  refine on 1 [0,2,3,4,5,6] (OpS.st rfl) ?_
  exact dAt [0,1,2,3,4,5,6] [0,1,2,3,4,5,6] [] (r30 trivial) (hs:=su) (hM:=trivial)
 refine Qfv (P:=True) 20 14 [0,1,3,4,6,9] ⟨20,7,[(1,.pt 5 0),(2,.pt 6 0),(4,.sl 0 p0.Calls.length),(7,.sl 1 p0.Answers.length),(9,.pt 5 8),(12,.pt 5 6)],[zT1 p0,zT0 p0,zT6 p0,zT5 p0,zT3 p0,zT2 p0,zT7 p0]⟩ (by dsimp only[zT1,zT0,zT6,zT5,zT3,zT2,zT7]) ?_ fun r46=>?_
 ·
  intro _
  refine oL [2,7,10] (d2 ?_ (d2 ?_ (d2 ?_ d0)))
  ·
   refine ong1 2 [1,3,4,5,6,7] (clg (Qdx p0.Calls lv2) Qwd) fun hgq=>?_
   obtain⟨hg47,_⟩:=hgq
   exact dAt [0,1,2,3,4,5,6,7] [0,1,2,3,4,5,6,7] [] (r32 hg47) (hs:=su) (hM:=trivial)
  ·
   refine on1 7 [0,2,3,4,5,6] (OpS.st rfl) ?_
   exact dAt [0,1,2,3,4,5,6] [0,1,2,3,4,5,6] [] (r39 trivial) (hs:=su) (hM:=trivial)
  ·
   refine on1 10 [0,2,3,4,5,6] (OpS.st rfl) ?_
   exact dAt [0,1,2,3,4,5,6] [0,1,2,3,4,5,6] [] (r41 trivial) (hs:=su) (hM:=trivial)
 refine Qfv (P:=True) 20 14 [0,1,3,6,7,9] ⟨20,7,[(1,.pt 5 0),(2,.pt 6 0),(4,.sl 0 p0.Calls.length),(6,.pt 5 5),(10,.sl 4 p0.Marks.length),(12,.pt 5 6)],[zT1 p0,zT0 p0,zT6 p0,zT5 p0,zT3 p0,zT2 p0,zT7 p0]⟩ (by dsimp only[zT1,zT0,zT6,zT5,zT3,zT2,zT7]) ?_ fun r48=>?_
 ·
  intro _
  refine oL [2,4,10] (d2 ?_ (d2 ?_ (d2 ?_ d0)))
  ·
   refine ong1 2 [1,3,4,5,6,7] (clg (Qdx p0.Calls lv2) Qwd) fun hgq=>?_
   obtain⟨hg49,_⟩:=hgq
   exact dAt [0,1,2,3,4,5,6,7] [0,1,2,3,4,5,6,7] [] (r35 hg49) (hs:=su) (hM:=trivial)
  ·
   refine on1 4 [0,2,3,4,5,6] (OpS.st rfl) ?_
   exact dAt [0,1,2,3,4,5,6] [0,1,2,3,4,5,6] [] (r39 trivial) (hs:=su) (hM:=trivial)
  ·
   refine on1 10 [0,2,3,4,5,6] (OpS.st rfl) ?_
   exact dAt [0,1,2,3,4,5,6] [0,1,2,3,4,5,6] [] (r43 trivial) (hs:=su) (hM:=trivial)
 refine Qfv (P:=True) 20 14 [0,1,3,6,9,10] ⟨20,7,[(1,.pt 5 0),(2,.pt 6 0),(4,.sl 0 p0.Calls.length),(6,.pt 5 5),(9,.pt 5 8),zT4 p0],[zT1 p0,zT0 p0,zT6 p0,zT5 p0,zT3 p0,zT2 p0,zT7 p0]⟩ (by dsimp only[zT4,zT1,zT0,zT6,zT5,zT3,zT2,zT7]) ?_ fun r50=>?_
 ·
  intro _
  refine oL [2,4,7] (d2 ?_ (d2 ?_ (d2 ?_ d0)))
  ·
   refine ong1 2 [1,3,4,5,6,7] (clg (Qdx p0.Calls lv2) Qwd) fun hgq=>?_
   obtain⟨hg51,_⟩:=hgq
   exact dAt [0,1,2,3,4,5,6,7] [0,1,2,3,4,5,6,7] [] (r37 hg51) (hs:=su) (hM:=trivial)
  ·
   refine on1 4 [0,2,3,4,5,6] (OpS.st rfl) ?_
   exact dAt [0,1,2,3,4,5,6] [0,1,2,3,4,5,6] [] (r41 trivial) (hs:=su) (hM:=trivial)
  ·
   refine on1 7 [0,2,3,4,5,6] (OpS.st rfl) ?_
   exact dAt [0,1,2,3,4,5,6] [0,1,2,3,4,5,6] [] (r43 trivial) (hs:=su) (hM:=trivial)
 refine Qfv (P:=True) 20 14 [0,3,4,6,7,9] ⟨20,7,[(1,.pt 5 0),(2,.pt 6 0),(3,.pt 5 4),(7,.sl 1 p0.Answers.length),(10,.sl 4 p0.Marks.length),(12,.pt 5 6)],[zT1 p0,zT0 p0,zT6 p0,zT5 p0,zT3 p0,zT2 p0,zT7 p0]⟩ (by dsimp only[zT1,zT0,zT6,zT5,zT3,zT2,zT7]) ?_ fun r52=>?_
 ·
  intro _
  refine oL [1,10] (d2 ?_ (d2 ?_ d0))
  ·
   refine on1 1 [0,2,3,4,5,6] (OpS.st rfl) ?_
   exact dAt [0,1,2,3,4,5,6] [0,1,2,3,4,5,6] [] (r39 trivial) (hs:=su) (hM:=trivial)
  ·
   refine on1 10 [0,2,3,4,5,6] (OpS.st rfl) ?_
   exact dAt [0,1,2,3,4,5,6] [0,1,2,3,4,5,6] [] (r45 trivial) (hs:=su) (hM:=trivial)
 refine Qfv (P:=True) 20 14 [0,3,4,6,9,10] ⟨20,7,[(1,.pt 5 0),(2,.pt 6 0),(3,.pt 5 4),(7,.sl 1 p0.Answers.length),(9,.pt 5 8),zT4 p0],[zT1 p0,zT0 p0,zT6 p0,zT5 p0,zT3 p0,zT2 p0,zT7 p0]⟩ (by dsimp only[zT4,zT1,zT0,zT6,zT5,zT3,zT2,zT7]) ?_ fun r53=>?_
 ·
  intro _
  refine oL [1,7] (d2 ?_ (d2 ?_ d0))
  ·
   refine on1 1 [0,2,3,4,5,6] (OpS.st rfl) ?_
   exact dAt [0,1,2,3,4,5,6] [0,1,2,3,4,5,6] [] (r41 trivial) (hs:=su) (hM:=trivial)
  ·
   refine on1 7 [0,2,3,4,5,6] (OpS.st rfl) ?_
   exact dAt [0,1,2,3,4,5,6] [0,1,2,3,4,5,6] [] (r45 trivial) (hs:=su) (hM:=trivial)
 refine Qfv (P:=True) 20 14 [0,3,6,7,9,10] ⟨20,7,[(1,.pt 5 0),(2,.pt 6 0),(3,.pt 5 4),(6,.pt 5 5),(10,.sl 4 p0.Marks.length),zT4 p0],[zT1 p0,zT0 p0,zT6 p0,zT5 p0,zT3 p0,zT2 p0,zT7 p0]⟩ (by dsimp only[zT4,zT1,zT0,zT6,zT5,zT3,zT2,zT7]) ?_ fun r54=>?_
 ·
  intro _
  refine oL [1,4] (d2 ?_ (d2 ?_ d0))
  ·
   refine on1 1 [0,2,3,4,5,6] (OpS.st rfl) ?_
   exact dAt [0,1,2,3,4,5,6] [0,1,2,3,4,5,6] [] (r43 trivial) (hs:=su) (hM:=trivial)
  ·
   refine on1 4 [0,2,3,4,5,6] (OpS.st rfl) ?_
   exact dAt [0,1,2,3,4,5,6] [0,1,2,3,4,5,6] [] (r45 trivial) (hs:=su) (hM:=trivial)
 refine oL [1,4,7,10] (d2 ?_ (d2 ?_ (d2 ?_ (d2 ?_ d0))))
 ·
  refine on1 1 [0,2,3,4,5,6] (OpS.st rfl) ?_
  refine oL [2,4,7,10] (d2 ?_ (d2 ?_ (d2 ?_ (d2 ?_ d0))))
  ·
   refine ong1 2 [1,3,4,5,6,7] (clg (Qdx p0.Calls lv2) Qwd) fun hgq=>?_
   obtain⟨hg55,_⟩:=hgq
   refine oL [4,7,10] (d2 ?_ (d2 ?_ (d2 ?_ d0)))
   ·
    refine on1 4 [1,3,4,5,6,7] (OpS.st rfl) ?_
    exact dAt [0,1,2,3,4,5,6,7] [0,1,2,3,4,5,6,7] [] (r32 hg55) (hs:=su) (hM:=trivial)
   ·
    refine on1 7 [1,3,4,5,6,7] (OpS.st rfl) ?_
    exact dAt [0,1,2,3,4,5,6,7] [0,1,2,3,4,5,6,7] [] (r35 hg55) (hs:=su) (hM:=trivial)
   ·
    refine on1 10 [1,3,4,5,6,7] (OpS.st rfl) ?_
    exact dAt [0,1,2,3,4,5,6,7] [0,1,2,3,4,5,6,7] [] (r37 hg55) (hs:=su) (hM:=trivial)
  ·
   refine on1 4 [0,2,3,4,5,6] (OpS.st rfl) ?_
   exact dAt [0,1,2,3,4,5,6] [0,1,2,3,4,5,6] [] (r46 trivial) (hs:=su) (hM:=trivial)
  ·
   refine on1 7 [0,2,3,4,5,6] (OpS.st rfl) ?_
   exact dAt [0,1,2,3,4,5,6] [0,1,2,3,4,5,6] [] (r48 trivial) (hs:=su) (hM:=trivial)
  ·
   refine on1 10 [0,2,3,4,5,6] (OpS.st rfl) ?_
   exact dAt [0,1,2,3,4,5,6] [0,1,2,3,4,5,6] [] (r50 trivial) (hs:=su) (hM:=trivial)
 ·
  refine on1 4 [0,2,3,4,5,6] (OpS.st rfl) ?_
  refine oL [1,7,10] (d2 ?_ (d2 ?_ (d2 ?_ d0)))
  ·
   refine on1 1 [0,2,3,4,5,6] (OpS.st rfl) ?_
   exact dAt [0,1,2,3,4,5,6] [0,1,2,3,4,5,6] [] (r46 trivial) (hs:=su) (hM:=trivial)
  ·
   refine on1 7 [0,2,3,4,5,6] (OpS.st rfl) ?_
   exact dAt [0,1,2,3,4,5,6] [0,1,2,3,4,5,6] [] (r52 trivial) (hs:=su) (hM:=trivial)
  ·
   refine on1 10 [0,2,3,4,5,6] (OpS.st rfl) ?_
   exact dAt [0,1,2,3,4,5,6] [0,1,2,3,4,5,6] [] (r53 trivial) (hs:=su) (hM:=trivial)
 ·
  refine on1 7 [0,2,3,4,5,6] (OpS.st rfl) ?_
  refine oL [1,4,10] (d2 ?_ (d2 ?_ (d2 ?_ d0)))
  ·
   refine on1 1 [0,2,3,4,5,6] (OpS.st rfl) ?_
   exact dAt [0,1,2,3,4,5,6] [0,1,2,3,4,5,6] [] (r48 trivial) (hs:=su) (hM:=trivial)
  ·
   refine on1 4 [0,2,3,4,5,6] (OpS.st rfl) ?_
   exact dAt [0,1,2,3,4,5,6] [0,1,2,3,4,5,6] [] (r52 trivial) (hs:=su) (hM:=trivial)
  ·
   refine on1 10 [0,2,3,4,5,6] (OpS.st rfl) ?_
   exact dAt [0,1,2,3,4,5,6] [0,1,2,3,4,5,6] [] (r54 trivial) (hs:=su) (hM:=trivial)
 ·
  refine on1 10 [0,2,3,4,5,6] (OpS.st rfl) ?_
  refine oL [1,4,7] (d2 ?_ (d2 ?_ (d2 ?_ d0)))
  ·
   refine on1 1 [0,2,3,4,5,6] (OpS.st rfl) ?_
   exact dAt [0,1,2,3,4,5,6] [0,1,2,3,4,5,6] [] (r50 trivial) (hs:=su) (hM:=trivial)
  ·
   refine on1 4 [0,2,3,4,5,6] (OpS.st rfl) ?_
   exact dAt [0,1,2,3,4,5,6] [0,1,2,3,4,5,6] [] (r53 trivial) (hs:=su) (hM:=trivial)
  ·
   refine on1 7 [0,2,3,4,5,6] (OpS.st rfl) ?_
   exact dAt [0,1,2,3,4,5,6] [0,1,2,3,4,5,6] [] (r54 trivial) (hs:=su) (hM:=trivial)
def Qel (p0:List Tx):Nat→(List Tx)→Nat→(List Tx)
 | 0,v3,i=>v3
 | n+1,v3,i=>Qel p0 n (v3++[(Qiz (nth p0 i))]) (i+1)
def Qgc (p0:List Tx):(List Tx):=Qel p0 (p0.length - 0) [] 0
theorem Qkz (p0:List Tx) (hs:Dat.small 1048576 p0):CTs 189 [.o (.sl Tx instDatTx p0)] [Re.sl Tx instDatTx (Qgc p0)]:=by
 refine en Tryz.func189 Tryz.ntmps189 fun w hG hgd=>?_
 obtain⟨hg_p0,_⟩:=hgd
 have hl_p0:p0.length≤9223372036854775807:=hg_p0.1
 have hM:=Qgc.eq_1 p0
 have hs1:p0.length≤1048576:=hs.1
 refine ad 16 ?_
 refine Run.nil 3 (α:=Tx) (d:=instDatTx) rfl ?_
 refine Run.loopM (ι:=(List Tx)×Nat) (fun s=>Qel p0 (p0.length - s.2) s.1 s.2) (fun s=>⟨19,2,[(3,.sl 1 s.1.length),(6,.sl 0 p0.length),(7,.v (.int .i64 (p0.length:Int))),(8,.v (.int .i64 (s.2:Int)))],[(0,.ros Tx instDatTx p0),(1,.own Tx instDatTx s.1)]⟩) (fun s=>s.2≤p0.length∧s.1.length≤s.2) (fun s=>p0.length - s.2) ([],0) [0,1] [1,0] hM (by exact⟨by(try dsimp only);omega,by simp⟩) su (by decide) ?_
 rintro ⟨v3,i⟩ hv hE
 try dsimp only at hE
 obtain⟨hi,hv0⟩:=hv
 try dsimp only at hi hv0
 refine ad 5 ?_
 refine cd (fun h1=>?_) (fun h1=>?_)
 ·
  have h1l:i<p0.length:=dtl h1
  have hM:=hE.trans ((congrArg (fun n=>Qel p0 n v3 i) (sb1 h1l)).trans (Qel.eq_2 _ _ _ _))
  have hstX:=Qcv hs (k:=i) (by omega)
  refine ad 5 ?_
  have hg3:=Qai (k:=i) hg_p0 om
  refine op (ix (xs:=p0) i om) ?_
  refine ad 7 ?_
  have hg4:Dat.good (nth p0 i:Tx):=hg3
  refine og (clg (Qzc (nth p0 i) (by first | assumption | exact hstX)) Yi9) fun hgq=>?_
  obtain⟨hg5,_⟩:=hgq
  refine ad 1 ?_
  refine op (aN (e:=119) (by':=160) v3 (Qiz (nth p0 i)) [1] (hg:=hg5) (hb:=by(try simp only[List.length_cons,List.length_nil]);first | omega | exact om) (hm:=by(try simp only[List.length_cons,List.length_nil]);first | omega | exact om)) ?_
  refine ad 5 ?_
  rw[Qb3 (i:=i) om]
  refine ad 2 ?_
  exact Run.again ((v3++[(Qiz (nth p0 i))]),(i+1)) [0,15] [9,0] ⟨by exact⟨by(try dsimp only);omega,by(try dsimp only);(try simp only[length_append,length_cons,length_nil]);omega⟩,hM⟩ rfl lv1 su (by decide)
 ·
  have h1l: ¬ (i<p0.length):=dfl h1
  have hM:=hE.trans ((congrArg (fun n=>Qel p0 n v3 i) (sb0 h1l)).trans (Qel.eq_1 _ _ _))
  refine ad 6 ?_
  exact rz (rs:=[.tmp 2]) (congrArg (fun x=>[Re.sl Tx instDatTx x]) hM)
def Qaf (p0:Kernel):Kernel:=(Kernel.mk (Qas p0.Store) (Qgc p0.Txs) (Qam p0.Disk) p0.Seq p0.Next p0.Time (Qh0 p0.History) (Qdg p0.Seen) p0.Room)
def zK0 (p0:Kernel):Nat×En:=(5,.var [.sl 0 p0.Store.length,.sl 1 p0.Txs.length,.sl 2 p0.Disk.Slots.length,.v (.string p0.Disk.Journal.Text),.v (.int .i64 p0.Disk.Journal.Sure),.v (.int .i64 p0.Seq),.v (.int .i64 p0.Next),.v (.int .i64 p0.Time),.sl 3 p0.History.length,.sl 4 p0.Seen.length,.v (.bool p0.Room)] 43)
def zK1 (p0:Kernel):Nat×En:=(6,.var [.v (.slice none 0 0),.v (.slice none 0 0),.v (.slice none 0 0),.v (.string ⟨#[]⟩),.v (.int .i64 0),.v (.int .i64 0),.v (.int .i64 0),.v (.int .i64 0),.v (.slice none 0 0),.v (.slice none 0 0),.v (.bool false)] 43)
def zK2 (p0:Kernel):Nat×V:=(10,.ag [.sl 2 p0.Disk.Slots.length,.v (.string p0.Disk.Journal.Text),.v (.int .i64 p0.Disk.Journal.Sure)])
def zK3 (p0:Kernel):Nat×En:=(4,.ros ByteArray instDatByteArray p0.Seen)
def zK4 (p0:Kernel):Nat×En:=(2,.ros Slot instDatSlot p0.Disk.Slots)
def zK5 (p0:Kernel):Nat×En:=(3,.ros Entry instDatEntry p0.History)
def zK6 (p0:Kernel):Nat×En:=(0,.ros Cell instDatCell p0.Store)
def zK7 (p0:Kernel):Nat×En:=(7,.own Cell instDatCell (Qas p0.Store))
def zK8 (p0:Kernel):Nat×V:=(5,.sl 7 ((Qas p0.Store).length))
def zK9 (p0:Kernel):Nat×En:=(8,.own Tx instDatTx (Qgc p0.Txs))
def zK10 (p0:Kernel):Nat×V:=(8,.sl 8 ((Qgc p0.Txs).length))
theorem Qr9 (p0:Kernel) (hs:KSm p0):CTs 130 [.o (.st Kernel _ inferInstance p0)] [Re.st Kernel _ inferInstance (Qaf p0)]:=by
 refine en Tryz.func130 Tryz.ntmps130 fun w hG hgd=>?_
 obtain⟨hg_p0,_⟩:=hgd
 have hM:=Qaf.eq_1 p0
 have hk0:p0.Store.length≤1073741824:=hs.1
 have hk1:p0.Seen.length≤1048576:=hs.2.2.2.2
 have hsmX:Dat.small 1048576 p0.Txs:=hs.2.1
 have hsmH:Dat.small 1048576 p0.History:=hs.2.2.2.1
 have hk2:p0.History.length≤1048576:=hsmH.1
 have hsmD:Dat.small 1048576 p0.Disk:=hs.2.2.1
 refine ad 6 ?_
 refine ds 20 [0,2,3,4,5,6] fun _ _ _ _ _ hb=>?_
 refine tk [0,3,6,9] ?_
 refine Qfv (P:=Dat.good (Qas p0.Store:List Cell)∧Dat.good (Qgc p0.Txs:List Tx)∧Dat.good (p0.Disk:Disk)∧Dat.good (Qam p0.Disk:Disk)) 20 8 [0,1,2,3,4,5,6,7,8,9,10,12] ⟨24,10,[(1,.pt 5 0),(2,.pt 6 0),zK8 p0,zK10 p0,(11,.ag [.sl 9 ((Qam p0.Disk).Slots.length),.v (.string ((Qam p0.Disk).Journal.Text)),.v (.int .i64 ((Qam p0.Disk).Journal.Sure))]),(13,.sl 4 p0.Seen.length),(15,.pt 5 0)],[(9,.own Slot instDatSlot ((Qam p0.Disk).Slots)),zK9 p0,zK7 p0,zK1 p0,zK0 p0,zK6 p0,(1,.ros Tx instDatTx p0.Txs),zK4 p0,zK5 p0,zK3 p0]⟩ (by dsimp only[zK8,zK10,zK9,zK7,zK1,zK0,zK6,zK4,zK5,zK3]) ?_ fun r1=>?_
 ·
  rintro ⟨hg2,hg3,hg4,hg5⟩
  refine ong 11 [4,6,7,8,9,10] (clg (Qin p0.Seen lv2) Ycd) fun hgq=>?_
  obtain⟨hg6,_⟩:=hgq
  refine on 13 [4,6,7,8,9,10] (OpS.st rfl) ?_
  refine tk [14] ?_
  refine on 15 [4,6,7,8,9,10] (OpS.st rfl) ?_
  refine tk [16] ?_
  refine on 17 [4,6,7,8,9,10] (OpS.st rfl) ?_
  refine tk [18] ?_
  refine on 19 [4,6,7,8,9,10] (OpS.st rfl) ?_
  refine dn hb ?_
  refine ad 4 ?_
  refine og (clg (Qtq p0.History (by first | assumption | exact hsmH)) Ynf) fun hgq=>?_
  obtain⟨hg7,_⟩:=hgq
  refine ad 8 ?_
  have hg8:Dat.good (Kernel.mk (Qas p0.Store) (Qgc p0.Txs) (Qam p0.Disk) p0.Seq p0.Next p0.Time (Qh0 p0.History) (Qdg p0.Seen) p0.Room:Kernel):=⟨hg2,hg3,hg5,hg_p0.2.2.2.1,hg_p0.2.2.2.2.1,hg_p0.2.2.2.2.2.1,hg7,hg6,hg_p0.2.2.2.2.2.2.2.2⟩
  exact rz (rs:=[.cell 2 43]) (congrArg (fun x=>[Re.st Kernel _ inferInstance x]) hM)
 refine Qfv (P:=Dat.good (Qas p0.Store:List Cell)∧Dat.good (Qgc p0.Txs:List Tx)) 20 9 [0,1,2,3,4,5,6,7,9,10,12] ⟨24,9,[(1,.pt 5 0),(2,.pt 6 0),zK8 p0,zK10 p0,zK2 p0,(13,.sl 4 p0.Seen.length),(15,.pt 5 0)],[zK9 p0,zK7 p0,zK1 p0,zK0 p0,zK6 p0,(1,.ros Tx instDatTx p0.Txs),zK4 p0,zK5 p0,zK3 p0]⟩ (by dsimp only[zK8,zK10,zK2,zK9,zK7,zK1,zK0,zK6,zK4,zK5,zK3]) ?_ fun r9=>?_
 ·
  rintro ⟨hg10,hg11⟩
  have hg12:Dat.good (p0.Disk:Disk):=hg_p0.2.2.1
  refine ong 8 [3,5,6,7,8,9] (clg (Qi0 p0.Disk (by first | assumption | exact hsmD)) Q8n) fun hgq=>?_
  obtain⟨hg13,_⟩:=hgq
  exact dAt [0,1,2,3,4,5,6,7,8,9] [0,1,2,3,4,5,6,7,8,9] [] (r1 ⟨hg10,hg11,hg12,hg13⟩) (hs:=su) (hM:=trivial)
 refine Qfv (P:=Dat.good (Qas p0.Store:List Cell)) 20 10 [0,1,2,3,4,6,7,9,10,12] ⟨24,8,[(1,.pt 5 0),(2,.pt 6 0),zK8 p0,(7,.sl 1 p0.Txs.length),zK2 p0,(13,.sl 4 p0.Seen.length),(15,.pt 5 0)],[zK7 p0,zK1 p0,zK0 p0,zK6 p0,(1,.ros Tx instDatTx p0.Txs),zK4 p0,zK5 p0,zK3 p0]⟩ (by dsimp only[zK8,zK2,zK7,zK1,zK0,zK6,zK4,zK5,zK3]) ?_ fun r14=>?_
 ·
  intro hg15
  refine ong 5 [2,4,5,6,7,8] (clg (Qkz p0.Txs (by first | assumption | exact hsmX)) Q8m) fun hgq=>?_
  obtain⟨hg16,_⟩:=hgq
  exact dAt [0,1,2,3,4,5,6,7,8] [0,1,2,3,4,5,6,7,8] [] (r9 ⟨hg15,hg16⟩) (hs:=su) (hM:=trivial)
 refine Qfv (P:=Dat.good (Qas p0.Store:List Cell)∧Dat.good (Qgc p0.Txs:List Tx)) 20 11 [0,1,2,3,4,5,6,7,9] ⟨24,9,[(1,.pt 5 0),(2,.pt 6 0),zK8 p0,zK10 p0,zK2 p0,(12,.pt 5 9)],[zK9 p0,zK7 p0,zK1 p0,zK0 p0,zK6 p0,(1,.ros Tx instDatTx p0.Txs),zK4 p0,zK5 p0,zK3 p0]⟩ (by dsimp only[zK8,zK10,zK2,zK9,zK7,zK1,zK0,zK6,zK4,zK5,zK3]) ?_ fun r17=>?_
 ·
  rintro ⟨hg18,hg19⟩
  refine oL [8,10] (d2 ?_ (d2 ?_ d0))
  ·
   have hg20:Dat.good (p0.Disk:Disk):=hg_p0.2.2.1
   refine ong1 8 [3,5,6,7,8,9] (clg (Qi0 p0.Disk (by first | assumption | exact hsmD)) Q8n) fun hgq=>?_
   obtain⟨hg21,_⟩:=hgq
   refine on 10 [3,5,6,7,8,9] (OpS.st rfl) ?_
   refine tk [12] ?_
   exact dAt [0,1,2,3,4,5,6,7,8,9] [0,1,2,3,4,5,6,7,8,9] [] (r1 ⟨hg18,hg19,hg20,hg21⟩) (hs:=su) (hM:=trivial)
  ·
   refine on1 10 [2,4,5,6,7,8] (OpS.st rfl) ?_
   refine tk [12] ?_
   exact dAt [0,1,2,3,4,5,6,7,8] [0,1,2,3,4,5,6,7,8] [] (r9 ⟨hg18,hg19⟩) (hs:=su) (hM:=trivial)
 refine Qfv (P:=Dat.good (Qas p0.Store:List Cell)∧Dat.good (Qgc p0.Txs:List Tx)) 20 11 [0,1,2,3,4,5,6,9,10] ⟨24,9,[(1,.pt 5 0),(2,.pt 6 0),zK8 p0,zK10 p0,(9,.pt 5 2),(13,.sl 4 p0.Seen.length)],[zK9 p0,zK7 p0,zK1 p0,zK0 p0,zK6 p0,(1,.ros Tx instDatTx p0.Txs),zK4 p0,zK5 p0,zK3 p0]⟩ (by dsimp only[zK8,zK10,zK9,zK7,zK1,zK0,zK6,zK4,zK5,zK3]) ?_ fun r22=>?_
 ·
  rintro ⟨hg23,hg24⟩
  refine on 7 [2,4,5,6,7,8] (OpS.st rfl) ?_
  refine tk [12] ?_
  exact dAt [0,1,2,3,4,5,6,7,8] [0,1,2,3,4,5,6,7,8] [] (r9 ⟨hg23,hg24⟩) (hs:=su) (hM:=trivial)
 refine Qfv (P:=Dat.good (Qas p0.Store:List Cell)) 20 12 [0,1,2,3,4,6,7,9] ⟨24,8,[(1,.pt 5 0),(2,.pt 6 0),zK8 p0,(7,.sl 1 p0.Txs.length),zK2 p0,(12,.pt 5 9)],[zK7 p0,zK1 p0,zK0 p0,zK6 p0,(1,.ros Tx instDatTx p0.Txs),zK4 p0,zK5 p0,zK3 p0]⟩ (by dsimp only[zK8,zK2,zK7,zK1,zK0,zK6,zK4,zK5,zK3]) ?_ fun r25=>?_
 ·
  intro hg26
  refine oL [5,10] (d2 ?_ (d2 ?_ d0))
  ·
   refine ong1 5 [2,4,5,6,7,8] (clg (Qkz p0.Txs (by first | assumption | exact hsmX)) Q8m) fun hgq=>?_
   obtain⟨hg27,_⟩:=hgq
   exact dAt [0,1,2,3,4,5,6,7,8] [0,1,2,3,4,5,6,7,8] [] (r17 ⟨hg26,hg27⟩) (hs:=su) (hM:=trivial)
  ·
   refine on1 10 [1,3,4,5,6,7] (OpS.st rfl) ?_
   refine tk [12] ?_
   exact dAt [0,1,2,3,4,5,6,7] [0,1,2,3,4,5,6,7] [] (r14 hg26) (hs:=su) (hM:=trivial)
 refine Qfv (P:=Dat.good (Qas p0.Store:List Cell)) 20 12 [0,1,2,3,4,6,9,10] ⟨24,8,[(1,.pt 5 0),(2,.pt 6 0),zK8 p0,(7,.sl 1 p0.Txs.length),(9,.pt 5 2),(13,.sl 4 p0.Seen.length)],[zK7 p0,zK1 p0,zK0 p0,zK6 p0,(1,.ros Tx instDatTx p0.Txs),zK4 p0,zK5 p0,zK3 p0]⟩ (by dsimp only[zK8,zK7,zK1,zK0,zK6,zK4,zK5,zK3]) ?_ fun r28=>?_
 ·
  intro hg29
  refine oL [5,7] (d2 ?_ (d2 ?_ d0))
  ·
   refine ong1 5 [2,4,5,6,7,8] (clg (Qkz p0.Txs (by first | assumption | exact hsmX)) Q8m) fun hgq=>?_
   obtain⟨hg30,_⟩:=hgq
   exact dAt [0,1,2,3,4,5,6,7,8] [0,1,2,3,4,5,6,7,8] [] (r22 ⟨hg29,hg30⟩) (hs:=su) (hM:=trivial)
  ·
   refine on1 7 [1,3,4,5,6,7] (OpS.st rfl) ?_
   refine tk [12] ?_
   exact dAt [0,1,2,3,4,5,6,7] [0,1,2,3,4,5,6,7] [] (r14 hg29) (hs:=su) (hM:=trivial)
 refine Qfv (P:=Dat.good (Qas p0.Store:List Cell)) 20 12 [0,1,2,3,6,7,9,10] ⟨24,8,[(1,.pt 5 0),(2,.pt 6 0),zK8 p0,(6,.pt 5 1),zK2 p0,(13,.sl 4 p0.Seen.length)],[zK7 p0,zK1 p0,zK0 p0,zK6 p0,(1,.ros Tx instDatTx p0.Txs),zK4 p0,zK5 p0,zK3 p0]⟩ (by dsimp only[zK8,zK2,zK7,zK1,zK0,zK6,zK4,zK5,zK3]) ?_ fun r31=>?_
 ·
  intro hg32
  refine on 4 [1,3,4,5,6,7] (OpS.st rfl) ?_
  refine tk [12] ?_
  exact dAt [0,1,2,3,4,5,6,7] [0,1,2,3,4,5,6,7] [] (r14 hg32) (hs:=su) (hM:=trivial)
 refine Qfv (P:=True) 20 12 [0,1,3,4,6,7,9,10] ⟨24,7,[(1,.pt 5 0),(2,.pt 6 0),(4,.sl 0 p0.Store.length),(7,.sl 1 p0.Txs.length),zK2 p0,(13,.sl 4 p0.Seen.length)],[zK1 p0,zK0 p0,zK6 p0,(1,.ros Tx instDatTx p0.Txs),zK4 p0,zK5 p0,zK3 p0]⟩ (by dsimp only[zK2,zK1,zK0,zK6,zK4,zK5,zK3]) ?_ fun r33=>?_
 ·
  intro _
  refine ong 2 [1,3,4,5,6,7] (clg (Qbn p0.Store lv2) Qtd) fun hgq=>?_
  obtain⟨hg34,_⟩:=hgq
  refine tk [12] ?_
  exact dAt [0,1,2,3,4,5,6,7] [0,1,2,3,4,5,6,7] [] (r14 hg34) (hs:=su) (hM:=trivial)
 refine Qfv (P:=Dat.good (Qas p0.Store:List Cell)) 20 13 [0,1,2,3,4,6,9] ⟨24,8,[(1,.pt 5 0),(2,.pt 6 0),zK8 p0,(7,.sl 1 p0.Txs.length),(9,.pt 5 2),(12,.pt 5 9)],[zK7 p0,zK1 p0,zK0 p0,zK6 p0,(1,.ros Tx instDatTx p0.Txs),zK4 p0,zK5 p0,zK3 p0]⟩ (by dsimp only[zK8,zK7,zK1,zK0,zK6,zK4,zK5,zK3]) ?_ fun r35=>?_
 ·
  intro hg36
  refine oL [5,7,10] (d2 ?_ (d2 ?_ (d2 ?_ d0)))
  ·
   refine ong1 5 [2,4,5,6,7,8] (clg (Qkz p0.Txs (by first | assumption | exact hsmX)) Q8m) fun hgq=>?_
   obtain⟨hg37,_⟩:=hgq
   refine oL [7,10] (d2 ?_ (d2 ?_ d0))
   ·
    refine on1 7 [2,4,5,6,7,8] (OpS.st rfl) ?_
    exact dAt [0,1,2,3,4,5,6,7,8] [0,1,2,3,4,5,6,7,8] [] (r17 ⟨hg36,hg37⟩) (hs:=su) (hM:=trivial)
   ·
    refine on1 10 [2,4,5,6,7,8] (OpS.st rfl) ?_
    exact dAt [0,1,2,3,4,5,6,7,8] [0,1,2,3,4,5,6,7,8] [] (r22 ⟨hg36,hg37⟩) (hs:=su) (hM:=trivial)
  ·
   refine on1 7 [1,3,4,5,6,7] (OpS.st rfl) ?_
   exact dAt [0,1,2,3,4,5,6,7] [0,1,2,3,4,5,6,7] [] (r25 hg36) (hs:=su) (hM:=trivial)
  ·
   refine on1 10 [1,3,4,5,6,7] (OpS.st rfl) ?_
   exact dAt [0,1,2,3,4,5,6,7] [0,1,2,3,4,5,6,7] [] (r28 hg36) (hs:=su) (hM:=trivial)
 refine Qfv (P:=Dat.good (Qas p0.Store:List Cell)) 20 13 [0,1,2,3,6,7,9] ⟨24,8,[(1,.pt 5 0),(2,.pt 6 0),zK8 p0,(6,.pt 5 1),zK2 p0,(12,.pt 5 9)],[zK7 p0,zK1 p0,zK0 p0,zK6 p0,(1,.ros Tx instDatTx p0.Txs),zK4 p0,zK5 p0,zK3 p0]⟩ (by dsimp only[zK8,zK2,zK7,zK1,zK0,zK6,zK4,zK5,zK3]) ?_ fun r38=>?_
 ·
  intro hg39
  refine oL [4,10] (d2 ?_ (d2 ?_ d0))
  ·
   refine on1 4 [1,3,4,5,6,7] (OpS.st rfl) ?_
   exact dAt [0,1,2,3,4,5,6,7] [0,1,2,3,4,5,6,7] [] (r25 hg39) (hs:=su) (hM:=trivial)
  ·
   refine on1 10 [1,3,4,5,6,7] (OpS.st rfl) ?_
   exact dAt [0,1,2,3,4,5,6,7] [0,1,2,3,4,5,6,7] [] (r31 hg39) (hs:=su) (hM:=trivial)
 refine Qfv (P:=Dat.good (Qas p0.Store:List Cell)) 20 13 [0,1,2,3,6,9,10] ⟨24,8,[(1,.pt 5 0),(2,.pt 6 0),zK8 p0,(6,.pt 5 1),(9,.pt 5 2),(13,.sl 4 p0.Seen.length)],[zK7 p0,zK1 p0,zK0 p0,zK6 p0,(1,.ros Tx instDatTx p0.Txs),zK4 p0,zK5 p0,zK3 p0]⟩ (by dsimp only[zK8,zK7,zK1,zK0,zK6,zK4,zK5,zK3]) ?_ fun r40=>?_
 ·
  intro hg41
  refine oL [4,7] (d2 ?_ (d2 ?_ d0))
  ·
   refine on1 4 [1,3,4,5,6,7] (OpS.st rfl) ?_
   exact dAt [0,1,2,3,4,5,6,7] [0,1,2,3,4,5,6,7] [] (r28 hg41) (hs:=su) (hM:=trivial)
  ·
   refine on1 7 [1,3,4,5,6,7] (OpS.st rfl) ?_
   exact dAt [0,1,2,3,4,5,6,7] [0,1,2,3,4,5,6,7] [] (r31 hg41) (hs:=su) (hM:=trivial)
 refine Qfv (P:=True) 20 13 [0,1,3,4,6,7,9] ⟨24,7,[(1,.pt 5 0),(2,.pt 6 0),(4,.sl 0 p0.Store.length),(7,.sl 1 p0.Txs.length),zK2 p0,(12,.pt 5 9)],[zK1 p0,zK0 p0,zK6 p0,(1,.ros Tx instDatTx p0.Txs),zK4 p0,zK5 p0,zK3 p0]⟩ (by dsimp only[zK2,zK1,zK0,zK6,zK4,zK5,zK3]) ?_ fun r42=>?_
 ·
  intro _
  refine oL [2,10] (d2 ?_ (d2 ?_ d0))
  ·
   refine ong1 2 [1,3,4,5,6,7] (clg (Qbn p0.Store lv2) Qtd) fun hgq=>?_
   obtain⟨hg43,_⟩:=hgq
   exact dAt [0,1,2,3,4,5,6,7] [0,1,2,3,4,5,6,7] [] (r25 hg43) (hs:=su) (hM:=trivial)
  ·
   refine on1 10 [0,2,3,4,5,6] (OpS.st rfl) ?_
   exact dAt [0,1,2,3,4,5,6] [0,1,2,3,4,5,6] [] (r33 trivial) (hs:=su) (hM:=trivial)
 refine Qfv (P:=True) 20 13 [0,1,3,4,6,9,10] ⟨24,7,[(1,.pt 5 0),(2,.pt 6 0),(4,.sl 0 p0.Store.length),(7,.sl 1 p0.Txs.length),(9,.pt 5 2),(13,.sl 4 p0.Seen.length)],[zK1 p0,zK0 p0,zK6 p0,(1,.ros Tx instDatTx p0.Txs),zK4 p0,zK5 p0,zK3 p0]⟩ (by dsimp only[zK1,zK0,zK6,zK4,zK5,zK3]) ?_ fun r44=>?_
 ·
  intro _
  refine oL [2,7] (d2 ?_ (d2 ?_ d0))
  ·
   refine ong1 2 [1,3,4,5,6,7] (clg (Qbn p0.Store lv2) Qtd) fun hgq=>?_
   obtain⟨hg45,_⟩:=hgq
   exact dAt [0,1,2,3,4,5,6,7] [0,1,2,3,4,5,6,7] [] (r28 hg45) (hs:=su) (hM:=trivial)
  ·
   refine on1 7 [0,2,3,4,5,6] (OpS.st rfl) ?_
   exact dAt [0,1,2,3,4,5,6] [0,1,2,3,4,5,6] [] (r33 trivial) (hs:=su) (hM:=trivial)
 refine Qfv (P:=True) 20 13 [0,1,3,6,7,9,10] ⟨24,7,[(1,.pt 5 0),(2,.pt 6 0),(4,.sl 0 p0.Store.length),(6,.pt 5 1),zK2 p0,(13,.sl 4 p0.Seen.length)],[zK1 p0,zK0 p0,zK6 p0,(1,.ros Tx instDatTx p0.Txs),zK4 p0,zK5 p0,zK3 p0]⟩ (by dsimp only[zK2,zK1,zK0,zK6,zK4,zK5,zK3]) ?_ fun r46=>?_
 ·
  intro _
  refine oL [2,4] (d2 ?_ (d2 ?_ d0))
  ·
   refine ong1 2 [1,3,4,5,6,7] (clg (Qbn p0.Store lv2) Qtd) fun hgq=>?_
   obtain⟨hg47,_⟩:=hgq
   exact dAt [0,1,2,3,4,5,6,7] [0,1,2,3,4,5,6,7] [] (r31 hg47) (hs:=su) (hM:=trivial)
  ·
   refine on1 4 [0,2,3,4,5,6] (OpS.st rfl) ?_
   exact dAt [0,1,2,3,4,5,6] [0,1,2,3,4,5,6] [] (r33 trivial) (hs:=su) (hM:=trivial)
 refine Qfv (P:=True) 20 13 [0,3,4,6,7,9,10] ⟨24,7,[(1,.pt 5 0),(2,.pt 6 0),(3,.pt 5 0),(7,.sl 1 p0.Txs.length),zK2 p0,(13,.sl 4 p0.Seen.length)],[zK1 p0,zK0 p0,zK6 p0,(1,.ros Tx instDatTx p0.Txs),zK4 p0,zK5 p0,zK3 p0]⟩ (by dsimp only[zK2,zK1,zK0,zK6,zK4,zK5,zK3]) ?_ fun r48=>?_
 ·
  intro _
  refine on 1 [0,2,3,4,5,6] (OpS.st rfl) ?_
  exact dAt [0,1,2,3,4,5,6] [0,1,2,3,4,5,6] [] (r33 trivial) (hs:=su) (hM:=trivial)
 refine Qfv (P:=True) 20 14 [0,1,3,4,6,9] ⟨24,7,[(1,.pt 5 0),(2,.pt 6 0),(4,.sl 0 p0.Store.length),(7,.sl 1 p0.Txs.length),(9,.pt 5 2),(12,.pt 5 9)],[zK1 p0,zK0 p0,zK6 p0,(1,.ros Tx instDatTx p0.Txs),zK4 p0,zK5 p0,zK3 p0]⟩ (by dsimp only[zK1,zK0,zK6,zK4,zK5,zK3]) ?_ fun r49=>?_
 ·
  intro _
  refine oL [2,7,10] (d2 ?_ (d2 ?_ (d2 ?_ d0)))
  ·
   refine ong1 2 [1,3,4,5,6,7] (clg (Qbn p0.Store lv2) Qtd) fun hgq=>?_
   obtain⟨hg50,_⟩:=hgq
   exact dAt [0,1,2,3,4,5,6,7] [0,1,2,3,4,5,6,7] [] (r35 hg50) (hs:=su) (hM:=trivial)
  ·
   refine on1 7 [0,2,3,4,5,6] (OpS.st rfl) ?_
   exact dAt [0,1,2,3,4,5,6] [0,1,2,3,4,5,6] [] (r42 trivial) (hs:=su) (hM:=trivial)
  ·
   refine on1 10 [0,2,3,4,5,6] (OpS.st rfl) ?_
   exact dAt [0,1,2,3,4,5,6] [0,1,2,3,4,5,6] [] (r44 trivial) (hs:=su) (hM:=trivial)
 refine Qfv (P:=True) 20 14 [0,1,3,6,7,9] ⟨24,7,[(1,.pt 5 0),(2,.pt 6 0),(4,.sl 0 p0.Store.length),(6,.pt 5 1),zK2 p0,(12,.pt 5 9)],[zK1 p0,zK0 p0,zK6 p0,(1,.ros Tx instDatTx p0.Txs),zK4 p0,zK5 p0,zK3 p0]⟩ (by dsimp only[zK2,zK1,zK0,zK6,zK4,zK5,zK3]) ?_ fun r51=>?_
 ·
  intro _
  refine oL [2,4,10] (d2 ?_ (d2 ?_ (d2 ?_ d0)))
  ·
   refine ong1 2 [1,3,4,5,6,7] (clg (Qbn p0.Store lv2) Qtd) fun hgq=>?_
   obtain⟨hg52,_⟩:=hgq
   exact dAt [0,1,2,3,4,5,6,7] [0,1,2,3,4,5,6,7] [] (r38 hg52) (hs:=su) (hM:=trivial)
  ·
   refine on1 4 [0,2,3,4,5,6] (OpS.st rfl) ?_
   exact dAt [0,1,2,3,4,5,6] [0,1,2,3,4,5,6] [] (r42 trivial) (hs:=su) (hM:=trivial)
  ·
   refine on1 10 [0,2,3,4,5,6] (OpS.st rfl) ?_
   exact dAt [0,1,2,3,4,5,6] [0,1,2,3,4,5,6] [] (r46 trivial) (hs:=su) (hM:=trivial)
 refine Qfv (P:=True) 20 14 [0,1,3,6,9,10] ⟨24,7,[(1,.pt 5 0),(2,.pt 6 0),(4,.sl 0 p0.Store.length),(6,.pt 5 1),(9,.pt 5 2),(13,.sl 4 p0.Seen.length)],[zK1 p0,zK0 p0,zK6 p0,(1,.ros Tx instDatTx p0.Txs),zK4 p0,zK5 p0,zK3 p0]⟩ (by dsimp only[zK1,zK0,zK6,zK4,zK5,zK3]) ?_ fun r53=>?_
 ·
  intro _
  refine oL [2,4,7] (d2 ?_ (d2 ?_ (d2 ?_ d0)))
  ·
   refine ong1 2 [1,3,4,5,6,7] (clg (Qbn p0.Store lv2) Qtd) fun hgq=>?_
   obtain⟨hg54,_⟩:=hgq
   exact dAt [0,1,2,3,4,5,6,7] [0,1,2,3,4,5,6,7] [] (r40 hg54) (hs:=su) (hM:=trivial)
  ·
   refine on1 4 [0,2,3,4,5,6] (OpS.st rfl) ?_
   exact dAt [0,1,2,3,4,5,6] [0,1,2,3,4,5,6] [] (r44 trivial) (hs:=su) (hM:=trivial)
  ·
   refine on1 7 [0,2,3,4,5,6] (OpS.st rfl) ?_
   exact dAt [0,1,2,3,4,5,6] [0,1,2,3,4,5,6] [] (r46 trivial) (hs:=su) (hM:=trivial)
 refine Qfv (P:=True) 20 14 [0,3,4,6,7,9] ⟨24,7,[(1,.pt 5 0),(2,.pt 6 0),(3,.pt 5 0),(7,.sl 1 p0.Txs.length),zK2 p0,(12,.pt 5 9)],[zK1 p0,zK0 p0,zK6 p0,(1,.ros Tx instDatTx p0.Txs),zK4 p0,zK5 p0,zK3 p0]⟩ (by dsimp only[zK2,zK1,zK0,zK6,zK4,zK5,zK3]) ?_ fun r55=>?_
 ·
  intro _
  refine oL [1,10] (d2 ?_ (d2 ?_ d0))
  ·
   refine on1 1 [0,2,3,4,5,6] (OpS.st rfl) ?_
   exact dAt [0,1,2,3,4,5,6] [0,1,2,3,4,5,6] [] (r42 trivial) (hs:=su) (hM:=trivial)
  ·
   refine on1 10 [0,2,3,4,5,6] (OpS.st rfl) ?_
   exact dAt [0,1,2,3,4,5,6] [0,1,2,3,4,5,6] [] (r48 trivial) (hs:=su) (hM:=trivial)
 refine Qfv (P:=True) 20 14 [0,3,4,6,9,10] ⟨24,7,[(1,.pt 5 0),(2,.pt 6 0),(3,.pt 5 0),(7,.sl 1 p0.Txs.length),(9,.pt 5 2),(13,.sl 4 p0.Seen.length)],[zK1 p0,zK0 p0,zK6 p0,(1,.ros Tx instDatTx p0.Txs),zK4 p0,zK5 p0,zK3 p0]⟩ (by dsimp only[zK1,zK0,zK6,zK4,zK5,zK3]) ?_ fun r56=>?_
 ·
  intro _
  refine oL [1,7] (d2 ?_ (d2 ?_ d0))
  ·
   refine on1 1 [0,2,3,4,5,6] (OpS.st rfl) ?_
   exact dAt [0,1,2,3,4,5,6] [0,1,2,3,4,5,6] [] (r44 trivial) (hs:=su) (hM:=trivial)
  ·
   refine on1 7 [0,2,3,4,5,6] (OpS.st rfl) ?_
   exact dAt [0,1,2,3,4,5,6] [0,1,2,3,4,5,6] [] (r48 trivial) (hs:=su) (hM:=trivial)
 refine Qfv (P:=True) 20 14 [0,3,6,7,9,10] ⟨24,7,[(1,.pt 5 0),(2,.pt 6 0),(3,.pt 5 0),(6,.pt 5 1),zK2 p0,(13,.sl 4 p0.Seen.length)],[zK1 p0,zK0 p0,zK6 p0,(1,.ros Tx instDatTx p0.Txs),zK4 p0,zK5 p0,zK3 p0]⟩ (by dsimp only[zK2,zK1,zK0,zK6,zK4,zK5,zK3]) ?_ fun r57=>?_
 ·
  intro _
  refine oL [1,4] (d2 ?_ (d2 ?_ d0))
  ·
   refine on1 1 [0,2,3,4,5,6] (OpS.st rfl) ?_
   exact dAt [0,1,2,3,4,5,6] [0,1,2,3,4,5,6] [] (r46 trivial) (hs:=su) (hM:=trivial)
  ·
   refine on1 4 [0,2,3,4,5,6] (OpS.st rfl) ?_
   exact dAt [0,1,2,3,4,5,6] [0,1,2,3,4,5,6] [] (r48 trivial) (hs:=su) (hM:=trivial)
 refine oL [1,4,7,10] (d2 ?_ (d2 ?_ (d2 ?_ (d2 ?_ d0))))
 ·
  refine on1 1 [0,2,3,4,5,6] (OpS.st rfl) ?_
  refine oL [2,4,7,10] (d2 ?_ (d2 ?_ (d2 ?_ (d2 ?_ d0))))
  ·
   refine ong1 2 [1,3,4,5,6,7] (clg (Qbn p0.Store lv2) Qtd) fun hgq=>?_
   obtain⟨hg58,_⟩:=hgq
   refine oL [4,7,10] (d2 ?_ (d2 ?_ (d2 ?_ d0)))
   ·
    refine on1 4 [1,3,4,5,6,7] (OpS.st rfl) ?_
    exact dAt [0,1,2,3,4,5,6,7] [0,1,2,3,4,5,6,7] [] (r35 hg58) (hs:=su) (hM:=trivial)
   ·
    refine on1 7 [1,3,4,5,6,7] (OpS.st rfl) ?_
    exact dAt [0,1,2,3,4,5,6,7] [0,1,2,3,4,5,6,7] [] (r38 hg58) (hs:=su) (hM:=trivial)
   ·
    refine on1 10 [1,3,4,5,6,7] (OpS.st rfl) ?_
    exact dAt [0,1,2,3,4,5,6,7] [0,1,2,3,4,5,6,7] [] (r40 hg58) (hs:=su) (hM:=trivial)
  ·
   refine on1 4 [0,2,3,4,5,6] (OpS.st rfl) ?_
   exact dAt [0,1,2,3,4,5,6] [0,1,2,3,4,5,6] [] (r49 trivial) (hs:=su) (hM:=trivial)
  ·
   refine on1 7 [0,2,3,4,5,6] (OpS.st rfl) ?_
   exact dAt [0,1,2,3,4,5,6] [0,1,2,3,4,5,6] [] (r51 trivial) (hs:=su) (hM:=trivial)
  ·
   refine on1 10 [0,2,3,4,5,6] (OpS.st rfl) ?_
   exact dAt [0,1,2,3,4,5,6] [0,1,2,3,4,5,6] [] (r53 trivial) (hs:=su) (hM:=trivial)
 ·
  refine on1 4 [0,2,3,4,5,6] (OpS.st rfl) ?_
  refine oL [1,7,10] (d2 ?_ (d2 ?_ (d2 ?_ d0)))
  ·
   refine on1 1 [0,2,3,4,5,6] (OpS.st rfl) ?_
   exact dAt [0,1,2,3,4,5,6] [0,1,2,3,4,5,6] [] (r49 trivial) (hs:=su) (hM:=trivial)
  ·
   refine on1 7 [0,2,3,4,5,6] (OpS.st rfl) ?_
   exact dAt [0,1,2,3,4,5,6] [0,1,2,3,4,5,6] [] (r55 trivial) (hs:=su) (hM:=trivial)
  ·
   refine on1 10 [0,2,3,4,5,6] (OpS.st rfl) ?_
   exact dAt [0,1,2,3,4,5,6] [0,1,2,3,4,5,6] [] (r56 trivial) (hs:=su) (hM:=trivial)
 ·
  refine on1 7 [0,2,3,4,5,6] (OpS.st rfl) ?_
  refine oL [1,4,10] (d2 ?_ (d2 ?_ (d2 ?_ d0)))
  ·
   refine on1 1 [0,2,3,4,5,6] (OpS.st rfl) ?_
   exact dAt [0,1,2,3,4,5,6] [0,1,2,3,4,5,6] [] (r51 trivial) (hs:=su) (hM:=trivial)
  ·
   refine on1 4 [0,2,3,4,5,6] (OpS.st rfl) ?_
   exact dAt [0,1,2,3,4,5,6] [0,1,2,3,4,5,6] [] (r55 trivial) (hs:=su) (hM:=trivial)
  ·
   refine on1 10 [0,2,3,4,5,6] (OpS.st rfl) ?_
   exact dAt [0,1,2,3,4,5,6] [0,1,2,3,4,5,6] [] (r57 trivial) (hs:=su) (hM:=trivial)
 ·
  refine on1 10 [0,2,3,4,5,6] (OpS.st rfl) ?_
  refine oL [1,4,7] (d2 ?_ (d2 ?_ (d2 ?_ d0)))
  ·
   refine on1 1 [0,2,3,4,5,6] (OpS.st rfl) ?_
   exact dAt [0,1,2,3,4,5,6] [0,1,2,3,4,5,6] [] (r53 trivial) (hs:=su) (hM:=trivial)
  ·
   refine on1 4 [0,2,3,4,5,6] (OpS.st rfl) ?_
   exact dAt [0,1,2,3,4,5,6] [0,1,2,3,4,5,6] [] (r56 trivial) (hs:=su) (hM:=trivial)
  ·
   refine on1 7 [0,2,3,4,5,6] (OpS.st rfl) ?_
   exact dAt [0,1,2,3,4,5,6] [0,1,2,3,4,5,6] [] (r57 trivial) (hs:=su) (hM:=trivial)
end
section
theorem Yfn:FnOk Tryz.prog 185:=⟨_,Tryz.func185,rfl,by kernel_rfl⟩
theorem Yja:FnOk Tryz.prog 230:=⟨_,Tryz.func230,rfl,by kernel_rfl⟩
def Qji (p0:Tx):Tx:=(Tx.mk p0.Id p0.Age p0.Proc p0.Began (([]:List Call)++p0.Calls) (([]:List Answer)++p0.Answers) (Touch.mk (([]:List ByteArray)++p0.Touch.Reads) (([]:List ByteArray)++p0.Touch.Writes)) (([]:List Int)++p0.Marks) p0.State)
def zL0 (p0:Tx):Nat×En:=(5,.var [.v (.int .i64 p0.Id),.v (.int .i64 p0.Age),.v (.int .i64 p0.Proc),.v (.int .i64 p0.Began),.sl 8 ((([]:List Call)++p0.Calls).length),.sl 10 ((([]:List Answer)++p0.Answers).length),.sl 2 p0.Touch.Reads.length,.sl 3 p0.Touch.Writes.length,.sl 4 p0.Marks.length,.v (.int .i64 p0.State)] 119)
def zL1 (p0:Tx):Nat×En:=(6,.var [.v (.int .i64 0),.v (.int .i64 0),.v (.int .i64 0),.v (.int .i64 0),.v (.slice none 0 0),.v (.slice none 0 0),.v (.slice none 0 0),.v (.slice none 0 0),.v (.slice none 0 0),.v (.int .i64 0)] 119)
def zL2 (p0:Tx):Nat×En:=(10,.own Answer instDatAnswer (([]:List Answer)++p0.Answers))
def zL3 (p0:Tx):Nat×En:=(8,.own Call instDatCall (([]:List Call)++p0.Calls))
def zL4 (p0:Tx):Nat×En:=(3,.ros ByteArray instDatByteArray p0.Touch.Writes)
def zL5 (p0:Tx):Nat×En:=(2,.ros ByteArray instDatByteArray p0.Touch.Reads)
def zL6 (p0:Tx):Nat×En:=(11,.own ByteArray instDatByteArray ([]:List ByteArray))
def zL7 (p0:Tx):Nat×En:=(1,.ros Answer instDatAnswer p0.Answers)
def zL8 (p0:Tx):Nat×En:=(0,.ros Call instDatCall p0.Calls)
def zL9 (p0:Tx):Nat×En:=(4,.ros Int instDatInt p0.Marks)
def zL10 (p0:Tx):Nat×V:=(21,.sl 3 p0.Touch.Writes.length)
def zL11 (p0:Tx):Nat×En:=(12,.own ByteArray instDatByteArray (([]:List ByteArray)++p0.Touch.Reads))
def zL12 (p0:Tx):Nat×En:=(12,.own ByteArray instDatByteArray ([]:List ByteArray))
def zL13 (p0:Tx):Nat×V:=(16,.sl 2 p0.Touch.Reads.length)
def zL14 (p0:Tx):Nat×V:=(17,.sl 12 ((([]:List ByteArray)++p0.Touch.Reads).length))
theorem Q0b (p0:Tx) (hs:Dat.small 1048576 p0):CTs 230 [.o (.st Tx _ inferInstance p0)] [Re.st Tx _ inferInstance (Qji p0)]:=by
 refine en Tryz.func230 Tryz.ntmps230 fun w hG hgd=>?_
 obtain⟨hg_p0,_⟩:=hgd
 have hM:=Qji.eq_1 p0
 have hx0:p0.Calls.length≤1048576:=hs.2.2.2.2.1.1
 have hx1:p0.Answers.length≤1048576:=hs.2.2.2.2.2.1.1
 have hx2:p0.Touch.Reads.length≤1048576:=hs.2.2.2.2.2.2.1.1.1
 have hx3:p0.Touch.Writes.length≤1048576:=hs.2.2.2.2.2.2.1.2.1
 have hx4:p0.Marks.length≤1048576:=hs.2.2.2.2.2.2.2.1.1
 refine ad 7 ?_
 refine op (l0) ?_
 refine ad 2 ?_
 refine li 7 (d:=instDatCall) ([]:List Call) ?_
 refine op (aS (dα:=instDatCall) (e:=149) (by':=72) ([]:List Call) p0.Calls [7] (hb:=by(try simp only[List.length_append,List.length_cons,List.length_nil]);first | omega | exact om) (hm:=by(try simp only[List.length_append,List.length_cons,List.length_nil]);first | omega | exact om)) ?_
 refine ad 5 ?_
 refine op (l0) ?_
 refine ad 2 ?_
 refine li 9 (d:=instDatAnswer) ([]:List Answer) ?_
 refine op (aS (dα:=instDatAnswer) (e:=154) (by':=32) ([]:List Answer) p0.Answers [9] (hb:=by(try simp only[List.length_append,List.length_cons,List.length_nil]);first | omega | exact om) (hm:=by(try simp only[List.length_append,List.length_cons,List.length_nil]);first | omega | exact om)) ?_
 refine ad 4 ?_
 refine ds 13 [0,1,2,4,5,6,7,8] fun _ _ _ _ _ hb=>?_
 refine tk [1,2,6,7] ?_
 refine Qfv (P:=True) 13 4 [0,1,2,3,4,5,6,7,8] ⟨31,14,[(1,.pt 5 0),(2,.pt 6 0),zL14 p0,(18,.sl 13 0),zL10 p0],[(13,.own ByteArray instDatByteArray ([]:List ByteArray)),zL11 p0,zL2 p0,zL3 p0,zL1 p0,zL0 p0,zL8 p0,zL7 p0,zL5 p0,zL4 p0,zL9 p0]⟩ (by dsimp only[zL14,zL10,zL11,zL2,zL3,zL1,zL0,zL8,zL7,zL5,zL4,zL9]) ?_ fun r1=>?_
 ·
  intro _
  refine on 9 [2,3,4,6,7,8,9,10] (aS (dα:=instDatByteArray) (e:=9) (by':=16) ([]:List ByteArray) p0.Touch.Writes [13] (hb:=by(try simp only[List.length_append,List.length_cons,List.length_nil]);first | omega | exact om) (hm:=by(try simp only[List.length_append,List.length_cons,List.length_nil]);first | omega | exact om)) ?_
  refine tk [10,11] ?_
  refine on 12 [2,3,4,6,7,8,9,10] (OpS.st rfl) ?_
  refine dn hb ?_
  refine ad 2 ?_
  refine op (l0) ?_
  refine ad 2 ?_
  refine li 15 (d:=instDatInt) ([]:List Int) ?_
  refine op (aS (dα:=instDatInt) (e:=3) (by':=8) ([]:List Int) p0.Marks [15] (hb:=by(try simp only[List.length_append,List.length_cons,List.length_nil]);first | omega | exact om) (hm:=by(try simp only[List.length_append,List.length_cons,List.length_nil]);first | omega | exact om)) ?_
  refine ad 8 ?_
  refine gd 16 fun hg2=>?_
  refine gd 14 fun hg3=>?_
  refine gd 12 fun hg4=>?_
  refine gd 10 fun hg5=>?_
  refine gd 8 fun hg6=>?_
  refine gd 0 fun hg7=>?_
  refine gd 1 fun hg8=>?_
  refine gd 2 fun hg9=>?_
  refine gd 3 fun hg10=>?_
  refine gd 4 fun hg11=>?_
  have hg12:Dat.good (Tx.mk p0.Id p0.Age p0.Proc p0.Began (([]:List Call)++p0.Calls) (([]:List Answer)++p0.Answers) (Touch.mk (([]:List ByteArray)++p0.Touch.Reads) (([]:List ByteArray)++p0.Touch.Writes)) (([]:List Int)++p0.Marks) p0.State:Tx):=⟨hg_p0.1,hg_p0.2.1,hg_p0.2.2.1,hg_p0.2.2.2.1,hg6,hg5,⟨hg4,hg3⟩,hg2,hg_p0.2.2.2.2.2.2.2.2⟩
  exact rz (rs:=[.cell 2 119]) (congrArg (fun x=>[Re.st Tx _ inferInstance x]) hM)
 refine Qfv (P:=True) 13 5 [0,1,2,3,4,5,6,7] ⟨31,14,[(1,.pt 5 0),(2,.pt 6 0),zL14 p0,(18,.sl 13 0),(20,.pt 5 7)],[(13,.own ByteArray instDatByteArray ([]:List ByteArray)),zL11 p0,zL2 p0,zL3 p0,zL1 p0,zL0 p0,zL8 p0,zL7 p0,zL5 p0,zL4 p0,zL9 p0]⟩ (by dsimp only[zL14,zL11,zL2,zL3,zL1,zL0,zL8,zL7,zL5,zL4,zL9]) ?_ fun r13=>?_
 ·
  intro _
  refine on 8 [2,3,4,6,7,8,9,10] (OpS.st rfl) ?_
  exact dAt [0,1,2,3,4,5,6,7,8,9,10,0,12,13] [0,1,2,3,4,5,6,7,8,9,10] [] (r1 trivial) (hs:=su) (hM:=trivial)
 refine Qfv (P:=True) 13 5 [0,1,2,3,4,6,7,8] ⟨31,13,[(1,.pt 5 0),(2,.pt 6 0),zL14 p0,zL10 p0],[zL11 p0,zL2 p0,zL3 p0,zL1 p0,zL0 p0,zL8 p0,zL7 p0,zL5 p0,zL4 p0,zL9 p0]⟩ (by dsimp only[zL14,zL10,zL11,zL2,zL3,zL1,zL0,zL8,zL7,zL5,zL4,zL9]) ?_ fun r14=>?_
 ·
  intro _
  refine on 5 [2,3,4,6,7,8,9,10] (l0) ?_
  refine liD 13 (d:=instDatByteArray) ([]:List ByteArray) ?_
  exact dAt [0,1,2,3,4,5,6,7,8,9,10,0,12,13] [0,1,2,3,4,5,6,7,8,9,10] [] (r1 trivial) (hs:=su) (hM:=trivial)
 refine Qfv (P:=True) 13 5 [0,1,2,3,5,6,7,8] ⟨31,13,[(1,.pt 5 0),(2,.pt 6 0),(13,.sl 11 0),zL13 p0,(18,.sl 12 0),zL10 p0],[zL12 p0,zL6 p0,zL2 p0,zL3 p0,zL1 p0,zL0 p0,zL8 p0,zL7 p0,zL5 p0,zL4 p0,zL9 p0]⟩ (by dsimp only[zL13,zL10,zL12,zL6,zL2,zL3,zL1,zL0,zL8,zL7,zL5,zL4,zL9]) ?_ fun r15=>?_
 ·
  intro _
  refine on 4 [2,3,4,6,7,8,9,10] (aS (dα:=instDatByteArray) (e:=9) (by':=16) ([]:List ByteArray) p0.Touch.Reads [11] (hb:=by(try simp only[List.length_append,List.length_cons,List.length_nil]);first | omega | exact om) (hm:=by(try simp only[List.length_append,List.length_cons,List.length_nil]);first | omega | exact om)) ?_
  exact dAt [0,1,2,3,4,5,6,7,8,9,10,0,13,12] [1,0,2,3,4,5,6,7,8,9,10] [] (r1 trivial) (hs:=su) (hM:=trivial)
 refine Qfv (P:=True) 13 6 [0,1,2,3,5,6,7] ⟨31,13,[(1,.pt 5 0),(2,.pt 6 0),(13,.sl 11 0),zL13 p0,(18,.sl 12 0),(20,.pt 5 7)],[zL12 p0,zL6 p0,zL2 p0,zL3 p0,zL1 p0,zL0 p0,zL8 p0,zL7 p0,zL5 p0,zL4 p0,zL9 p0]⟩ (by dsimp only[zL13,zL12,zL6,zL2,zL3,zL1,zL0,zL8,zL7,zL5,zL4,zL9]) ?_ fun r16=>?_
 ·
  intro _
  refine oL [4,8] (d2 ?_ (d2 ?_ d0))
  ·
   refine on1 4 [2,3,4,6,7,8,9,10] (aS (dα:=instDatByteArray) (e:=9) (by':=16) ([]:List ByteArray) p0.Touch.Reads [11] (hb:=by(try simp only[List.length_append,List.length_cons,List.length_nil]);first | omega | exact om) (hm:=by(try simp only[List.length_append,List.length_cons,List.length_nil]);first | omega | exact om)) ?_
   exact dAt [0,1,2,3,4,5,6,7,8,9,10,0,13,12] [1,0,2,3,4,5,6,7,8,9,10] [] (r13 trivial) (hs:=su) (hM:=trivial)
  ·
   refine on1 8 [2,3,4,6,7,8,9,10] (OpS.st rfl) ?_
   exact dAt [0,1,2,3,4,5,6,7,8,9,10,11,12] [0,1,2,3,4,5,6,7,8,9,10] [] (r15 trivial) (hs:=su) (hM:=trivial)
 refine Qfv (P:=True) 13 6 [0,1,2,3,6,7,8] ⟨31,12,[(1,.pt 5 0),(2,.pt 6 0),(13,.sl 11 0),zL13 p0,zL10 p0],[zL6 p0,zL2 p0,zL3 p0,zL1 p0,zL0 p0,zL8 p0,zL7 p0,zL5 p0,zL4 p0,zL9 p0]⟩ (by dsimp only[zL13,zL10,zL6,zL2,zL3,zL1,zL0,zL8,zL7,zL5,zL4,zL9]) ?_ fun r17=>?_
 ·
  intro _
  refine oL [4,5] (d2 ?_ (d2 ?_ d0))
  ·
   refine on1 4 [1,2,3,5,6,7,8,9] (aS (dα:=instDatByteArray) (e:=9) (by':=16) ([]:List ByteArray) p0.Touch.Reads [11] (hb:=by(try simp only[List.length_append,List.length_cons,List.length_nil]);first | omega | exact om) (hm:=by(try simp only[List.length_append,List.length_cons,List.length_nil]);first | omega | exact om)) ?_
   exact dAt [0,1,2,3,4,5,6,7,8,9,10,0,12] [0,1,2,3,4,5,6,7,8,9] [] (r14 trivial) (hs:=su) (hM:=trivial)
  ·
   refine on1 5 [2,3,4,6,7,8,9,10] (l0) ?_
   refine liD 12 (d:=instDatByteArray) ([]:List ByteArray) ?_
   exact dAt [0,1,2,3,4,5,6,7,8,9,10,11,12] [0,1,2,3,4,5,6,7,8,9,10] [] (r15 trivial) (hs:=su) (hM:=trivial)
 refine Qfv (P:=True) 13 6 [0,1,2,5,6,7,8] ⟨31,13,[(1,.pt 5 0),(2,.pt 6 0),(13,.sl 11 0),(15,.pt 5 6),(18,.sl 12 0),zL10 p0],[zL12 p0,zL6 p0,zL2 p0,zL3 p0,zL1 p0,zL0 p0,zL8 p0,zL7 p0,zL5 p0,zL4 p0,zL9 p0]⟩ (by dsimp only[zL10,zL12,zL6,zL2,zL3,zL1,zL0,zL8,zL7,zL5,zL4,zL9]) ?_ fun r18=>?_
 ·
  intro _
  refine on 3 [2,3,4,6,7,8,9,10] (OpS.st rfl) ?_
  exact dAt [0,1,2,3,4,5,6,7,8,9,10,11,12] [0,1,2,3,4,5,6,7,8,9,10] [] (r15 trivial) (hs:=su) (hM:=trivial)
 refine Qfv (P:=True) 13 6 [1,2,3,5,6,7,8] ⟨31,12,[(1,.pt 5 0),(2,.pt 6 0),zL13 p0,(18,.sl 11 0),zL10 p0],[zL6 p0,zL2 p0,zL3 p0,zL1 p0,zL0 p0,zL8 p0,zL7 p0,zL5 p0,zL4 p0,zL9 p0]⟩ (by dsimp only[zL13,zL10,zL6,zL2,zL3,zL1,zL0,zL8,zL7,zL5,zL4,zL9]) ?_ fun r19=>?_
 ·
  intro _
  refine on 0 [2,3,4,6,7,8,9,10] (l0) ?_
  refine liD 12 (d:=instDatByteArray) ([]:List ByteArray) ?_
  exact dAt [0,1,2,3,4,5,6,7,8,9,10,12,11] [1,0,2,3,4,5,6,7,8,9,10] [] (r15 trivial) (hs:=su) (hM:=trivial)
 refine Qfv (P:=True) 13 7 [0,1,2,3,6,7] ⟨31,12,[(1,.pt 5 0),(2,.pt 6 0),(13,.sl 11 0),zL13 p0,(20,.pt 5 7)],[zL6 p0,zL2 p0,zL3 p0,zL1 p0,zL0 p0,zL8 p0,zL7 p0,zL5 p0,zL4 p0,zL9 p0]⟩ (by dsimp only[zL13,zL6,zL2,zL3,zL1,zL0,zL8,zL7,zL5,zL4,zL9]) ?_ fun r20=>?_
 ·
  intro _
  refine oL [4,5,8] (d2 ?_ (d2 ?_ (d2 ?_ d0)))
  ·
   refine on1 4 [1,2,3,5,6,7,8,9] (aS (dα:=instDatByteArray) (e:=9) (by':=16) ([]:List ByteArray) p0.Touch.Reads [11] (hb:=by(try simp only[List.length_append,List.length_cons,List.length_nil]);first | omega | exact om) (hm:=by(try simp only[List.length_append,List.length_cons,List.length_nil]);first | omega | exact om)) ?_
   refine oL [5,8] (d2 ?_ (d2 ?_ d0))
   ·
    refine on1 5 [2,3,4,6,7,8,9,10] (l0) ?_
    refine liD 13 (d:=instDatByteArray) ([]:List ByteArray) ?_
    exact dAt [0,1,2,3,4,5,6,7,8,9,10,0,12,13] [0,1,2,3,4,5,6,7,8,9,10] [] (r13 trivial) (hs:=su) (hM:=trivial)
   ·
    refine on1 8 [1,2,3,5,6,7,8,9] (OpS.st rfl) ?_
    exact dAt [0,1,2,3,4,5,6,7,8,9,10,0,12] [0,1,2,3,4,5,6,7,8,9] [] (r14 trivial) (hs:=su) (hM:=trivial)
  ·
   refine on1 5 [2,3,4,6,7,8,9,10] (l0) ?_
   refine liD 12 (d:=instDatByteArray) ([]:List ByteArray) ?_
   exact dAt [0,1,2,3,4,5,6,7,8,9,10,11,12] [0,1,2,3,4,5,6,7,8,9,10] [] (r16 trivial) (hs:=su) (hM:=trivial)
  ·
   refine on1 8 [1,2,3,5,6,7,8,9] (OpS.st rfl) ?_
   exact dAt [0,1,2,3,4,5,6,7,8,9,10,11] [0,1,2,3,4,5,6,7,8,9] [] (r17 trivial) (hs:=su) (hM:=trivial)
 refine Qfv (P:=True) 13 7 [0,1,2,5,6,7] ⟨31,13,[(1,.pt 5 0),(2,.pt 6 0),(13,.sl 11 0),(15,.pt 5 6),(18,.sl 12 0),(20,.pt 5 7)],[zL12 p0,zL6 p0,zL2 p0,zL3 p0,zL1 p0,zL0 p0,zL8 p0,zL7 p0,zL5 p0,zL4 p0,zL9 p0]⟩ (by dsimp only[zL12,zL6,zL2,zL3,zL1,zL0,zL8,zL7,zL5,zL4,zL9]) ?_ fun r21=>?_
 ·
  intro _
  refine oL [3,8] (d2 ?_ (d2 ?_ d0))
  ·
   refine on1 3 [2,3,4,6,7,8,9,10] (OpS.st rfl) ?_
   exact dAt [0,1,2,3,4,5,6,7,8,9,10,11,12] [0,1,2,3,4,5,6,7,8,9,10] [] (r16 trivial) (hs:=su) (hM:=trivial)
  ·
   refine on1 8 [2,3,4,6,7,8,9,10] (OpS.st rfl) ?_
   exact dAt [0,1,2,3,4,5,6,7,8,9,10,11,12] [0,1,2,3,4,5,6,7,8,9,10] [] (r18 trivial) (hs:=su) (hM:=trivial)
 refine Qfv (P:=True) 13 7 [0,1,2,6,7,8] ⟨31,12,[(1,.pt 5 0),(2,.pt 6 0),(13,.sl 11 0),(15,.pt 5 6),zL10 p0],[zL6 p0,zL2 p0,zL3 p0,zL1 p0,zL0 p0,zL8 p0,zL7 p0,zL5 p0,zL4 p0,zL9 p0]⟩ (by dsimp only[zL10,zL6,zL2,zL3,zL1,zL0,zL8,zL7,zL5,zL4,zL9]) ?_ fun r22=>?_
 ·
  intro _
  refine oL [3,5] (d2 ?_ (d2 ?_ d0))
  ·
   refine on1 3 [1,2,3,5,6,7,8,9] (OpS.st rfl) ?_
   exact dAt [0,1,2,3,4,5,6,7,8,9,10,11] [0,1,2,3,4,5,6,7,8,9] [] (r17 trivial) (hs:=su) (hM:=trivial)
  ·
   refine on1 5 [2,3,4,6,7,8,9,10] (l0) ?_
   refine liD 12 (d:=instDatByteArray) ([]:List ByteArray) ?_
   exact dAt [0,1,2,3,4,5,6,7,8,9,10,11,12] [0,1,2,3,4,5,6,7,8,9,10] [] (r18 trivial) (hs:=su) (hM:=trivial)
 refine Qfv (P:=True) 13 7 [1,2,3,5,6,7] ⟨31,12,[(1,.pt 5 0),(2,.pt 6 0),zL13 p0,(18,.sl 11 0),(20,.pt 5 7)],[zL6 p0,zL2 p0,zL3 p0,zL1 p0,zL0 p0,zL8 p0,zL7 p0,zL5 p0,zL4 p0,zL9 p0]⟩ (by dsimp only[zL13,zL6,zL2,zL3,zL1,zL0,zL8,zL7,zL5,zL4,zL9]) ?_ fun r23=>?_
 ·
  intro _
  refine oL [0,8] (d2 ?_ (d2 ?_ d0))
  ·
   refine on1 0 [2,3,4,6,7,8,9,10] (l0) ?_
   refine liD 12 (d:=instDatByteArray) ([]:List ByteArray) ?_
   exact dAt [0,1,2,3,4,5,6,7,8,9,10,12,11] [1,0,2,3,4,5,6,7,8,9,10] [] (r16 trivial) (hs:=su) (hM:=trivial)
  ·
   refine on1 8 [1,2,3,5,6,7,8,9] (OpS.st rfl) ?_
   exact dAt [0,1,2,3,4,5,6,7,8,9,10,11] [0,1,2,3,4,5,6,7,8,9] [] (r19 trivial) (hs:=su) (hM:=trivial)
 refine Qfv (P:=True) 13 7 [1,2,3,6,7,8] ⟨31,11,[(1,.pt 5 0),(2,.pt 6 0),zL13 p0,zL10 p0],[zL2 p0,zL3 p0,zL1 p0,zL0 p0,zL8 p0,zL7 p0,zL5 p0,zL4 p0,zL9 p0]⟩ (by dsimp only[zL13,zL10,zL2,zL3,zL1,zL0,zL8,zL7,zL5,zL4,zL9]) ?_ fun r24=>?_
 ·
  intro _
  refine oL [0,5] (d2 ?_ (d2 ?_ d0))
  ·
   refine on1 0 [1,2,3,5,6,7,8,9] (l0) ?_
   refine liD 11 (d:=instDatByteArray) ([]:List ByteArray) ?_
   exact dAt [0,1,2,3,4,5,6,7,8,9,10,11] [0,1,2,3,4,5,6,7,8,9] [] (r17 trivial) (hs:=su) (hM:=trivial)
  ·
   refine on1 5 [1,2,3,5,6,7,8,9] (l0) ?_
   refine liD 11 (d:=instDatByteArray) ([]:List ByteArray) ?_
   exact dAt [0,1,2,3,4,5,6,7,8,9,10,11] [0,1,2,3,4,5,6,7,8,9] [] (r19 trivial) (hs:=su) (hM:=trivial)
 refine Qfv (P:=True) 13 7 [1,2,5,6,7,8] ⟨31,12,[(1,.pt 5 0),(2,.pt 6 0),(15,.pt 5 6),(18,.sl 11 0),zL10 p0],[zL6 p0,zL2 p0,zL3 p0,zL1 p0,zL0 p0,zL8 p0,zL7 p0,zL5 p0,zL4 p0,zL9 p0]⟩ (by dsimp only[zL10,zL6,zL2,zL3,zL1,zL0,zL8,zL7,zL5,zL4,zL9]) ?_ fun r25=>?_
 ·
  intro _
  refine oL [0,3] (d2 ?_ (d2 ?_ d0))
  ·
   refine on1 0 [2,3,4,6,7,8,9,10] (l0) ?_
   refine liD 12 (d:=instDatByteArray) ([]:List ByteArray) ?_
   exact dAt [0,1,2,3,4,5,6,7,8,9,10,12,11] [1,0,2,3,4,5,6,7,8,9,10] [] (r18 trivial) (hs:=su) (hM:=trivial)
  ·
   refine on1 3 [1,2,3,5,6,7,8,9] (OpS.st rfl) ?_
   exact dAt [0,1,2,3,4,5,6,7,8,9,10,11] [0,1,2,3,4,5,6,7,8,9] [] (r19 trivial) (hs:=su) (hM:=trivial)
 refine oL [0,3,5,8] (d2 ?_ (d2 ?_ (d2 ?_ (d2 ?_ d0))))
 ·
  refine on1 0 [1,2,3,5,6,7,8,9] (l0) ?_
  refine liD 11 (d:=instDatByteArray) ([]:List ByteArray) ?_
  refine oL [3,5,8] (d2 ?_ (d2 ?_ (d2 ?_ d0)))
  ·
   refine on1 3 [1,2,3,5,6,7,8,9] (OpS.st rfl) ?_
   exact dAt [0,1,2,3,4,5,6,7,8,9,10,11] [0,1,2,3,4,5,6,7,8,9] [] (r20 trivial) (hs:=su) (hM:=trivial)
  ·
   refine on1 5 [2,3,4,6,7,8,9,10] (l0) ?_
   refine liD 12 (d:=instDatByteArray) ([]:List ByteArray) ?_
   exact dAt [0,1,2,3,4,5,6,7,8,9,10,11,12] [0,1,2,3,4,5,6,7,8,9,10] [] (r21 trivial) (hs:=su) (hM:=trivial)
  ·
   refine on1 8 [1,2,3,5,6,7,8,9] (OpS.st rfl) ?_
   exact dAt [0,1,2,3,4,5,6,7,8,9,10,11] [0,1,2,3,4,5,6,7,8,9] [] (r22 trivial) (hs:=su) (hM:=trivial)
 ·
  refine on1 3 [0,1,2,4,5,6,7,8] (OpS.st rfl) ?_
  refine oL [0,5,8] (d2 ?_ (d2 ?_ (d2 ?_ d0)))
  ·
   refine on1 0 [1,2,3,5,6,7,8,9] (l0) ?_
   refine liD 11 (d:=instDatByteArray) ([]:List ByteArray) ?_
   exact dAt [0,1,2,3,4,5,6,7,8,9,10,11] [0,1,2,3,4,5,6,7,8,9] [] (r20 trivial) (hs:=su) (hM:=trivial)
  ·
   refine on1 5 [1,2,3,5,6,7,8,9] (l0) ?_
   refine liD 11 (d:=instDatByteArray) ([]:List ByteArray) ?_
   exact dAt [0,1,2,3,4,5,6,7,8,9,10,11] [0,1,2,3,4,5,6,7,8,9] [] (r23 trivial) (hs:=su) (hM:=trivial)
  ·
   refine on1 8 [0,1,2,4,5,6,7,8] (OpS.st rfl) ?_
   exact dAt [0,1,2,3,4,5,6,7,8,9,10] [0,1,2,3,4,5,6,7,8] [] (r24 trivial) (hs:=su) (hM:=trivial)
 ·
  refine on1 5 [1,2,3,5,6,7,8,9] (l0) ?_
  refine liD 11 (d:=instDatByteArray) ([]:List ByteArray) ?_
  refine oL [0,3,8] (d2 ?_ (d2 ?_ (d2 ?_ d0)))
  ·
   refine on1 0 [2,3,4,6,7,8,9,10] (l0) ?_
   refine liD 12 (d:=instDatByteArray) ([]:List ByteArray) ?_
   exact dAt [0,1,2,3,4,5,6,7,8,9,10,12,11] [1,0,2,3,4,5,6,7,8,9,10] [] (r21 trivial) (hs:=su) (hM:=trivial)
  ·
   refine on1 3 [1,2,3,5,6,7,8,9] (OpS.st rfl) ?_
   exact dAt [0,1,2,3,4,5,6,7,8,9,10,11] [0,1,2,3,4,5,6,7,8,9] [] (r23 trivial) (hs:=su) (hM:=trivial)
  ·
   refine on1 8 [1,2,3,5,6,7,8,9] (OpS.st rfl) ?_
   exact dAt [0,1,2,3,4,5,6,7,8,9,10,11] [0,1,2,3,4,5,6,7,8,9] [] (r25 trivial) (hs:=su) (hM:=trivial)
 ·
  refine on1 8 [0,1,2,4,5,6,7,8] (OpS.st rfl) ?_
  refine oL [0,3,5] (d2 ?_ (d2 ?_ (d2 ?_ d0)))
  ·
   refine on1 0 [1,2,3,5,6,7,8,9] (l0) ?_
   refine liD 11 (d:=instDatByteArray) ([]:List ByteArray) ?_
   exact dAt [0,1,2,3,4,5,6,7,8,9,10,11] [0,1,2,3,4,5,6,7,8,9] [] (r22 trivial) (hs:=su) (hM:=trivial)
  ·
   refine on1 3 [0,1,2,4,5,6,7,8] (OpS.st rfl) ?_
   exact dAt [0,1,2,3,4,5,6,7,8,9,10] [0,1,2,3,4,5,6,7,8] [] (r24 trivial) (hs:=su) (hM:=trivial)
  ·
   refine on1 5 [1,2,3,5,6,7,8,9] (l0) ?_
   refine liD 11 (d:=instDatByteArray) ([]:List ByteArray) ?_
   exact dAt [0,1,2,3,4,5,6,7,8,9,10,11] [0,1,2,3,4,5,6,7,8,9] [] (r25 trivial) (hs:=su) (hM:=trivial)
def Qek (p0:List Tx):Nat→(List Tx)→Nat→(List Tx)
 | 0,v3,i=>v3
 | n+1,v3,i=>Qek p0 n (v3++[(Qji (nth p0 i))]) (i+1)
def Qcl (p0:List Tx):(List Tx):=Qek p0 (p0.length - 0) ([]:List Tx) 0
theorem Qq7 (p0:List Tx) (hs:Dat.small 1048576 p0):CTs 185 [.o (.sl Tx instDatTx p0)] [Re.sl Tx instDatTx (Qcl p0)]:=by
 refine en Tryz.func185 Tryz.ntmps185 fun w hG hgd=>?_
 obtain⟨hg_p0,_⟩:=hgd
 have hl_p0:p0.length≤9223372036854775807:=hg_p0.1
 have hM:=Qcl.eq_1 p0
 have hs1:p0.length≤1048576:=hs.1
 refine ad 6 ?_
 refine op (l0) ?_
 refine ad 8 ?_
 refine li 1 (d:=instDatTx) ([]:List Tx) ?_
 refine Run.loopM (ι:=(List Tx)×Nat) (fun s=>Qek p0 (p0.length - s.2) s.1 s.2) (fun s=>⟨21,2,[(0,.sl 0 p0.length),(3,.sl 1 s.1.length),(4,.v (.int .i64 (s.2:Int)))],[(0,.ros Tx instDatTx p0),(1,.own Tx instDatTx s.1)]⟩) (fun s=>s.2≤p0.length∧s.1.length≤s.2) (fun s=>p0.length - s.2) (([]:List Tx),0) [0,1] [1,0] hM (by exact⟨by(try dsimp only);omega,by simp⟩) su (by decide) ?_
 rintro ⟨v3,i⟩ hv hE
 try dsimp only at hE
 obtain⟨hi,hv0⟩:=hv
 try dsimp only at hi hv0
 refine ad 8 ?_
 refine cd (fun h1=>?_) (fun h1=>?_)
 ·
  have h1l:i<p0.length:=dtl h1
  have hM:=hE.trans ((congrArg (fun n=>Qek p0 n v3 i) (sb1 h1l)).trans (Qek.eq_2 _ _ _ _))
  have hstX:=Qcv hs (k:=i) (by omega)
  refine ad 7 ?_
  have hg3:=Qai (k:=i) hg_p0 om
  refine op (ix (xs:=p0) i om) ?_
  refine ad 1 ?_
  have hg4:Dat.good (nth p0 i:Tx):=hg3
  refine og (clg (Q0b (nth p0 i) (by first | assumption | exact hstX)) Yja) fun hgq=>?_
  obtain⟨hg5,_⟩:=hgq
  refine ad 1 ?_
  refine op (aN (e:=119) (by':=160) v3 (Qji (nth p0 i)) [1] (hg:=hg5) (hb:=by(try simp only[List.length_cons,List.length_nil]);first | omega | exact om) (hm:=by(try simp only[List.length_cons,List.length_nil]);first | omega | exact om)) ?_
  refine ad 6 ?_
  rw[Qb3 (i:=i) om]
  refine ad 2 ?_
  exact Run.again ((v3++[(Qji (nth p0 i))]),(i+1)) [0,14] [8,0] ⟨by exact⟨by(try dsimp only);omega,by(try dsimp only);(try simp only[length_append,length_cons,length_nil]);omega⟩,hM⟩ rfl lv1 su (by decide)
 ·
  have h1l: ¬ (i<p0.length):=dfl h1
  have hM:=hE.trans ((congrArg (fun n=>Qek p0 n v3 i) (sb0 h1l)).trans (Qek.eq_1 _ _ _))
  refine ad 6 ?_
  exact rz (rs:=[.tmp 2]) (congrArg (fun x=>[Re.sl Tx instDatTx x]) hM)
def Qei (p0:Kernel):Nat→(List Entry)→Nat→Kernel
 | 0,v3,i=>(Kernel.mk (([]:List Cell)++p0.Store) (Qcl p0.Txs) (Qah p0.Disk) p0.Seq p0.Next p0.Time v3 (([]:List ByteArray)++p0.Seen) p0.Room)
 | n+1,v3,i=>Qei p0 n (v3++[(Qio (nth p0.History i))]) (i+1)
def Qaa (p0:Kernel):Kernel:=Qei p0 (p0.History.length - 0) ([]:List Entry) 0
theorem Qz9 (p0:Kernel) (hs:KSm p0):CTs 124 [.o (.st Kernel _ inferInstance p0)] [Re.st Kernel _ inferInstance (Qaa p0)]:=by
 refine en Tryz.func124 Tryz.ntmps124 fun w hG hgd=>?_
 obtain⟨hg_p0,_⟩:=hgd
 have hM:=Qaa.eq_1 p0
 have hk0:p0.Store.length≤1073741824:=hs.1
 have hk1:p0.Seen.length≤1048576:=hs.2.2.2.2
 have hsmX:Dat.small 1048576 p0.Txs:=hs.2.1
 have hsmH:Dat.small 1048576 p0.History:=hs.2.2.2.1
 have hk2:p0.History.length≤1048576:=hsmH.1
 have hsmD:Dat.small 1048576 p0.Disk:=hs.2.2.1
 refine ad 7 ?_
 refine op (l0) ?_
 refine ad 2 ?_
 refine li 7 (d:=instDatCell) ([]:List Cell) ?_
 refine op (aS (dα:=instDatCell) (e:=114) (by':=32) ([]:List Cell) p0.Store [7] (hb:=by(try simp only[List.length_append,List.length_cons,List.length_nil]);first | omega | exact om) (hm:=by(try simp only[List.length_append,List.length_cons,List.length_nil]);first | omega | exact om)) ?_
 refine ad 7 ?_
 refine og (clg (Qq7 p0.Txs (by first | assumption | exact hsmX)) Yfn) fun hgq=>?_
 obtain⟨hg1,_⟩:=hgq
 refine ad 7 ?_
 have hg2:Dat.good (p0.Disk:Disk):=hg_p0.2.2.1
 refine og (clg (Qnj p0.Disk (by first | assumption | exact hsmD)) Ych) fun hgq=>?_
 obtain⟨hg3,_⟩:=hgq
 refine ad 5 ?_
 refine op (l0) ?_
 refine ad 8 ?_
 refine li 11 (d:=instDatEntry) ([]:List Entry) ?_
 refine Run.loopM (ι:=(List Entry)×Nat) (fun s=>Qei p0 (p0.History.length - s.2) s.1 s.2) (fun s=>⟨43,8,[(1,.pt 0 0),(2,.pt 6 0),(3,.sl 7 s.1.length),(4,.v (.int .i64 (s.2:Int)))],[(0,.var [.sl 1 ((([]:List Cell)++p0.Store).length),.sl 2 ((Qcl p0.Txs).length),.sl 3 ((Qah p0.Disk).Slots.length),.v (.string ((Qah p0.Disk).Journal.Text)),.v (.int .i64 ((Qah p0.Disk).Journal.Sure)),.v (.int .i64 p0.Seq),.v (.int .i64 p0.Next),.v (.int .i64 p0.Time),.sl 4 p0.History.length,.sl 5 p0.Seen.length,.v (.bool p0.Room)] 43),(1,.own Cell instDatCell (([]:List Cell)++p0.Store)),(2,.own Tx instDatTx (Qcl p0.Txs)),(3,.own Slot instDatSlot ((Qah p0.Disk).Slots)),(4,.ros Entry instDatEntry p0.History),(5,.ros ByteArray instDatByteArray p0.Seen),(6,.var [.v (.slice none 0 0),.v (.slice none 0 0),.v (.slice none 0 0),.v (.string ⟨#[]⟩),.v (.int .i64 0),.v (.int .i64 0),.v (.int .i64 0),.v (.int .i64 0),.v (.slice none 0 0),.v (.slice none 0 0),.v (.bool false)] 43),(7,.own Entry instDatEntry s.1)]⟩) (fun s=>s.2≤p0.History.length∧s.1.length≤s.2) (fun s=>p0.History.length - s.2) (([]:List Entry),0) [5,8,9,10,3,4,6,11] [5,3,2,1,9,10,4,0] hM (by exact⟨by(try dsimp only);omega,by simp⟩) su (by decide) ?_
 rintro ⟨v3,i⟩ hv hE
 try dsimp only at hE
 obtain⟨hi,hv0⟩:=hv
 try dsimp only at hi hv0
 refine ad 9 ?_
 refine cd (fun h4=>?_) (fun h4=>?_)
 ·
  have h4l:i<p0.History.length:=dtl h4
  have hM:=hE.trans ((congrArg (fun n=>Qei p0 n v3 i) (sb1 h4l)).trans (Qei.eq_2 _ _ _ _))
  have hgen:=Qai (k:=i) hg_p0.2.2.2.2.2.2.1 om
  have hsE:=Qcv hsmH (k:=i) (by omega)
  refine ad 8 ?_
  refine op (ix (xs:=p0.History) i om) ?_
  refine ad 1 ?_
  refine og (clg (Qyy (nth p0.History i) (by first | assumption | exact hsE)) Ynh) fun hgq=>?_
  obtain⟨hg6,_⟩:=hgq
  refine ad 1 ?_
  refine op (aN (e:=80) (by':=96) v3 (Qio (nth p0.History i)) [7] (hg:=hg6) (hb:=by(try simp only[List.length_cons,List.length_nil]);first | omega | exact om) (hm:=by(try simp only[List.length_cons,List.length_nil]);first | omega | exact om)) ?_
  refine ad 6 ?_
  rw[Qb3 (i:=i) om]
  refine ad 2 ?_
  exact Run.again ((v3++[(Qio (nth p0.History i))]),(i+1)) [0,1,2,3,4,5,6,14] [5,6,7,8,9,10,11,0] ⟨by exact⟨by(try dsimp only);omega,by(try dsimp only);(try simp only[length_append,length_cons,length_nil]);omega⟩,hM⟩ rfl lv1 su (by decide)
 ·
  have h4l: ¬ (i<p0.History.length):=dfl h4
  have hM:=hE.trans ((congrArg (fun n=>Qei p0 n v3 i) (sb0 h4l)).trans (Qei.eq_1 _ _ _))
  refine ad 9 ?_
  refine op (l0) ?_
  refine ad 2 ?_
  refine li 8 (d:=instDatByteArray) ([]:List ByteArray) ?_
  refine op (aS (dα:=instDatByteArray) (e:=9) (by':=16) ([]:List ByteArray) p0.Seen [8] (hb:=by(try simp only[List.length_append,List.length_cons,List.length_nil]);first | omega | exact om) (hm:=by(try simp only[List.length_append,List.length_cons,List.length_nil]);first | omega | exact om)) ?_
  refine ad 8 ?_
  refine gd 9 fun hg7=>?_
  refine gd 1 fun hg8=>?_
  refine gd 2 fun hg9=>?_
  refine gd 5 fun hg10=>?_
  refine gd 7 fun hg11=>?_
  have hg12:Dat.good (Kernel.mk (([]:List Cell)++p0.Store) (Qcl p0.Txs) (Qah p0.Disk) p0.Seq p0.Next p0.Time v3 (([]:List ByteArray)++p0.Seen) p0.Room:Kernel):=⟨hg8,hg9,hg3,hg_p0.2.2.2.1,hg_p0.2.2.2.2.1,hg_p0.2.2.2.2.2.1,hg11,hg7,hg_p0.2.2.2.2.2.2.2.2⟩
  exact rz (rs:=[.cell 2 43]) (congrArg (fun x=>[Re.st Kernel _ inferInstance x]) hM)
end
section
theorem Ycu (l:List UInt8) (k:Nat):Qav ⟨l.toArray⟩ k=l.getD k 0:=by
 unfold Qav
 simp[Array.getD_eq_getD_getElem?,List.getD_eq_getElem?_getD]
theorem Q7f (p0:Disk): ∀ n i,Qds p0 n i=p0:=by
 intro n
 induction n with
 | zero=>intro i;rfl
 | succ n ih=>intro i;rw[Qds,ih]
theorem Qxr (p0:Disk):Qam p0=p0:=Q7f p0 _ _
theorem Yam (p0:Disk): ∀ n v i,i+n=p0.Slots.length→v=p0.Slots.take i→Qej p0 n v i=p0:=by
 intro n
 induction n with
 | zero =>
  intro v i hi hv
  rw[Qej,hv,List.take_of_length_le (by omega)]
 | succ n ih =>
  intro v i hi hv
  rw[Qej]
  refine ih _ (i+1) (by omega) ?_
  rw[hv,Qg4 (by omega),List.nil_append]
theorem Qyu (p0:Disk):Qah p0=p0:=Yam p0 _ _ 0 (by omega) rfl
theorem Ya0 (a:Int) {c:Int} (h:0≤c):Qeg a 0 c=Qbv a 0 c:=by
 unfold Qeg Qbv
 cases h1:(decide (c<0)||decide (a<0)) with
 | true =>
  have h2:c<0∨a<0:=by simpa using h1
  show max 0 (min a c)=0
  omega
 | false =>
  have h2:=of_decide_eq_false (Bool.or_eq_false_iff.1 h1).2
  cases h3:decide (a>c) with
  | true=>have h4:=of_decide_eq_true h3;show max 0 (min a c)=c;omega
  | false=>have h4:=of_decide_eq_false h3;show max 0 (min a c)=a;omega
theorem Q01 (p0:Journal):Qh8 p0=Qan p0:=rfl
theorem Qxk (p0:Journal) (p1:Int):Qd1 p0 p1=Qc4 p0 p1:=by
 unfold Qd1 Qc4
 rw[Q01]
 cases h:Qan p0 with
 | false=>rfl
 | true =>
  have hj:=Qlg h
  have hw1:i64.wrap ((p0.Text.size:Int) - p0.Sure)=(p0.Text.size:Int) - p0.Sure:=IntWalk.i64_in _ (by omega)
  rw[Bool.not_true,cond_false,cond_false,hw1,Ya0 _ (by omega)]
  have hbr:=Qps p1 (c:=(p0.Text.size:Int) - p0.Sure) (by omega)
  rw[IntWalk.i64_in (p0.Sure+Qbv p1 0 ((p0.Text.size:Int) - p0.Sure)) (by omega)]
  have hz0:0≤p0.Sure+Qbv p1 0 ((p0.Text.size:Int) - p0.Sure)∧p0.Sure+Qbv p1 0 ((p0.Text.size:Int) - p0.Sure)≤(p0.Text.size:Int):=by omega
  generalize p0.Sure+Qbv p1 0 ((p0.Text.size:Int) - p0.Sure)=z at hz0 ⊢
  have hz:((cutS p0.Text 0 z.toNat).size:Int)=z:=by
   unfold cutS
   rw[ByteArray.size_extract]
   omega
  rw[hz]
theorem Qxl (p0:Disk) (p1:Int): ∀ n v i,Qd2 p0 p1 n v i=Qc5 p0 p1 n v i:=by
 intro n
 induction n with
 | zero=>intro v i;rw[Qd2,Qc5,Qxk,Qyu]
 | succ n ih=>intro v i;rw[Qd2,Qc5,ih]
theorem Qtw (p0:Disk) (p1:Int):Qar p0 p1=Qao p0 p1:=by
 unfold Qar Qao
 rw[Qxr,Qyu,Qmu,Qxl]
end
section
theorem Q3c (p0:List Entry): ∀ n i,Qdh p0 n i=p0:=by
 intro n
 induction n with
 | zero=>intro i;rfl
 | succ n ih=>intro i;rw[Qdh,ih]
theorem Yak (p0:List Entry):Qh0 p0=p0:=Q3c p0 _ _
end
section
def sumS (xs:List ByteArray):Nat:=(xs.map ByteArray.size).sum
theorem Qpk (x:ByteArray) (xs:List ByteArray):sumS (x::xs)=x.size+sumS xs:=rfl
theorem Q73 (xs ys:List ByteArray):sumS (xs++ys)=sumS xs+sumS ys:=by unfold sumS;rw[List.map_append,List.sum_append]
theorem Q2g {sep:ByteArray} (hs:sep.size=1): ∀ (k:Nat) (s:ByteArray),sumS (Lib.splitB sep 1 k s)≤s.size
 | 0,s=>by rw[Lib.splitB_zero];exact Nat.le_refl _
 | k + 1, s => by
  rcases Lib.indexB_cases s sep with h | ⟨i,h,_⟩
  ·rw[Lib.splitB_miss sep 1 (k+1) s h];exact Nat.le_refl _
  ·rw[Lib.splitB_hit sep 1 k s i h,Qpk]
   have:=Q2g hs k (s.extract (i+sep.size) s.size)
   rw[ByteArray.size_extract] at this
   rw[ByteArray.size_extract]
   omega
theorem Q5w: ∀ xs,sumS (Qmf xs)≤sumS xs
 | []=>Nat.le_refl _
 | x :: xs => by
  have:=Q5w xs
  unfold Qmf at this ⊢
  rw[List.filter_cons]
  split
  ·rw[Qpk,Qpk];omega
  ·rw[Qpk];omega
theorem Q7u (p0:ByteArray):sumS (Qbk p0)≤p0.size:=Nat.le_trans (Q5w _) (Q2g rfl _ _)
theorem Q72 (xs:List ByteArray) (i:Nat):sumS (xs.take i)≤sumS xs:=by
 have:=Q73 (xs.take i) (xs.drop i)
 rw[List.take_append_drop] at this
 omega
theorem Qpe (p0:ByteArray) (p1:Int) (hq:p0.size≤1048576): ∀ n v s i,i+n=(Qbk p0).length→0≤s→s≤(sumS ((Qbk p0).take i):Int)→0≤(Qbj p0 p1 n v s i).2∧(Qbj p0 p1 n v s i).2≤(p0.size:Int):=by
 have ht:=Q7u p0
 intro n
 induction n with
 | zero =>
  intro v s i _ h0 h1
  have:=Q72 (Qbk p0) i
  exact⟨h0,by show s≤_;omega⟩
 | succ n ih =>
  intro v s i hi h0 h1
  have h2:=Q72 (Qbk p0) (i+1)
  have h3:=Qg4 (xs:=Qbk p0) (i:=i) (by omega)
  have h4:=Q73 ((Qbk p0).take i) [nth (Qbk p0) i]
  rw[←h3,Qpk] at h4
  have hw:=IntWalk.i64_in (s+((nth (Qbk p0) i).size:Int)) (by omega)
  have h5:=ih (bif (!((decide ((v.length:Int)=0))&&(decide (((Qaw (nth (Qbk p0) i)).1)<p1)))) then(v++[(Qaw (nth (Qbk p0) i)).2.1]) else v) (i64.wrap (s+((nth (Qbk p0) i).size:Int))) (i+1) (by omega) (by omega) (by omega)
  rw[Qbj]
  cases(!((Qaw (nth (Qbk p0) i)).2.2))||((!((decide ((v.length:Int)=0))&&(decide (((Qaw (nth (Qbk p0) i)).1)<p1))))&&(!decide (((Qaw (nth (Qbk p0) i)).1)=(i64.wrap (p1+(v.length:Int)))))) with
  | true=>exact⟨h0,by show s≤_;omega⟩
  | false=>exact h5
theorem Qmj (p0:ByteArray) (p1:Int) (hq:p0.size≤1048576):0≤(Qac p0 p1).2∧(Qac p0 p1).2≤(p0.size:Int):=by
 unfold Qac
 cases !(Qcd p1 1 100000) with
 | true=>exact⟨Int.le_refl _,by show(0:Int)≤_;omega⟩
 | false=>exact Qpe p0 p1 hq _ _ _ 0 (by omega) (Int.le_refl _) (by show(0:Int)≤_;omega)
theorem Qrp (p0:ByteArray) (p1:Int) (hq:p0.size≤1048576):0≤(Qal p0 p1).2∧(Qal p0 p1).2≤(p0.size:Int):=by
 rw[←Qgq]
 exact Qmj p0 p1 hq
theorem Qp2 (p0:ByteArray) (p1:Int): ∀ n v s i,I64 s→I64 (Qbj p0 p1 n v s i).2:=by
 intro n
 induction n with
 | zero=>intro v s i h;exact h
 | succ n ih =>
  intro v s i h
  rw[Qbj]
  cases(!((Qaw (nth (Qbk p0) i)).2.2))||((!((decide ((v.length:Int)=0))&&(decide (((Qaw (nth (Qbk p0) i)).1)<p1))))&&(!decide (((Qaw (nth (Qbk p0) i)).1)=(i64.wrap (p1+(v.length:Int)))))) with
  | true=>exact h
  | false=>exact ih _ _ _ (Qk0 _)
theorem Qm5 (p0:ByteArray) (p1:Int):I64 (Qac p0 p1).2:=by
 unfold Qac
 cases !(Qcd p1 1 100000) with
 | true=>exact(show I64 0 from⟨by decide,by decide⟩)
 | false=>exact Qp2 p0 p1 _ _ _ _ (show I64 0 from⟨by decide,by decide⟩)
theorem Qsg (p0:ByteArray) (p1:Int):I64 (Qal p0 p1).2:=by
 rw[←Qgq]
 exact Qm5 p0 p1
end
section
theorem Qu1 {j:Journal} {k:Int} {N:Nat} (hs:Dat.small N j):Dat.small N (Qc4 j k):=by
 unfold Qc4
 cases !(Qan j) with
 | true=>exact hs
 | false=>exact⟨Qtf hs.1,trivial⟩
theorem Q5o {α:Type} [Dat α] {xs:List α} {N i:Nat} {x:α} (h:Dat.small N xs) (hx:Dat.small N x):Dat.small N (xs.set i x):=⟨by rw[length_set];exact h.1,fun y hy=>by rcases List.mem_or_eq_of_mem_set hy with h1 | rfl;exact h.2 y h1;exact hx⟩
theorem Qu2 {d:Disk} {k:Int} {N:Nat} (hj:Dat.small N (Qah d).Journal): ∀ n v i,Dat.small N v→Dat.small N (Qc5 d k n v i):=by
 intro n
 induction n with
 | zero=>intro v i h;exact⟨h,Qu1 hj⟩
 | succ n ih =>
  intro v i h
  rw[Qc5]
  refine ih _ _ ?_
  cases !((nth v i).Whole) with
  | true=>exact Q5o h ⟨trivial,⟨Nat.zero_le _,fun _ h=>nomatch h⟩,trivial⟩
  | false=>exact h
theorem Qrh {d:Disk} {N:Nat} (hs:Dat.small N d) (k:Int):Dat.small N (Qao d k):=by
 have hc:Dat.small N (Qah d):=by rw[Qyu];exact hs
 unfold Qao
 cases !(Qdv (Qah d)) with
 | true=>exact hc
 | false=>exact Qu2 hc.2 _ _ _ hc.1
theorem Qmm {d:Disk} {N:Nat} (hs:Dat.small N d) (k:Int):Dat.small N (Qar d k):=by
 rw[Qtw]
 exact Qrh hs k
theorem Q7p (x:Tx):Qiz x=x:=rfl
theorem Yh5 (x:Tx):Qji x=x:=rfl
theorem Q2w (p0:List Tx): ∀ n v i,i+n=p0.length→v=p0.take i→Qel p0 n v i=p0:=by
 intro n
 induction n with
 | zero =>
  intro v i hi hv
  rw[Qel,hv,List.take_of_length_le (by omega)]
 | succ n ih =>
  intro v i hi hv
  rw[Qel]
  refine ih _ (i+1) (by omega) ?_
  rw[hv,Qg4 (by omega),Q7p]
theorem Q98 (p0:List Tx):Qgc p0=p0:=Q2w p0 _ _ 0 (by omega) rfl
theorem Ybv (p0:List Tx): ∀ n v i,i+n=p0.length→v=p0.take i→Qek p0 n v i=p0:=by
 intro n
 induction n with
 | zero =>
  intro v i hi hv
  rw[Qek,hv,List.take_of_length_le (by omega)]
 | succ n ih =>
  intro v i hi hv
  rw[Qek]
  refine ih _ (i+1) (by omega) ?_
  rw[hv,Qg4 (by omega),Yh5]
theorem Ybw (p0:List Tx):Qcl p0=p0:=Ybv p0 _ _ 0 (by omega) rfl
theorem Qmg (p0:Kernel):Qaf p0=p0:=by
 unfold Qaf
 rw[Q98,Qxr,Yak]
 rfl
theorem Q64 (e:Entry):Qio e=e:=rfl
theorem Ybu (p0:Kernel): ∀ n v i,i+n=p0.History.length→v=p0.History.take i→Qei p0 n v i=p0:=by
 intro n
 induction n with
 | zero =>
  intro v i hi hv
  rw[Qei,hv,List.take_of_length_le (by omega),Ybw,Qyu]
  rfl
 | succ n ih =>
  intro v i hi hv
  rw[Qei]
  refine ih _ (i+1) (by omega) ?_
  rw[hv,Qg4 (by omega),Q64]
theorem Q2k (p0:Kernel):Qaa p0=p0:=Ybu p0 _ _ 0 (by omega) rfl
theorem Qn8 (d:Disk): -9223372036854775808≤(Qba d).2∧(Qba d).2≤9223372036854775807:=by
 rw[Qi8]
 unfold Qay
 cases Qdv d with
 | false=>exact(show(-9223372036854775808:Int)≤0∧(0:Int)≤9223372036854775807 from⟨by decide,by decide⟩)
 | true =>
  obtain⟨z,hz⟩:=Ql2 d _ _ 0
  have h:=Qk0 z
  unfold I64 at h
  rw[Bool.not_true,cond_false,hz]
  omega
theorem Qnx (d:Disk): -9223372036854775808≤(Qay d).2∧(Qay d).2≤9223372036854775807:=by
 rw[←Qi8]
 exact Qn8 d
end
section
theorem Yi8:FnOk Tryz.prog 233:=⟨_,Tryz.func233,rfl,by kernel_rfl⟩
theorem Yi7:FnOk Tryz.prog 234:=⟨_,Tryz.func234,rfl,by kernel_rfl⟩
def Qe7 (p0:List Tx):Nat→(List Int)→Nat→(List Int)
 | 0,v3,i=>v3
 | n+1,v3,i=>Qe7 p0 n (bif (decide (((nth p0 i).State)=1)) then(v3++[(nth p0 i).Id]) else v3) (i+1)
def Qdu (p0:List Tx):(List Int):=Qe7 p0 (p0.length - 0) ([]:List Int) 0
theorem Qou (p0:List Tx) (hb:p0.length≤1073741824):CTs 68 [.o (.sl Tx instDatTx p0)] [Re.sl Int instDatInt (Qdu p0)]:=by
 refine en Tryz.func68 Tryz.ntmps68 fun w hG hgd=>?_
 obtain⟨hg_p0,_⟩:=hgd
 have hl_p0:p0.length≤9223372036854775807:=hg_p0.1
 have hM:=Qdu.eq_1 p0
 refine ad 6 ?_
 refine op (l0) ?_
 refine ad 8 ?_
 refine li 1 (d:=instDatInt) ([]:List Int) ?_
 refine Run.loopM (ι:=(List Int)×Nat) (fun s=>Qe7 p0 (p0.length - s.2) s.1 s.2) (fun s=>⟨27,2,[(0,.sl 0 p0.length),(3,.sl 1 s.1.length),(4,.v (.int .i64 (s.2:Int)))],[(0,.ros Tx instDatTx p0),(1,.own Int instDatInt s.1)]⟩) (fun s=>s.2≤p0.length∧s.1.length≤s.2) (fun s=>p0.length - s.2) (([]:List Int),0) [0,1] [1,0] hM (by exact⟨by(try dsimp only);omega,by simp⟩) su (by decide) ?_
 rintro ⟨v3,i⟩ hv hE
 try dsimp only at hE
 obtain⟨hi,hv0⟩:=hv
 try dsimp only at hi hv0
 refine ad 8 ?_
 refine cd (fun h1=>?_) (fun h1=>?_)
 ·
  have h1l:i<p0.length:=dtl h1
  have hM:=hE.trans ((congrArg (fun n=>Qe7 p0 n v3 i) (sb1 h1l)).trans (Qe7.eq_2 _ _ _ _))
  have hgi1: -9223372036854775808≤(nth p0 i).Id:=(Qai (k:=i) hg_p0 om).1.1
  have hgi2:(nth p0 i).Id≤9223372036854775807:=(Qai (k:=i) hg_p0 om).1.2
  refine ad 7 ?_
  have hg3:=Qai (k:=i) hg_p0 om
  refine op (ix (xs:=p0) i om) ?_
  refine ad 4 ?_
  refine Run.mid ⟨27,2,[(0,.sl 0 p0.length),(3,.sl 1 ((bif (decide (((nth p0 i).State)=1)) then(v3++[(nth p0 i).Id]) else v3).length)),(4,.v (.int .i64 (i:Int)))],[(0,.ros Tx instDatTx p0),(1,.own Int instDatInt (bif (decide (((nth p0 i).State)=1)) then(v3++[(nth p0 i).Id]) else v3))]⟩ ?_ ?_
  ·refine cd (fun h4=>?_) (fun h4=>?_)
   ·
    refine ad 4 ?_
    have hg6:=Qai (k:=i) hg_p0 om
    refine op (ix (xs:=p0) i om) ?_
    refine ad 3 ?_
    refine op (ap [(nth p0 i).Id] (hg:=gdt) (hb:=by simp only[List.length_cons,List.length_nil];first | omega | exact om)) ?_
    refine ad 2 ?_
    exact Run.at [0,15] [13,14] (by first | exact su | (rw[h4];exact su)) (by decide)
   ·
    refine ad 1 ?_
    exact Run.at [0,1] [6,7] (by first | exact su | (rw[h4];exact su)) (by decide)
  refine ad 4 ?_
  rw[Qb3 (i:=i) om]
  refine ad 2 ?_
  exact Run.again (bif (decide (((nth p0 i).State)=1)) then(v3++[(nth p0 i).Id]) else v3,(i+1)) [0,1] [0,1] ⟨by exact⟨by(try dsimp only);omega,by(try dsimp only);((try simp only[Bool.cond_eq_ite]);(repeat' split);all_goals ((try simp only[length_append,length_cons,length_nil]);omega))⟩,hM⟩ rfl lv1 su (by decide)
 ·
  have h1l: ¬ (i<p0.length):=dfl h1
  have hM:=hE.trans ((congrArg (fun n=>Qe7 p0 n v3 i) (sb0 h1l)).trans (Qe7.eq_1 _ _ _))
  refine ad 6 ?_
  exact rz (rs:=[.tmp 2]) (congrArg (fun x=>[Re.sl Int instDatInt x]) hM)
def Qcx (p0:List Tx) (p1:Int):Nat→Nat→Int
 | 0,i=>(-1)
 | n+1,i=>bif decide (((nth p0 i).Id)=p1) then(i:Int) else(Qcx p0 p1 n (i+1))
def Qjd (p0:List Tx) (p1:Int):Int:=Qcx p0 p1 (p0.length - 0) 0
theorem Q3m (p0:List Tx) (p1:Int):CTs 186 [.o (.sl Tx instDatTx p0),.o (.c (.int .i64 p1))] [Re.c (.int .i64 (Qjd p0 p1))]:=by
 refine en Tryz.func186 Tryz.ntmps186 fun w hG hgd=>?_
 obtain⟨hg_p0,_⟩:=hgd
 have hl_p0:p0.length≤9223372036854775807:=hg_p0.1
 have hM:=Qjd.eq_1 p0 p1
 refine ad 10 ?_
 refine Run.loopM (ι:=Nat) (fun s=>Qcx p0 p1 (p0.length - s) s) (fun s=>⟨20,1,[(0,.sl 0 p0.length),(1,.v (.int .i64 p1)),(5,.v (.int .i64 (s:Int)))],[(0,.ros Tx instDatTx p0)]⟩) (fun s=>s≤p0.length) (fun s=>p0.length - s) 0 [0] [0] hM lv0 su (by decide) ?_
 rintro i hv hE
 try dsimp only at hE
 have hi:=hv
 try dsimp only at hi
 refine ad 8 ?_
 refine cd (fun h1=>?_) (fun h1=>?_)
 ·
  have h1l:i<p0.length:=dtl h1
  have hM:=hE.trans ((congrArg (fun n=>Qcx p0 p1 n i) (sb1 h1l)).trans (Qcx.eq_2 _ _ _ _))
  refine ad 7 ?_
  have hg3:=Qai (k:=i) hg_p0 om
  refine op (ix (xs:=p0) i om) ?_
  refine ad 5 ?_
  refine cd (fun h4=>?_) (fun h4=>?_)
  ·
   have hM:=hM.trans (bt h4)
   refine ad 5 ?_
   exact rz (rs:=[.tmp 4]) (rzI hM)
  ·
   have hM:=hM.trans (bf h4)
   refine ad 5 ?_
   rw[Qb3 (i:=i) om]
   refine ad 2 ?_
   exact Run.again (i+1) [0] [6] ⟨by first | omega | exact trivial | (dsimp only;omega) | (refine⟨by omega,?_⟩;simp_all;try omega),hM⟩ rfl lv1 su (by decide)
 ·
  have h1l: ¬ (i<p0.length):=dfl h1
  have hM:=hE.trans ((congrArg (fun n=>Qcx p0 p1 n i) (sb0 h1l)).trans (Qcx.eq_1 _ _ _))
  refine ad 5 ?_
  exact rz (rs:=[.tmp 4]) (rzI hM)
def Qop (p0:Tx) (c0:Int):Bool:=decide (p0.Id=c0)
theorem Qzf (p0:Tx) (c0:Int):CTs 234 [.o (.st Tx _ inferInstance p0),.o (.rp Int instDatInt inferInstance c0)] [Re.c (.bool (Qop p0 c0))]:=by
 refine en Tryz.func234 Tryz.ntmps234 fun w hG hgd=>?_
 obtain⟨hg_p0,hg_c0,_⟩:=hgd
 have hM:=Qop.eq_1 p0 c0
 refine ad 13 ?_
 exact rz (rs:=[.tmp 3]) (rzB hM)
def Qcg (p0:List Tx) (p1_0:Int):Nat→Nat→Int
 | 0,i=>(-1)
 | n+1,i=>bif Qop (nth p0 i) p1_0 then(i:Int) else(Qcg p0 p1_0 n (i+1))
def Qje (p0:List Tx) (p1_0:Int):Int:=Qcg p0 p1_0 (p0.length - 0) 0
theorem Qqa (p0:List Tx) (p1_0:Int) (hk: -9223372036854775808≤p1_0∧p1_0≤9223372036854775807):CTs 233 [.o (.sl Tx instDatTx p0),.fn 234 [.rp Int instDatInt inferInstance p1_0]] [Re.c (.int .i64 (Qje p0 p1_0))]:=by
 refine en Tryz.func233 Tryz.ntmps233 fun w hG hgd=>?_
 obtain⟨hg_p0,_⟩:=hgd
 have hl_p0:p0.length≤9223372036854775807:=hg_p0.1
 have hM:=Qje.eq_1 p0 p1_0
 obtain⟨hk1,hk2⟩:=hk
 refine ad 12 ?_
 refine Run.loopM (ι:=Nat) (fun s=>Qcg p0 p1_0 (p0.length - s) s) (fun s=>⟨19,2,[(0,.sl 0 p0.length),(1,.fn 234 [.pt 1 0]),(7,.v (.int .i64 (p0.length:Int))),(8,.v (.int .i64 (s:Int)))],[(0,.ros Tx instDatTx p0),(1,.roc [.v (.int .i64 p1_0)])]⟩) (fun s=>s≤p0.length) (fun s=>p0.length - s) 0 [0,1] [0,1] hM lv0 su (by decide) ?_
 rintro i hv hE
 try dsimp only at hE
 have hi:=hv
 try dsimp only at hi
 refine ad 5 ?_
 refine cd (fun h1=>?_) (fun h1=>?_)
 ·
  have h1l:i<p0.length:=dtl h1
  have hM:=hE.trans ((congrArg (fun n=>Qcg p0 p1_0 n i) (sb1 h1l)).trans (Qcg.eq_2 _ _ _ _))
  refine ad 13 ?_
  have hg3:=Qai (k:=i) hg_p0 om
  refine op (ix (xs:=p0) i om) ?_
  refine ad 1 ?_
  have hg4:Dat.good (nth p0 i:Tx):=hg3
  refine op (cl (Qzf (nth p0 i) p1_0) Yi7) ?_
  refine ad 1 ?_
  refine cd (fun h5=>?_) (fun h5=>?_)
  ·
   have hM:=hM.trans (bt h5)
   refine ad 5 ?_
   exact rz (rs:=[.tmp 4]) (rzI hM)
  ·
   have hM:=hM.trans (bf h5)
   refine ad 4 ?_
   rw[Qb3 (i:=i) om]
   refine ad 2 ?_
   exact Run.again (i+1) [0,1] [6,7] ⟨by first | omega | exact trivial | (dsimp only;omega) | (refine⟨by omega,?_⟩;simp_all;try omega),hM⟩ rfl lv1 su (by decide)
 ·
  have h1l: ¬ (i<p0.length):=dfl h1
  have hM:=hE.trans ((congrArg (fun n=>Qcg p0 p1_0 n i) (sb0 h1l)).trans (Qcg.eq_1 _ _ _))
  refine ad 5 ?_
  exact rz (rs:=[.tmp 4]) (rzI hM)
def Qmk (p0:List Tx) (p1:Int):Int:=(Qje p0 p1)
theorem Q35 (p0:List Tx) (p1:Int) (hk: -9223372036854775808≤p1∧p1≤9223372036854775807):CTs 191 [.o (.sl Tx instDatTx p0),.o (.c (.int .i64 p1))] [Re.c (.int .i64 (Qmk p0 p1))]:=by
 refine en Tryz.func191 Tryz.ntmps191 fun w hG hgd=>?_
 obtain⟨hg_p0,_⟩:=hgd
 have hl_p0:p0.length≤9223372036854775807:=hg_p0.1
 have hM:=Qmk.eq_1 p0 p1
 refine ad 9 ?_
 refine op (cl (Qqa p0 p1 lv5) Yi8) ?_
 refine ad 2 ?_
 exact rz (rs:=[.tmp 4]) (rzI hM)
end
section
def Yc2 {α:Type} (σ:St) (d:Nat) (B:Bool) (dα:Dat α) (ys:List α):St:=⟨σ.n,σ.m+1,(d,.gd B (.sl σ.m ys.length))::σ.ρ,(σ.m,.ros α dα ys)::σ.E⟩
theorem OpS.partG {c:Cx} {σ:St} {all:Array Oper} {ty:TypeId} {pos:String} {after:Array Edge} {d:Nat} {α:Type} {dα:Dat α} {t e by' r len:Nat} {x y:Operand} {i:Int} {h j:Nat} {want B:Bool} {xs:List α} (hB:gB σ.ρ all j want=some B) (hx:evG σ.ρ x=some (.sl r len)) (hy:evG σ.ρ y=some (.v (.int .i64 i))) (hside:B=true→Qf8 B True σ.ρ [x,y]) (hp:lkE σ.E r=some (.ros α dα xs)) (hlen:len=xs.length) (ht:c.ti t= .sl e (Dat.sz α) by') (hd:Nat.blt d σ.n=true) (hi:B=true→i=h) (h2:h≤xs.length):
  OpS c σ all ⟨some d,.slice t x none (some y) none,ty,pos,after,some (j,want)⟩ (Yc2 σ d B dα (xs.take h)):=by
 intro θ a w hR K Q hK
 have hw:=Q53 hR (o:=⟨some d,.slice t x none (some y) none,ty,pos,after,some (j,want)⟩) rfl hB
 rw[hw]
 subst hlen
 obtain⟨S,w1,hh⟩:=hR.heap
 obtain⟨lc,hlc,hr⟩:=hh.ok _ (Qe1 hp)
 simp only at hlc
 have hcap:=(Quw hr).1
 have hr1:=hr.take h
 have e1:(xs.take h).length=h:=by rw[List.length_take];omega
 have hg:(θ++[⟨lc.A,lc.cap,[]⟩])[σ.m]?=some (⟨lc.A,lc.cap,[]⟩:Loc):=by rw[←hR.len];exact Qfu
 have fin: ∀ u,(V.gd B (.sl σ.m (xs.take h).length)).con (θ++[⟨lc.A,lc.cap,[]⟩])=some u→K (a.put (some d) u) w:=fun u hu=>
  hK [⟨lc.A,lc.cap,[]⟩] _ w ⟨by rw[length_append,hR.len];rfl,(hR.env.ext).put hd hu,S,w1,(hh.ext (θ':=[⟨lc.A,lc.cap,[]⟩])).fact rfl ⟨_,hg,hr1⟩⟩
 cases B with
 | false =>
  rw[if_neg (by simp)]
  exact fin _ rfl
 | true =>
  rw[if_pos rfl]
  have hi:=hi rfl
  subst hi
  have h1:=Qho hR.env rfl (hside rfl) x (by simp) _ hx
  have h2':=Qho hR.env rfl (hside rfl) y (by simp) _ hy
  have hc:=h1.1
  simp only[V.con,hlc,Option.some.injEq] at hc
  have hu:=(Qbd (c.tsl ht)).1
  obtain⟨inf,hin,hsz,_⟩:=(Qbd (c.tsl ht)).2
  have hA0:lc.A.map (fun b=>b.add 0)=lc.A:=by cases lc.A<;>simp[Addr.add]
  have hex:a.eval y= .int .i64 (h:Int):=by have:=h2'.1;simp only[V.con,Option.some.injEq] at this;exact this.symm
  have hle:h≤lc.cap:=by omega
  have hrun:(execOp a.eval ⟨some d,.slice t x none (some y) none,ty,pos,after,some (j,want)⟩).run c.P w= .ok (.value (.slice lc.A h lc.cap)) w:=by
   simp[execOp,←hc,hex,Instr.sliceAt,Instr.slice,run_underlying hu,Instr.sliceBounds,Instr.sliceBound,asIntOf,hle,sizeOf,typeInfo,hin,hA0]
  unfold Oper.wp
  rw[hrun,Oper.upon_value]
  refine fin _ ?_
  simp only[V.con,hg,e1]
section
variable {fn:Func} {Bz:Bs} {S1:Nat→Prop} {w1:World} {hk1:Keep Bz.S0 Bz.w w1} {hs1: ∀ b,Bz.S0 b→S1 b} {hd1: ∀ b,S1 b→b<w1.heap.size} {σ:St} {all:Array Oper} {ty:TypeId} {pos:String} {after:Array Edge} {d:Nat}
theorem paG {α:Type} {dα:Dat α} {t e by' r len j:Nat} {x y:Operand} {i:Int} {want B:Bool} {xs:List α} (h:Nat) (h2:h≤xs.length) (hB:gB σ.ρ all j want=some B:=by exact Dq0) (hx:evG σ.ρ x=some (.sl r len):=by exact Dq0) (hy:evG σ.ρ y=some (.v (.int .i64 i)):=by exact Dq0)
  (hside:B=true→Qf8 B True σ.ρ [x,y]:=by intro h;first | exact trivial | (dsimp only[Qf8,sdV,ev,lk,cond,Nat.beq,V.side,List.toList_toArray];(repeat' apply And.intro)<;>first | exact trivial | exact h | exact fun h=>h | exact(Bool.and_eq_true_iff.1 h).1 | exact(Bool.and_eq_true_iff.1 h).2 | exact fun h=>(Bool.and_eq_true_iff.1 h).1 | exact fun h=>(Bool.and_eq_true_iff.1 h).2 | exact fun h=>(Bool.and_eq_true_iff.1 (Bool.and_eq_true_iff.1 h).1).1 | (intro h;simp_all)))
  (hp:lkE σ.E r=some (.ros α dα xs):=by exact Dq0) (hl:len=xs.length:=by first | rfl | simp only[List.length_set]) (hi:B=true→i=h:=by intro _;rfl) (ht:ti t= .sl e (Dat.sz α) by':=by rfl) (hd:Nat.blt d σ.n=true:=by rfl):
  OpS (cx fn Bz S1 w1 hk1 hs1 hd1) σ all ⟨some d,.slice t x none (some y) none,ty,pos,after,some (j,want)⟩ ⟨σ.n,σ.m+1,(d,.gd B (.sl σ.m (xs.take h).length))::σ.ρ,(σ.m,.ros α dα (xs.take h))::σ.E⟩:=OpS.partG hB hx hy hside hp hl ht hd hi h2
theorem gOt {op:Op} {j:Nat} {want B:Bool} {v:V} {p:Prop} (hB:gB σ.ρ all j want=some B:=by exact Dq0) (hv:gOp ti zr σ.ρ σ.E B op True=some (v,p):=by dsimp only[Qsd,ti_9,ti_3,ncV,szA,cvV,rnR,rnE,V.rn,rnL,En.rn,Qhd,memN,Qdm,an,stK,cdK,opK,gdK,nvK,Qq6,Qqy,blK,bsK,stW,stV,ptK,litD,litC,pkV,wrV,binV,unV,ldV,faW,faV,agO,blV,exV,mfV,lenV,caV,Qz5,Qyp,stO',sdV,Qa9,grdO,gBV,gPw,gPk,gGo,gK,gK1,gK2,tkK,tk1,rvsV,rvV,Nat.reduceAdd,Nat.reduceSub,Nat.reduceMul,advN,adv1,stO,litV,Qul,Qoz,pv,ev,evs,lk,lkE,setE,putE,put,cond,ldC,ldE,nthN,tuAt,bin,bi,bs,bb,ikq,TI.cells,V.cells,V.one,oneL,Qrl,grd,nthO,beqB,gB,wnt,gOp,adG,adG1,Qx5,Qf8,evG,V.side,V.strip,Qcp,Qdt,Qey,Qdl,Qkk,Qgg,Qh1,Qka,Qpg,Qld,Qnr,ini,Qm2,opn,nsl,adD,Ql6,Str.fk,Nat.blt,Nat.succ_eq_add_one,Nat.ble,Nat.beq,Nat.pred,Nat.add_zero,Nat.zero_add,Nat.add_eq,List.toList_toArray,List.length,List.length_cons,List.length_nil,List.take,List.drop,List.append_nil,List.nil_append,List.cons_append,List.map,List.take_succ_cons,List.take_zero,List.take_nil,List.drop_succ_cons,List.drop_zero,List.drop_nil,List.size_toArray,List.getD,id,Op.operands,Call.operands,Value.cells,Array.size_empty])
  (hp:p:=by(repeat' apply And.intro)<;>first | exact trivial | exact fun h=>h | exact fun h=>(Bool.and_eq_true_iff.1 h).1 | exact fun h=>(Bool.and_eq_true_iff.1 h).2 | exact fun h=>(Bool.and_eq_true_iff.1 (Bool.and_eq_true_iff.1 h).1).1 | (intro h;simp_all)) (hd:Nat.blt d σ.n=true:=by rfl):
  OpS (cx fn Bz S1 w1 hk1 hs1 hd1) σ all ⟨some d,op,ty,pos,after,some (j,want)⟩ (put d (.gd B v) σ):=OpS.g1 hB hv hp hd
end
end
section
theorem Q2m:FnOk Tryz.prog 231:=⟨_,Tryz.func231,rfl,by kernel_rfl⟩
theorem Yca:FnOk Tryz.prog 257:=⟨_,Tryz.func257,rfl,by kernel_rfl⟩
theorem Yiq:FnOk Tryz.prog 275:=⟨_,Tryz.func275,rfl,by kernel_rfl⟩
theorem Yb8:FnOk Tryz.prog 296:=⟨_,Tryz.func296,rfl,by kernel_rfl⟩
theorem Q8l:FnOk Tryz.prog 297:=⟨_,Tryz.func297,rfl,by kernel_rfl⟩
theorem Yim:FnOk Tryz.prog 298:=⟨_,Tryz.func298,rfl,by kernel_rfl⟩
def Qbo (p0:ByteArray):ByteArray×Bool:=bif (decide ((p0.size:Int)>0))&&(decide (((Qav p0 ((i64.wrap ((p0.size:Int) - 1)).toNat)).toNat:Int)=42)) then(cutS p0 0 ((i64.wrap ((p0.size:Int) - 1)).toNat),true) else(p0,false)
theorem Qnl (p0:ByteArray) (hz_p0:p0.size≤9223372036854775807):CTs 296 [.o (.c (.string p0))] [Re.c (.string ((Qbo p0).1)),Re.c (.bool ((Qbo p0).2))]:=by
 refine en Tryz.func296 Tryz.ntmps296 fun w hG hgd=>?_
 have hM:=Qbo.eq_1 p0
 have hw1:i64.wrap ((p0.size:Int) - 1)=(p0.size:Int) - 1:=IntWalk.i64_in _ (by omega)
 refine ad 17 ?_
 refine ag 3 ?_
 refine op (sG (s:=p0) ((i64.wrap ((p0.size:Int) - 1)).toNat) (hk:=fun hB=>by(try simp at hB);omega) (hi:=fun hB=>by(try simp at hB);omega)) ?_
 refine ag 2 ?_
 refine ad 1 ?_
 refine cd (fun h1=>?_) (fun h1=>?_)
 ·
  have hM:=hM.trans (bt h1)
  refine ad 5 ?_
  refine op (cu 0 ((i64.wrap ((p0.size:Int) - 1)).toNat) (hl:=rfl)) ?_
  refine ad 3 ?_
  exact rz (rs:=[.tmp 2,.tmp 3]) (congrArg (fun x=>[Re.c (.string x.1),Re.c (.bool x.2)]) hM)
 ·
  have hM:=hM.trans (bf h1)
  refine ad 7 ?_
  exact rz (rs:=[.tmp 2,.tmp 3]) (congrArg (fun x=>[Re.c (.string x.1),Re.c (.bool x.2)]) hM)
def Qh3 (p0:ByteArray) (p1:ByteArray):Bool:=(decide ((p0.size:Int)≥(p1.size:Int)))&&(decide ((cutS p0 0 p1.size)=p1))
theorem Qjc (p0:ByteArray) (p1:ByteArray):CTs 297 [.o (.c (.string p0)),.o (.c (.string p1))] [Re.c (.bool (Qh3 p0 p1))]:=by
 refine en Tryz.func297 Tryz.ntmps297 fun w hG hgd=>?_
 have hM:=Qh3.eq_1 p0 p1
 refine ad 12 ?_
 refine Run.midO ⟨18,0,[(4,.v (.bool ((decide ((p0.size:Int)≥(p1.size:Int)))&&(decide ((cutS p0 0 p1.size)=p1)))))],[]⟩ ?_ ?_
 ·refine bc 10 (fun h1=>?_) (fun h1=>?_)
  ·
   refine ad 7 ?_
   refine op (cu 0 p1.size (hl:=rfl)) ?_
   refine ad 7 ?_
   exact Run.at [] [] (by first | exact su | (rw[h1];exact su)) (by decide)
  ·
   refine ad 9 ?_
   exact Run.at [] [] (by first | exact su | (rw[h1];exact su)) (by decide)
 exact rz (rs:=[.tmp 4]) (rzB hM)
def Qic (p0:ByteArray) (p1:ByteArray):Bool:=bif (Qbo p0).2 then(Qh3 p1 ((Qbo p0).1)) else(decide (p0=p1))
theorem Q0c (p0:ByteArray) (p1:ByteArray) (hz_p0:p0.size≤9223372036854775807):CTs 298 [.o (.c (.string p0)),.o (.c (.string p1))] [Re.c (.bool (Qic p0 p1))]:=by
 refine en Tryz.func298 Tryz.ntmps298 fun w hG hgd=>?_
 have hM:=Qic.eq_1 p0 p1
 refine ad 7 ?_
 refine op (cl (Qnl p0 hz_p0) Yb8) ?_
 refine ad 11 ?_
 refine cd (fun h1=>?_) (fun h1=>?_)
 ·
  have hM:=hM.trans (bt h1)
  refine ad 4 ?_
  refine op (cl (Qjc p1 ((Qbo p0).1)) Q8l) ?_
  refine ad 2 ?_
  exact rz (rs:=[.tmp 4]) (rzB hM)
 ·
  have hM:=hM.trans (bf h1)
  refine ad 8 ?_
  exact rz (rs:=[.tmp 4]) (rzB hM)
def Qcw (p0:ByteArray) (p1:ByteArray):Bool:=bif ((Qbo p0).2)&&((Qbo p1).2) then((Qh3 ((Qbo p0).1) ((Qbo p1).1))||(Qh3 ((Qbo p1).1) ((Qbo p0).1))) else(bif (Qbo p0).2 then(Qh3 p1 ((Qbo p0).1)) else(Qic p1 p0))
theorem Qw1 (p0:ByteArray) (p1:ByteArray) (hz_p0:p0.size≤9223372036854775807) (hz_p1:p1.size≤9223372036854775807):CTs 275 [.o (.c (.string p0)),.o (.c (.string p1))] [Re.c (.bool (Qcw p0 p1))]:=by
 refine en Tryz.func275 Tryz.ntmps275 fun w hG hgd=>?_
 have hM:=Qcw.eq_1 p0 p1
 refine ad 7 ?_
 refine op (cl (Qnl p0 hz_p0) Yb8) ?_
 refine ad 9 ?_
 refine op (cl (Qnl p1 hz_p1) Yb8) ?_
 refine ad 12 ?_
 refine ag 2 ?_
 refine ad 2 ?_
 refine cd (fun h1=>?_) (fun h1=>?_)
 ·
  have hM:=hM.trans (bt h1)
  refine ad 4 ?_
  refine op (cl (Qjc ((Qbo p0).1) ((Qbo p1).1)) Q8l) ?_
  refine ad 1 ?_
  refine ag 2 ?_
  refine op (cG (hct:=fun hB=>(Qjc ((Qbo p1).1) ((Qbo p0).1))) (hfn:=Q8l)) ?_
  refine ag 1 ?_
  refine ad 2 ?_
  exact rz (rs:=[.tmp 4]) (rzB hM)
 ·
  have hM:=hM.trans (bf h1)
  refine ad 5 ?_
  refine cd (fun h2=>?_) (fun h2=>?_)
  ·
   have hM:=hM.trans (bt h2)
   refine ad 4 ?_
   refine op (cl (Qjc p1 ((Qbo p0).1)) Q8l) ?_
   refine ad 2 ?_
   exact rz (rs:=[.tmp 4]) (rzB hM)
  ·
   have hM:=hM.trans (bf h2)
   refine ad 6 ?_
   refine op (cl (Q0c p1 p0 hz_p1) Yim) ?_
   refine ad 2 ?_
   exact rz (rs:=[.tmp 4]) (rzB hM)
def Qfb (p0:List ByteArray) (p1:List ByteArray) (i:Nat) (k_2:Unit→Bool):Nat→Nat→Bool
 | 0,i_2=>k_2 ()
 | n_2+1,i_2=>bif Qcw (nth p0 i) (nth p1 i_2) then true else(Qfb p0 p1 i k_2 n_2 (i_2+1))
def Qfc (p0:List ByteArray) (p1:List ByteArray):Nat→Nat→Bool
 | 0,i=>false
 | n+1,i=>Qfb p0 p1 i (fun e=>Qfc p0 p1 n (i+1)) (p1.length - 0) 0
def Qf7 (p0:List ByteArray) (p1:List ByteArray):Bool:=Qfc p0 p1 (p0.length - 0) 0
theorem Qnm (p0:List ByteArray) (p1:List ByteArray):CTs 257 [.o (.sl ByteArray instDatByteArray p0),.o (.sl ByteArray instDatByteArray p1)] [Re.c (.bool (Qf7 p0 p1))]:=by
 refine en Tryz.func257 Tryz.ntmps257 fun w hG hgd=>?_
 obtain⟨hg_p0,hg_p1,_⟩:=hgd
 have hl_p0:p0.length≤9223372036854775807:=hg_p0.1
 have hl_p1:p1.length≤9223372036854775807:=hg_p1.1
 have hM:=Qf7.eq_1 p0 p1
 refine ad 10 ?_
 refine Run.loopM (ι:=Nat) (fun s=>Qfc p0 p1 (p0.length - s) s) (fun s=>⟨28,2,[(0,.sl 0 p0.length),(1,.sl 1 p1.length),(5,.v (.int .i64 (s:Int)))],[(0,.ros ByteArray instDatByteArray p0),(1,.ros ByteArray instDatByteArray p1)]⟩) (fun s=>s≤p0.length) (fun s=>p0.length - s) 0 [0,1] [0,1] hM lv0 su (by decide) ?_
 rintro i hv hE
 try dsimp only at hE
 have hi:=hv
 try dsimp only at hi
 refine ad 8 ?_
 refine cd (fun h1=>?_) (fun h1=>?_)
 ·
  have h1l:i<p0.length:=dtl h1
  have hM:=hE.trans ((congrArg (fun n=>Qfc p0 p1 n i) (sb1 h1l)).trans (Qfc.eq_2 _ _ _ _))
  refine ad 8 ?_
  refine Run.loopkM (ι:=Nat) (κ:=Unit) (fun k s=>Qfb p0 p1 i k (p1.length - s) s) (fun s=>⟨28,2,[(0,.sl 0 p0.length),(1,.sl 1 p1.length),(5,.v (.int .i64 (i:Int))),(6,.v (.int .i64 (s:Int)))],[(0,.ros ByteArray instDatByteArray p0),(1,.ros ByteArray instDatByteArray p1)]⟩) (fun s=>s≤p1.length) (fun s=>p1.length - s) (fun e=>⟨28,2,[(0,.sl 0 p0.length),(1,.sl 1 p1.length),(5,.v (.int .i64 (i:Int)))],[(0,.ros ByteArray instDatByteArray p0),(1,.ros ByteArray instDatByteArray p1)]⟩) (fun e=>True) 0 [0,1] [0,1] hM lv0 su (by decide) ?_ ?_
  ·
   rintro _ hv hM
   try dsimp only at hM hv ⊢
   refine ad 4 ?_
   rw[Qb3 (i:=i) om]
   refine ad 2 ?_
   exact Run.again (i+1) [0,1] [0,1] ⟨by first | omega | exact trivial | (dsimp only;omega) | (refine⟨by omega,?_⟩;simp_all;try omega),hM⟩ rfl lv1 su (by decide)
  ·
   intro k_2 hk_2
   rintro i_2 hv_2 hE
   try dsimp only at hE
   have hi_2:=hv_2
   try dsimp only at hi_2
   refine ad 8 ?_
   refine cd (fun h2=>?_) (fun h2=>?_)
   ·
    have h2l:i_2<p1.length:=dtl h2
    have hM:=hE.trans ((congrArg (fun n=>Qfb p0 p1 i k_2 n i_2) (sb1 h2l)).trans (Qfb.eq_2 _ _ _ _ _ _))
    refine ad 4 ?_
    refine dr 9 fun _ _ _ _ _ hb=>?_
    refine tk [0,1] ?_
    have hg3:=Qai (k:=i) hg_p0 om
    refine tx 2 (dx (xs:=p0) i om) ?_
    refine tk [3,4,5] ?_
    have hg4:=Qai (k:=i_2) hg_p1 om
    refine tx 6 (dx (xs:=p1) i_2 om) ?_
    refine tk [7] ?_
    refine on 8 [2,3] (cl (Qw1 (nth p0 i) (nth p1 i_2) hg3 hg4) Yiq) ?_
    refine dn hb ?_
    refine cd (fun h5=>?_) (fun h5=>?_)
    ·
     have hM:=hM.trans (bt h5)
     refine ad 4 ?_
     exact rz (rs:=[.tmp 4]) (rzB hM)
    ·
     have hM:=hM.trans (bf h5)
     refine ad 5 ?_
     rw[Qb3 (i:=i_2) om]
     refine ad 2 ?_
     exact Run.again (i_2+1) [0,1] [2,3] ⟨by first | omega | exact trivial | (dsimp only;omega) | (refine⟨by omega,?_⟩;simp_all;try omega),hM⟩ rfl lv1 su (by decide)
   ·
    have h2l: ¬ (i_2<p1.length):=dfl h2
    have hM:=hE.trans ((congrArg (fun n=>Qfb p0 p1 i k_2 n i_2) (sb0 h2l)).trans (Qfb.eq_1 _ _ _ _ _))
    refine ad 1 ?_
    exact Run.exitkM hk_2 () [0,1] [0,1] hM (by trivial) su (by decide)
 ·
  have h1l: ¬ (i<p0.length):=dfl h1
  have hM:=hE.trans ((congrArg (fun n=>Qfc p0 p1 n i) (sb0 h1l)).trans (Qfc.eq_1 _ _ _))
  refine ad 5 ?_
  exact rz (rs:=[.tmp 4]) (rzB hM)
def Qly (p0:Touch) (p1:Touch):Bool:=((Qf7 p0.Writes p1.Reads)||(Qf7 p0.Writes p1.Writes))||(Qf7 p0.Reads p1.Writes)
theorem Qju (p0:Touch) (p1:Touch):CTs 231 [.o (.st Touch _ inferInstance p0),.o (.st Touch _ inferInstance p1)] [Re.c (.bool (Qly p0 p1))]:=by
 refine en Tryz.func231 Tryz.ntmps231 fun w hG hgd=>?_
 obtain⟨hg_p0,hg_p1,_⟩:=hgd
 have hM:=Qly.eq_1 p0 p1
 refine ad 12 ?_
 refine op (cl (Qnm p0.Writes p1.Reads) Yca) ?_
 refine ad 1 ?_
 refine ag 4 ?_
 refine op (cG (hct:=fun hB=>(Qnm p0.Writes p1.Writes)) (hfn:=Yca)) ?_
 refine ag 1 ?_
 refine ad 1 ?_
 refine ag 4 ?_
 refine op (cG (hct:=fun hB=>(Qnm p0.Reads p1.Writes)) (hfn:=Yca)) ?_
 refine ag 1 ?_
 refine ad 2 ?_
 exact rz (rs:=[.tmp 4]) (rzB hM)
def Qeq (p0:List Tx) (i:Nat) (k_2:Unit→Bool):Nat→Nat→Bool
 | 0,i_2=>k_2 ()
 | n_2+1,i_2=>bif ((decide (((nth p0 i).State)=1))&&(decide (((nth p0 i_2).State)=1)))&&(Qly ((nth p0 i).Touch) ((nth p0 i_2).Touch)) then false else(Qeq p0 i k_2 n_2 (i_2+1))
def Qer (p0:List Tx):Nat→Nat→Bool
 | 0,i=>true
 | n+1,i=>Qeq p0 i (fun e=>Qer p0 n (i+1)) (i - 0) 0
def Qlp (p0:List Tx):Bool:=Qer p0 (p0.length - 0) 0
theorem Qy3 (p0:List Tx):CTs 187 [.o (.sl Tx instDatTx p0)] [Re.c (.bool (Qlp p0))]:=by
 refine en Tryz.func187 Tryz.ntmps187 fun w hG hgd=>?_
 obtain⟨hg_p0,_⟩:=hgd
 have hl_p0:p0.length≤9223372036854775807:=hg_p0.1
 have hM:=Qlp.eq_1 p0
 refine ad 10 ?_
 refine Run.loopM (ι:=Nat) (fun s=>Qer p0 (p0.length - s) s) (fun s=>⟨43,1,[(0,.sl 0 p0.length),(3,.v (.int .i64 (s:Int)))],[(0,.ros Tx instDatTx p0)]⟩) (fun s=>s≤p0.length) (fun s=>p0.length - s) 0 [0] [0] hM lv0 su (by decide) ?_
 rintro i hv hE
 try dsimp only at hE
 have hi:=hv
 try dsimp only at hi
 refine ad 8 ?_
 refine cd (fun h1=>?_) (fun h1=>?_)
 ·
  have h1l:i<p0.length:=dtl h1
  have hM:=hE.trans ((congrArg (fun n=>Qer p0 n i) (sb1 h1l)).trans (Qer.eq_2 _ _ _))
  refine ad 8 ?_
  refine Run.loopkM (ι:=Nat) (κ:=Unit) (fun k s=>Qeq p0 i k (i - s) s) (fun s=>⟨43,1,[(0,.sl 0 p0.length),(3,.v (.int .i64 (i:Int))),(4,.v (.int .i64 (s:Int)))],[(0,.ros Tx instDatTx p0)]⟩) (fun s=>s≤i) (fun s=>i - s) (fun e=>⟨43,1,[(0,.sl 0 p0.length),(3,.v (.int .i64 (i:Int)))],[(0,.ros Tx instDatTx p0)]⟩) (fun e=>True) 0 [0] [0] hM lv0 su (by decide) ?_ ?_
  ·
   rintro _ hv hM
   try dsimp only at hM hv ⊢
   refine ad 4 ?_
   rw[Qb3 (i:=i) om]
   refine ad 2 ?_
   exact Run.again (i+1) [0] [0] ⟨by first | omega | exact trivial | (dsimp only;omega) | (refine⟨by omega,?_⟩;simp_all;try omega),hM⟩ rfl lv1 su (by decide)
  ·
   intro k_2 hk_2
   rintro i_2 hv_2 hE
   try dsimp only at hE
   have hi_2:=hv_2
   try dsimp only at hi_2
   refine ad 7 ?_
   refine cd (fun h2=>?_) (fun h2=>?_)
   ·
    have h2l:i_2<i:=dtl h2
    have hM:=hE.trans ((congrArg (fun n=>Qeq p0 i k_2 n i_2) (sb1 h2l)).trans (Qeq.eq_2 _ _ _ _ _))
    have hgT:Dat.good ((nth p0 i_2).Touch:Touch):=(Qai (k:=i_2) hg_p0 (by omega)).2.2.2.2.2.2.1
    refine ad 4 ?_
    refine Run.mid ⟨43,1,[(0,.sl 0 p0.length),(3,.v (.int .i64 (i:Int))),(4,.v (.int .i64 (i_2:Int))),(42,.v (.bool (((decide (((nth p0 i).State)=1))&&(decide (((nth p0 i_2).State)=1)))&&(Qly ((nth p0 i).Touch) ((nth p0 i_2).Touch)))))],[(0,.ros Tx instDatTx p0)]⟩ ?_ ?_
    ·
     refine dr 27 fun _ _ _ _ _ hb=>?_
     refine tk [0,1] ?_
     have hg3:=Qai (k:=i) hg_p0 om
     refine tx 2 (dx (xs:=p0) i om) ?_
     refine tk [3,4,5,6,7,8] ?_
     refine on 9 [12] (iG (xs:=p0) i_2 om) ?_
     refine tk [10] ?_
     refine on 11 [12] (gO) ?_
     refine tk [12,13,14,15,16,20,21] ?_
     refine o2 17 22 ?_ ?_
     ·
      refine on1 17 [18] (iG (xs:=p0) i om) ?_
      refine tk [18] ?_
      refine o2 19 22 ?_ ?_
      ·
       refine on1 19 [18] (gOt) ?_
       refine on 22 [24] (iG (xs:=p0) i_2 om) ?_
       refine tk [23] ?_
       refine on 24 [24] (gOt) ?_
       have hg4:Dat.good ((nth p0 i).Touch:Touch):=hg3.2.2.2.2.2.2.1
       refine on 25 [24] (cG (hct:=fun hB=>(Qju ((nth p0 i).Touch) ((nth p0 i_2).Touch))) (hfn:=Q2m)) ?_
       refine tk [26] ?_
       refine dn hb ?_
       exact Run.at [0] [24] su (by decide)
      ·
       refine on1 22 [24] (iG (xs:=p0) i_2 om) ?_
       refine tk [23] ?_
       refine o2 19 24 ?_ ?_
       ·
        refine on1 19 [24] (gOt) ?_
        refine on 24 [24] (gOt) ?_
        have hg5:Dat.good ((nth p0 i).Touch:Touch):=hg3.2.2.2.2.2.2.1
        refine on 25 [24] (cG (hct:=fun hB=>(Qju ((nth p0 i).Touch) ((nth p0 i_2).Touch))) (hfn:=Q2m)) ?_
        refine tk [26] ?_
        refine dn hb ?_
        exact Run.at [0] [24] su (by decide)
       ·
        refine on1 24 [24] (gOt) ?_
        refine on 19 [24] (gOt) ?_
        have hg6:Dat.good ((nth p0 i).Touch:Touch):=hg3.2.2.2.2.2.2.1
        refine on 25 [24] (cG (hct:=fun hB=>(Qju ((nth p0 i).Touch) ((nth p0 i_2).Touch))) (hfn:=Q2m)) ?_
        refine tk [26] ?_
        refine dn hb ?_
        exact Run.at [0] [24] su (by decide)
     ·
      refine on1 22 [18] (iG (xs:=p0) i_2 om) ?_
      refine tk [23] ?_
      refine o2 17 24 ?_ ?_
      ·
       refine on1 17 [24] (iG (xs:=p0) i om) ?_
       refine tk [18] ?_
       refine o2 19 24 ?_ ?_
       ·
        refine on1 19 [24] (gOt) ?_
        refine on 24 [24] (gOt) ?_
        have hg7:Dat.good ((nth p0 i).Touch:Touch):=hg3.2.2.2.2.2.2.1
        refine on 25 [24] (cG (hct:=fun hB=>(Qju ((nth p0 i).Touch) ((nth p0 i_2).Touch))) (hfn:=Q2m)) ?_
        refine tk [26] ?_
        refine dn hb ?_
        exact Run.at [0] [24] su (by decide)
       ·
        refine on1 24 [24] (gOt) ?_
        refine on 19 [24] (gOt) ?_
        have hg8:Dat.good ((nth p0 i).Touch:Touch):=hg3.2.2.2.2.2.2.1
        refine on 25 [24] (cG (hct:=fun hB=>(Qju ((nth p0 i).Touch) ((nth p0 i_2).Touch))) (hfn:=Q2m)) ?_
        refine tk [26] ?_
        refine dn hb ?_
        exact Run.at [0] [24] su (by decide)
      ·
       refine on1 24 [18] (gOt) ?_
       refine on 17 [24] (iG (xs:=p0) i om) ?_
       refine tk [18] ?_
       refine on 19 [24] (gOt) ?_
       have hg9:Dat.good ((nth p0 i).Touch:Touch):=hg3.2.2.2.2.2.2.1
       refine on 25 [24] (cG (hct:=fun hB=>(Qju ((nth p0 i).Touch) ((nth p0 i_2).Touch))) (hfn:=Q2m)) ?_
       refine tk [26] ?_
       refine dn hb ?_
       exact Run.at [0] [24] su (by decide)
    refine cd (fun h10=>?_) (fun h10=>?_)
    ·
     have hM:=hM.trans (bt h10)
     refine ad 4 ?_
     exact rz (rs:=[.tmp 2]) (rzB hM)
    ·
     have hM:=hM.trans (bf h10)
     refine ad 5 ?_
     rw[Qb3 (i:=i_2) om]
     refine ad 2 ?_
     exact Run.again (i_2+1) [0] [0] ⟨by first | omega | exact trivial | (dsimp only;omega) | (refine⟨by omega,?_⟩;simp_all;try omega),hM⟩ rfl lv1 su (by decide)
   ·
    have h2l: ¬ (i_2<i):=dfl h2
    have hM:=hE.trans ((congrArg (fun n=>Qeq p0 i k_2 n i_2) (sb0 h2l)).trans (Qeq.eq_1 _ _ _ _))
    refine ad 1 ?_
    exact Run.exitkM hk_2 () [0] [0] hM (by trivial) su (by decide)
 ·
  have h1l: ¬ (i<p0.length):=dfl h1
  have hM:=hE.trans ((congrArg (fun n=>Qer p0 n i) (sb0 h1l)).trans (Qer.eq_1 _ _))
  refine ad 5 ?_
  exact rz (rs:=[.tmp 2]) (rzB hM)
end
section
theorem Yi6:FnOk Tryz.prog 235:=⟨_,Tryz.func235,rfl,by kernel_rfl⟩
theorem Yi3:FnOk Tryz.prog 241:=⟨_,Tryz.func241,rfl,by kernel_rfl⟩
theorem Yb9:FnOk Tryz.prog 261:=⟨_,Tryz.func261,rfl,by kernel_rfl⟩
theorem Yip:FnOk Tryz.prog 276:=⟨_,Tryz.func276,rfl,by kernel_rfl⟩
theorem Yio:FnOk Tryz.prog 277:=⟨_,Tryz.func277,rfl,by kernel_rfl⟩
theorem Yin:FnOk Tryz.prog 278:=⟨_,Tryz.func278,rfl,by kernel_rfl⟩
theorem Yil:FnOk Tryz.prog 299:=⟨_,Tryz.func299,rfl,by kernel_rfl⟩
theorem Yb7:FnOk Tryz.prog 300:=⟨_,Tryz.func300,rfl,by kernel_rfl⟩
theorem Yb6:FnOk Tryz.prog 301:=⟨_,Tryz.func301,rfl,by kernel_rfl⟩
theorem Ye9:FnOk Tryz.prog 302:=⟨_,Tryz.func302,rfl,by kernel_rfl⟩
theorem Yij:FnOk Tryz.prog 313:=⟨_,Tryz.func313,rfl,by kernel_rfl⟩
def Qbw (p0:ByteArray) (p1:ByteArray):Bool:=(decide ((p0.size:Int)≥(p1.size:Int)))&&(decide ((cutS p0 ((i64.wrap ((p0.size:Int) - (p1.size:Int))).toNat) p0.size)=p1))
theorem Qkb (p0:ByteArray) (p1:ByteArray) (hz_p0:p0.size≤9223372036854775807) (hz_p1:p1.size≤9223372036854775807):CTs 241 [.o (.c (.string p0)),.o (.c (.string p1))] [Re.c (.bool (Qbw p0 p1))]:=by
 refine en Tryz.func241 Tryz.ntmps241 fun w hG hgd=>?_
 have hM:=Qbw.eq_1 p0 p1
 have hw1:i64.wrap ((p0.size:Int) - (p1.size:Int))=(p0.size:Int) - (p1.size:Int):=IntWalk.i64_in _ (by omega)
 refine ad 12 ?_
 refine Run.midO ⟨21,0,[(4,.v (.bool ((decide ((p0.size:Int)≥(p1.size:Int)))&&(decide ((cutS p0 ((i64.wrap ((p0.size:Int) - (p1.size:Int))).toNat) p0.size)=p1)))))],[]⟩ ?_ ?_
 ·refine bc 10 (fun h1=>?_) (fun h1=>?_)
  ·
   refine ad 13 ?_
   refine op (cu ((i64.wrap ((p0.size:Int) - (p1.size:Int))).toNat) p0.size (hh:=rfl)) ?_
   refine ad 7 ?_
   exact Run.at [] [] (by first | exact su | (rw[h1];exact su)) (by decide)
  ·
   refine ad 12 ?_
   exact Run.at [] [] (by first | exact su | (rw[h1];exact su)) (by decide)
 exact rz (rs:=[.tmp 4]) (rzB hM)
theorem Q02 {s p:ByteArray} (h:Qbw s p=true):p.size≤s.size:=by
 unfold Qbw at h
 rw[Bool.and_eq_true] at h
 have:=of_decide_eq_true h.1
 omega
theorem Yb5 {α:Type} [Dat α] {xs:List α} (h:Dat.good xs) (l k:Nat):Dat.good (cutL xs l k):=⟨by unfold cutL;rw[List.length_drop,length_take];have:=h.1;omega,fun x hx=>h.2 x (List.mem_of_mem_take (List.mem_of_mem_drop hx))⟩
def Qcn (p0:ByteArray) (p1:ByteArray):ByteArray×Bool:=bif !(Qbw p0 p1) then(p0,false) else(cutS p0 0 ((i64.wrap ((p0.size:Int) - (p1.size:Int))).toNat),true)
theorem Qkd (p0:ByteArray) (p1:ByteArray) (hz_p0:p0.size≤9223372036854775807) (hz_p1:p1.size≤9223372036854775807):CTs 313 [.o (.c (.string p0)),.o (.c (.string p1))] [Re.c (.string ((Qcn p0 p1).1)),Re.c (.bool ((Qcn p0 p1).2))]:=by
 refine en Tryz.func313 Tryz.ntmps313 fun w hG hgd=>?_
 have hM:=Qcn.eq_1 p0 p1
 have hw1:i64.wrap ((p0.size:Int) - (p1.size:Int))=(p0.size:Int) - (p1.size:Int):=IntWalk.i64_in _ (by omega)
 refine ad 10 ?_
 refine op (cl (Qkb p0 p1 hz_p0 hz_p1) Yi3) ?_
 refine ad 2 ?_
 refine cd (fun h1=>?_) (fun h1=>?_)
 ·
  have hM:=hM.trans (bt h1)
  refine ad 6 ?_
  exact rz (rs:=[.tmp 4,.tmp 5]) (congrArg (fun x=>[Re.c (.string x.1),Re.c (.bool x.2)]) hM)
 ·
  have hM:=hM.trans (bf h1)
  have hsz:=Q02 (s:=p0) (p:=p1) (by simpa using h1)
  refine ad 9 ?_
  refine op (cu 0 ((i64.wrap ((p0.size:Int) - (p1.size:Int))).toNat) (hl:=rfl)) ?_
  refine ad 3 ?_
  exact rz (rs:=[.tmp 4,.tmp 5]) (congrArg (fun x=>[Re.c (.string x.1),Re.c (.bool x.2)]) hM)
def Qbc (p0:ByteArray) (p1:ByteArray):ByteArray×Bool:=((Qcn p0 p1).1,(Qcn p0 p1).2)
theorem Qjh (p0:ByteArray) (p1:ByteArray) (hz_p0:p0.size≤9223372036854775807) (hz_p1:p1.size≤9223372036854775807):CTs 300 [.o (.c (.string p0)),.o (.c (.string p1))] [Re.c (.string ((Qbc p0 p1).1)),Re.c (.bool ((Qbc p0 p1).2))]:=by
 refine en Tryz.func300 Tryz.ntmps300 fun w hG hgd=>?_
 have hM:=Qbc.eq_1 p0 p1
 refine ad 9 ?_
 refine op (cl (Qkd p0 p1 hz_p0 hz_p1) Yij) ?_
 refine ad 5 ?_
 exact rz (rs:=[.tmp 4,.tmp 5]) (congrArg (fun x=>[Re.c (.string x.1),Re.c (.bool x.2)]) hM)
def Qhl (p0:ByteArray) (p1:ByteArray):Bool:=(Qgb p0 p1)
theorem Qjg (p0:ByteArray) (p1:ByteArray):CTs 301 [.o (.c (.string p0)),.o (.c (.string p1))] [Re.c (.bool (Qhl p0 p1))]:=by
 refine en Tryz.func301 Tryz.ntmps301 fun w hG hgd=>?_
 have hM:=Qhl.eq_1 p0 p1
 refine ad 8 ?_
 refine op (cl (Qkc p0 p1) Yix) ?_
 refine ad 2 ?_
 exact rz (rs:=[.tmp 4]) (rzB hM)
def Qjr (p0:ByteArray) (p1:ByteArray):Bool:=bif (Qbc p0 ⟨#[42]⟩).2 then(Qhl p1 ((Qbc p0 ⟨#[42]⟩).1)) else(decide (p0=p1))
theorem Qrd (p0:ByteArray) (p1:ByteArray) (hz_p0:p0.size≤9223372036854775807):CTs 302 [.o (.c (.string p0)),.o (.c (.string p1))] [Re.c (.bool (Qjr p0 p1))]:=by
 refine en Tryz.func302 Tryz.ntmps302 fun w hG hgd=>?_
 have hM:=Qjr.eq_1 p0 p1
 refine ad 8 ?_
 refine op (cl (Qjh p0 ⟨#[42]⟩ hz_p0 (gs ⟨#[42]⟩)) Yb7) ?_
 refine ad 10 ?_
 refine cd (fun h1=>?_) (fun h1=>?_)
 ·
  have hM:=hM.trans (bt h1)
  refine ad 4 ?_
  refine op (cl (Qjg p1 ((Qbc p0 ⟨#[42]⟩).1)) Yb6) ?_
  refine ad 2 ?_
  exact rz (rs:=[.tmp 4]) (rzB hM)
 ·
  have hM:=hM.trans (bf h1)
  refine ad 8 ?_
  exact rz (rs:=[.tmp 4]) (rzB hM)
def Qhh (p0:ByteArray) (p1:ByteArray):Bool:=bif ((Qbc p0 ⟨#[42]⟩).2)&&((Qbc p1 ⟨#[42]⟩).2) then((Qhl ((Qbc p0 ⟨#[42]⟩).1) ((Qbc p1 ⟨#[42]⟩).1))||(Qhl ((Qbc p1 ⟨#[42]⟩).1) ((Qbc p0 ⟨#[42]⟩).1))) else(bif (Qbc p0 ⟨#[42]⟩).2 then(Qjr p0 p1) else(Qjr p1 p0))
theorem Qxa (p0:ByteArray) (p1:ByteArray) (hz_p0:p0.size≤9223372036854775807) (hz_p1:p1.size≤9223372036854775807):CTs 278 [.o (.c (.string p0)),.o (.c (.string p1))] [Re.c (.bool (Qhh p0 p1))]:=by
 refine en Tryz.func278 Tryz.ntmps278 fun w hG hgd=>?_
 have hM:=Qhh.eq_1 p0 p1
 refine ad 7 ?_
 refine op (cl (Qjh p0 ⟨#[42]⟩ hz_p0 (gs ⟨#[42]⟩)) Yb7) ?_
 refine ad 9 ?_
 refine op (cl (Qjh p1 ⟨#[42]⟩ hz_p1 (gs ⟨#[42]⟩)) Yb7) ?_
 refine ad 12 ?_
 refine ag 2 ?_
 refine ad 2 ?_
 refine cd (fun h1=>?_) (fun h1=>?_)
 ·
  have hM:=hM.trans (bt h1)
  refine ad 4 ?_
  refine op (cl (Qjg ((Qbc p0 ⟨#[42]⟩).1) ((Qbc p1 ⟨#[42]⟩).1)) Yb6) ?_
  refine ad 1 ?_
  refine ag 2 ?_
  refine op (cG (hct:=fun hB=>(Qjg ((Qbc p1 ⟨#[42]⟩).1) ((Qbc p0 ⟨#[42]⟩).1))) (hfn:=Yb6)) ?_
  refine ag 1 ?_
  refine ad 2 ?_
  exact rz (rs:=[.tmp 4]) (rzB hM)
 ·
  have hM:=hM.trans (bf h1)
  refine ad 5 ?_
  refine cd (fun h2=>?_) (fun h2=>?_)
  ·
   have hM:=hM.trans (bt h2)
   refine ad 4 ?_
   refine op (cl (Qrd p0 p1 hz_p0) Ye9) ?_
   refine ad 2 ?_
   exact rz (rs:=[.tmp 4]) (rzB hM)
  ·
   have hM:=hM.trans (bf h2)
   refine ad 6 ?_
   refine op (cl (Qrd p1 p0 hz_p1) Ye9) ?_
   refine ad 2 ?_
   exact rz (rs:=[.tmp 4]) (rzB hM)
def Qkw (p0:ByteArray) (c0:ByteArray):Bool:=(Qhh c0 p0)
theorem Qxe (p0:ByteArray) (c0:ByteArray) (hz_p0:p0.size≤9223372036854775807) (hz_c0:c0.size≤9223372036854775807):CTs 277 [.o (.c (.string p0)),.o (.rp ByteArray instDatByteArray inferInstance c0)] [Re.c (.bool (Qkw p0 c0))]:=by
 refine en Tryz.func277 Tryz.ntmps277 fun w hG hgd=>?_
 obtain⟨hg_c0,_⟩:=hgd
 have hM:=Qkw.eq_1 p0 c0
 refine ad 8 ?_
 refine op (cl (Qxa c0 p0 hz_c0 hz_p0) Yin) ?_
 refine ad 2 ?_
 exact rz (rs:=[.tmp 3]) (rzB hM)
def Qbq (p0:List ByteArray) (p1_0:ByteArray):Nat→Nat→Int
 | 0,i=>(-1)
 | n+1,i=>bif Qkw (nth p0 i) p1_0 then(i:Int) else(Qbq p0 p1_0 n (i+1))
def Qgi (p0:List ByteArray) (p1_0:ByteArray):Int:=Qbq p0 p1_0 (p0.length - 0) 0
theorem Qnp (p0:List ByteArray) (p1_0:ByteArray) (hz_p1_0:p1_0.size≤9223372036854775807):CTs 299 [.o (.sl ByteArray instDatByteArray p0),.fn 277 [.rp ByteArray instDatByteArray inferInstance p1_0]] [Re.c (.int .i64 (Qgi p0 p1_0))]:=by
 refine en Tryz.func299 Tryz.ntmps299 fun w hG hgd=>?_
 obtain⟨hg_p0,_⟩:=hgd
 have hl_p0:p0.length≤9223372036854775807:=hg_p0.1
 have hM:=Qgi.eq_1 p0 p1_0
 refine ad 12 ?_
 refine Run.loopM (ι:=Nat) (fun s=>Qbq p0 p1_0 (p0.length - s) s) (fun s=>⟨19,2,[(0,.sl 0 p0.length),(1,.fn 277 [.pt 1 0]),(7,.v (.int .i64 (p0.length:Int))),(8,.v (.int .i64 (s:Int)))],[(0,.ros ByteArray instDatByteArray p0),(1,.roc [.v (.string p1_0)])]⟩) (fun s=>s≤p0.length) (fun s=>p0.length - s) 0 [0,1] [0,1] hM lv0 su (by decide) ?_
 rintro i hv hE
 try dsimp only at hE
 have hi:=hv
 try dsimp only at hi
 refine ad 5 ?_
 refine cd (fun h1=>?_) (fun h1=>?_)
 ·
  have h1l:i<p0.length:=dtl h1
  have hM:=hE.trans ((congrArg (fun n=>Qbq p0 p1_0 n i) (sb1 h1l)).trans (Qbq.eq_2 _ _ _ _))
  refine ad 13 ?_
  have hg3:=Qai (k:=i) hg_p0 om
  refine op (ix (xs:=p0) i om) ?_
  refine ad 1 ?_
  refine op (cl (Qxe (nth p0 i) p1_0 hg3 hz_p1_0) Yio) ?_
  refine ad 1 ?_
  refine cd (fun h4=>?_) (fun h4=>?_)
  ·
   have hM:=hM.trans (bt h4)
   refine ad 5 ?_
   exact rz (rs:=[.tmp 4]) (rzI hM)
  ·
   have hM:=hM.trans (bf h4)
   refine ad 4 ?_
   rw[Qb3 (i:=i) om]
   refine ad 2 ?_
   exact Run.again (i+1) [0,1] [1,2] ⟨by first | omega | exact trivial | (dsimp only;omega) | (refine⟨by omega,?_⟩;simp_all;try omega),hM⟩ rfl lv1 su (by decide)
 ·
  have h1l: ¬ (i<p0.length):=dfl h1
  have hM:=hE.trans ((congrArg (fun n=>Qbq p0 p1_0 n i) (sb0 h1l)).trans (Qbq.eq_1 _ _ _))
  refine ad 5 ?_
  exact rz (rs:=[.tmp 4]) (rzI hM)
def Qfz (p0:List ByteArray) (p1_0:ByteArray):Bool:=decide ((Qgi p0 p1_0)≥0)
theorem Qlv (p0:List ByteArray) (p1_0:ByteArray) (hz_p1_0:p1_0.size≤9223372036854775807):CTs 276 [.o (.sl ByteArray instDatByteArray p0),.fn 277 [.rp ByteArray instDatByteArray inferInstance p1_0]] [Re.c (.bool (Qfz p0 p1_0))]:=by
 refine en Tryz.func276 Tryz.ntmps276 fun w hG hgd=>?_
 obtain⟨hg_p0,_⟩:=hgd
 have hl_p0:p0.length≤9223372036854775807:=hg_p0.1
 have hM:=Qfz.eq_1 p0 p1_0
 refine ad 8 ?_
 refine op (cl (Qnp p0 p1_0 hz_p1_0) Yil) ?_
 refine ad 3 ?_
 exact rz (rs:=[.tmp 4]) (rzB hM)
def Qft (p0:List ByteArray) (p1:List ByteArray):Nat→Nat→Bool
 | 0,i=>false
 | n+1,i=>bif Qfz p1 (nth p0 i) then true else(Qft p0 p1 n (i+1))
def Qij (p0:List ByteArray) (p1:List ByteArray):Bool:=Qft p0 p1 (p0.length - 0) 0
theorem Qnq (p0:List ByteArray) (p1:List ByteArray):CTs 261 [.o (.sl ByteArray instDatByteArray p0),.o (.sl ByteArray instDatByteArray p1)] [Re.c (.bool (Qij p0 p1))]:=by
 refine en Tryz.func261 Tryz.ntmps261 fun w hG hgd=>?_
 obtain⟨hg_p0,hg_p1,_⟩:=hgd
 have hl_p0:p0.length≤9223372036854775807:=hg_p0.1
 have hl_p1:p1.length≤9223372036854775807:=hg_p1.1
 have hM:=Qij.eq_1 p0 p1
 refine ad 12 ?_
 refine Run.loopM (ι:=Nat) (fun s=>Qft p0 p1 (p0.length - s) s) (fun s=>⟨17,2,[(1,.sl 0 p1.length),(7,.sl 1 p0.length),(8,.v (.int .i64 (p0.length:Int))),(9,.v (.int .i64 (s:Int)))],[(0,.ros ByteArray instDatByteArray p1),(1,.ros ByteArray instDatByteArray p0)]⟩) (fun s=>s≤p0.length) (fun s=>p0.length - s) 0 [1,0] [1,0] hM lv0 su (by decide) ?_
 rintro i hv hE
 try dsimp only at hE
 have hi:=hv
 try dsimp only at hi
 refine ad 5 ?_
 refine cd (fun h1=>?_) (fun h1=>?_)
 ·
  have h1l:i<p0.length:=dtl h1
  have hM:=hE.trans ((congrArg (fun n=>Qft p0 p1 n i) (sb1 h1l)).trans (Qft.eq_2 _ _ _ _))
  refine ad 5 ?_
  have hg3:=Qai (k:=i) hg_p0 om
  refine op (ix (xs:=p0) i om) ?_
  refine ad 8 ?_
  refine op (cl (Qlv p1 (nth p0 i) hg3) Yip) ?_
  refine ad 1 ?_
  refine cd (fun h4=>?_) (fun h4=>?_)
  ·
   have hM:=hM.trans (bt h4)
   refine ad 4 ?_
   exact rz (rs:=[.tmp 4]) (rzB hM)
  ·
   have hM:=hM.trans (bf h4)
   refine ad 4 ?_
   rw[Qb3 (i:=i) om]
   refine ad 2 ?_
   exact Run.again (i+1) [0,1] [2,3] ⟨by first | omega | exact trivial | (dsimp only;omega) | (refine⟨by omega,?_⟩;simp_all;try omega),hM⟩ rfl lv1 su (by decide)
 ·
  have h1l: ¬ (i<p0.length):=dfl h1
  have hM:=hE.trans ((congrArg (fun n=>Qft p0 p1 n i) (sb0 h1l)).trans (Qft.eq_1 _ _ _))
  refine ad 5 ?_
  exact rz (rs:=[.tmp 4]) (rzB hM)
def Qn9 (p0:Touch) (p1:Touch):Bool:=((Qij p0.Writes p1.Reads)||(Qij p0.Writes p1.Writes))||(Qij p1.Writes p0.Reads)
theorem Q6g (p0:Touch) (p1:Touch):CTs 235 [.o (.st Touch _ inferInstance p0),.o (.st Touch _ inferInstance p1)] [Re.c (.bool (Qn9 p0 p1))]:=by
 refine en Tryz.func235 Tryz.ntmps235 fun w hG hgd=>?_
 obtain⟨hg_p0,hg_p1,_⟩:=hgd
 have hM:=Qn9.eq_1 p0 p1
 refine ad 12 ?_
 refine op (cl (Qnq p0.Writes p1.Reads) Yb9) ?_
 refine ad 1 ?_
 refine ag 4 ?_
 refine op (cG (hct:=fun hB=>(Qnq p0.Writes p1.Writes)) (hfn:=Yb9)) ?_
 refine ag 1 ?_
 refine ad 1 ?_
 refine ag 4 ?_
 refine op (cG (hct:=fun hB=>(Qnq p1.Writes p0.Reads)) (hfn:=Yb9)) ?_
 refine ag 1 ?_
 refine ad 2 ?_
 exact rz (rs:=[.tmp 4]) (rzB hM)
def Qew (p0:List Tx) (i:Nat) (k_2:Unit→Bool):Nat→Nat→Bool
 | 0,i_2=>k_2 ()
 | n_2+1,i_2=>bif ((decide (((nth p0 i).State)=1))&&(decide (((nth (cutL p0 0 i) i_2).State)=1)))&&(Qn9 ((nth p0 i).Touch) ((nth (cutL p0 0 i) i_2).Touch)) then false else(Qew p0 i k_2 n_2 (i_2+1))
def Qex (p0:List Tx):Nat→Nat→Bool
 | 0,i=>true
 | n+1,i=>Qew p0 i (fun e=>Qex p0 n (i+1)) (((cutL p0 0 i).length) - 0) 0
def Qls (p0:List Tx):Bool:=Qex p0 (p0.length - 0) 0
theorem Qzh (p0:List Tx):CTs 192 [.o (.sl Tx instDatTx p0)] [Re.c (.bool (Qls p0))]:=by
 refine en Tryz.func192 Tryz.ntmps192 fun w hG hgd=>?_
 obtain⟨hg_p0,_⟩:=hgd
 have hl_p0:p0.length≤9223372036854775807:=hg_p0.1
 have hM:=Qls.eq_1 p0
 refine ad 12 ?_
 refine Run.loopM (ι:=Nat) (fun s=>Qex p0 (p0.length - s) s) (fun s=>⟨39,1,[(0,.sl 0 p0.length),(7,.sl 0 p0.length),(8,.v (.int .i64 (p0.length:Int))),(9,.v (.int .i64 (s:Int)))],[(0,.ros Tx instDatTx p0)]⟩) (fun s=>s≤p0.length) (fun s=>p0.length - s) 0 [0] [0] hM lv0 su (by decide) ?_
 rintro i hv hE
 try dsimp only at hE
 have hi:=hv
 try dsimp only at hi
 refine ad 5 ?_
 refine cd (fun h1=>?_) (fun h1=>?_)
 ·
  have h1l:i<p0.length:=dtl h1
  have hM:=hE.trans ((congrArg (fun n=>Qex p0 n i) (sb1 h1l)).trans (Qex.eq_2 _ _ _))
  refine ad 6 ?_
  have hg3:=Qai (k:=i) hg_p0 om
  refine op (ix (xs:=p0) i om) ?_
  refine ad 9 ?_
  refine op (pa 0 i (hl:=rfl)) ?_
  refine ad 4 ?_
  refine Run.loopkM (ι:=Nat) (κ:=Unit) (fun k s=>Qew p0 i k (((cutL p0 0 i).length) - s) s) (fun s=>⟨39,8,[(0,.sl 0 p0.length),(4,.pt 1 0),(7,.sl 0 p0.length),(8,.v (.int .i64 (p0.length:Int))),(9,.v (.int .i64 (i:Int))),(16,.sl 7 ((cutL p0 0 i).length)),(17,.v (.int .i64 ((cutL p0 0 i).length:Int))),(18,.v (.int .i64 (s:Int)))],[(0,.ros Tx instDatTx p0),(1,.var [.v (.int .i64 ((nth p0 i).Id)),.v (.int .i64 ((nth p0 i).Age)),.v (.int .i64 ((nth p0 i).Proc)),.v (.int .i64 ((nth p0 i).Began)),.sl 2 ((nth p0 i).Calls.length),.sl 3 ((nth p0 i).Answers.length),.sl 4 ((nth p0 i).Touch.Reads.length),.sl 5 ((nth p0 i).Touch.Writes.length),.sl 6 ((nth p0 i).Marks.length),.v (.int .i64 ((nth p0 i).State))] 119),(2,.ros Call instDatCall ((nth p0 i).Calls)),(3,.ros Answer instDatAnswer ((nth p0 i).Answers)),(4,.ros ByteArray instDatByteArray ((nth p0 i).Touch.Reads)),(5,.ros ByteArray instDatByteArray ((nth p0 i).Touch.Writes)),(6,.ros Int instDatInt ((nth p0 i).Marks)),(7,.ros Tx instDatTx (cutL p0 0 i))]⟩) (fun s=>s≤(cutL p0 0 i).length) (fun s=>((cutL p0 0 i).length) - s) (fun e=>⟨39,1,[(0,.sl 0 p0.length),(7,.sl 0 p0.length),(8,.v (.int .i64 (p0.length:Int))),(9,.v (.int .i64 (i:Int)))],[(0,.ros Tx instDatTx p0)]⟩) (fun e=>True) 0 [0,7,2,3,4,5,6,8] [8,1,3,4,5,6,7,0] hM lv0 su (by decide) ?_ ?_
  ·
   rintro _ hv hM
   try dsimp only at hM hv ⊢
   refine ad 3 ?_
   rw[Qb3 (i:=i) om]
   refine ad 2 ?_
   exact Run.again (i+1) [0] [0] ⟨by first | omega | exact trivial | (dsimp only;omega) | (refine⟨by omega,?_⟩;simp_all;try omega),hM⟩ rfl lv1 su (by decide)
  ·
   intro k_2 hk_2
   rintro i_2 hv_2 hE
   try dsimp only at hE
   have hi_2:=hv_2
   try dsimp only at hi_2
   refine ad 5 ?_
   refine cd (fun h4=>?_) (fun h4=>?_)
   ·
    have h4l:i_2<(cutL p0 0 i).length:=dtl h4
    have hM:=hE.trans ((congrArg (fun n=>Qew p0 i k_2 n i_2) (show((cutL p0 0 i).length) - i_2=(((cutL p0 0 i).length) - (i_2+1))+1 by omega)).trans (Qew.eq_2 _ _ _ _ _))
    have hcl:(cutL p0 0 i).length≤i:=by unfold cutL;rw[List.length_drop,List.length_take];omega
    have hgT:Dat.good ((nth (cutL p0 0 i) i_2).Touch:Touch):=(Qai (k:=i_2) (Yb5 hg_p0 0 i) (by omega)).2.2.2.2.2.2.1
    refine ad 5 ?_
    refine op (ix (xs:=(cutL p0 0 i)) i_2 om) ?_
    refine ad 10 ?_
    refine ag 4 ?_
    refine ad 1 ?_
    refine ag 4 ?_
    have hg6:Dat.good ((nth p0 i).Touch:Touch):=hg3.2.2.2.2.2.2.1
    refine gd 7 fun hg7=>?_
    refine op (cG (hct:=fun hB=>(Q6g ((nth p0 i).Touch) ((nth (cutL p0 0 i) i_2).Touch))) (hfn:=Yi6)) ?_
    refine ag 1 ?_
    refine ad 1 ?_
    refine cd (fun h8=>?_) (fun h8=>?_)
    ·
     have hM:=hM.trans (bt h8)
     refine ad 4 ?_
     exact rz (rs:=[.tmp 2]) (rzB hM)
    ·
     have hM:=hM.trans (bf h8)
     refine ad 4 ?_
     rw[Qb3 (i:=i_2) om]
     refine ad 2 ?_
     exact Run.again (i_2+1) [0,1,2,3,4,5,6,7] [7,8,9,10,11,12,13,14] ⟨by first | omega | exact trivial | (dsimp only;omega) | (refine⟨by omega,?_⟩;simp_all;try omega),hM⟩ rfl lv1 su (by decide)
   ·
    have h4l: ¬ (i_2<(cutL p0 0 i).length):=dfl h4
    have hM:=hE.trans ((congrArg (fun n=>Qew p0 i k_2 n i_2) (show((cutL p0 0 i).length) - i_2=0 by omega)).trans (Qew.eq_1 _ _ _ _))
    refine ad 1 ?_
    exact Run.exitkM hk_2 () [0] [0] hM (by trivial) su (by decide)
 ·
  have h1l: ¬ (i<p0.length):=dfl h1
  have hM:=hE.trans ((congrArg (fun n=>Qex p0 n i) (sb0 h1l)).trans (Qex.eq_1 _ _))
  refine ad 5 ?_
  exact rz (rs:=[.tmp 2]) (rzB hM)
end
section
theorem Yj0:FnOk Tryz.prog 186:=⟨_,Tryz.func186,rfl,by kernel_rfl⟩
theorem Yjz:FnOk Tryz.prog 187:=⟨_,Tryz.func187,rfl,by kernel_rfl⟩
theorem Yjx:FnOk Tryz.prog 191:=⟨_,Tryz.func191,rfl,by kernel_rfl⟩
theorem Yjw:FnOk Tryz.prog 192:=⟨_,Tryz.func192,rfl,by kernel_rfl⟩
def Qdy (p0:Kernel):Nat→Nat→Bool
 | 0,i=>(((Qfw p0.Store)&&(Qdv p0.Disk))&&(Qcm p0.Seq 0 99000))&&(Qlp p0.Txs)
 | n+1,i=>bif (decide (((nth p0.Txs i).Id)≥p0.Next))||(!decide ((Qjd p0.Txs ((nth p0.Txs i).Id))=(i:Int))) then false else(Qdy p0 n (i+1))
def Qiq (p0:Kernel):Bool:=Qdy p0 (p0.Txs.length - 0) 0
theorem Qy1 (p0:Kernel):CTs 125 [.o (.st Kernel _ inferInstance p0)] [Re.c (.bool (Qiq p0))]:=by
 refine en Tryz.func125 Tryz.ntmps125 fun w hG hgd=>?_
 obtain⟨hg_p0,_⟩:=hgd
 have hM:=Qiq.eq_1 p0
 have hlt:p0.Txs.length≤9223372036854775807:=hg_p0.2.1.1
 refine ad 11 ?_
 refine Run.loopM (ι:=Nat) (fun s=>Qdy p0 (p0.Txs.length - s) s) (fun s=>⟨51,6,[(1,.pt 0 0),(3,.v (.int .i64 (s:Int)))],[(0,.var [.sl 1 p0.Store.length,.sl 2 p0.Txs.length,.sl 3 p0.Disk.Slots.length,.v (.string p0.Disk.Journal.Text),.v (.int .i64 p0.Disk.Journal.Sure),.v (.int .i64 p0.Seq),.v (.int .i64 p0.Next),.v (.int .i64 p0.Time),.sl 4 p0.History.length,.sl 5 p0.Seen.length,.v (.bool p0.Room)] 43),(1,.ros Cell instDatCell p0.Store),(2,.ros Tx instDatTx p0.Txs),(3,.ros Slot instDatSlot p0.Disk.Slots),(4,.ros Entry instDatEntry p0.History),(5,.ros ByteArray instDatByteArray p0.Seen)]⟩) (fun s=>s≤p0.Txs.length) (fun s=>p0.Txs.length - s) 0 [5,0,1,2,3,4] [0,1,2,3,4,5] hM lv0 su (by decide) ?_
 rintro i hv hE
 try dsimp only at hE
 have hi:=hv
 try dsimp only at hi
 refine ad 9 ?_
 refine cd (fun h1=>?_) (fun h1=>?_)
 ·
  have h1l:i<p0.Txs.length:=dtl h1
  have hM:=hE.trans ((congrArg (fun n=>Qdy p0 n i) (sb1 h1l)).trans (Qdy.eq_2 _ _ _))
  refine ad 4 ?_
  refine dr 22 fun _ _ _ _ _ hb=>?_
  refine tk [0,1,2] ?_
  refine tx 3 (dx (xs:=p0.Txs) i om) ?_
  refine tk [4,5,6,7,8,9,10,11,12,13,14,19] ?_
  refine on 15 [12,13,14,15,16,17] (iG (xs:=p0.Txs) i om) ?_
  refine tk [16] ?_
  refine on 17 [12,13,14,15,16,17] (gO) ?_
  refine on 18 [12,13,14,15,16,17] (cG (hct:=fun hB=>(Q3m p0.Txs ((nth p0.Txs i).Id))) (hfn:=Yj0)) ?_
  refine tk [20,21] ?_
  refine dn hb ?_
  refine cd (fun h2=>?_) (fun h2=>?_)
  ·
   have hM:=hM.trans (bt h2)
   refine ad 4 ?_
   exact rz (rs:=[.tmp 2]) (rzB hM)
  ·
   have hM:=hM.trans (bf h2)
   refine ad 5 ?_
   rw[Qb3 (i:=i) om]
   refine ad 2 ?_
   exact Run.again (i+1) [0,1,2,3,4,5] [12,13,14,15,16,17] ⟨by first | omega | exact trivial | (dsimp only;omega) | (refine⟨by omega,?_⟩;simp_all;try omega),hM⟩ rfl lv1 su (by decide)
 ·
  have h1l: ¬ (i<p0.Txs.length):=dfl h1
  have hM:=hE.trans ((congrArg (fun n=>Qdy p0 n i) (sb0 h1l)).trans (Qdy.eq_1 _ _))
  refine ad 5 ?_
  refine op (cl (Qq8 p0.Store) Yfx) ?_
  refine ad 1 ?_
  refine ag 2 ?_
  have hg3:Dat.good (p0.Disk:Disk):=hg_p0.2.2.1
  refine op (cG (hct:=fun hB=>(Qlu p0.Disk)) (hfn:=Yed)) ?_
  refine ag 1 ?_
  refine ad 1 ?_
  refine ag 2 ?_
  refine op (cG (hct:=fun hB=>(Qhr p0.Seq 0 99000)) (hfn:=Qwf)) ?_
  refine ag 1 ?_
  refine ad 1 ?_
  refine ag 2 ?_
  refine op (cG (hct:=fun hB=>(Qy3 p0.Txs)) (hfn:=Yjz)) ?_
  refine ag 1 ?_
  refine ad 2 ?_
  exact rz (rs:=[.tmp 2]) (rzB hM)
def Qd0 (p0:Kernel):Nat→Nat→Bool
 | 0,i=>(Qls p0.Txs)
 | n+1,i=>bif (decide (((nth p0.Txs i).Id)≥p0.Next))||(decide ((Qmk (List.take i p0.Txs) ((nth p0.Txs i).Id))≥0)) then false else(Qd0 p0 n (i+1))
def Qhb (p0:Kernel):Bool:=bif ((!(Qjq p0.Store))||(!(Qe2 p0.Disk)))||(!(Qcd p0.Seq 0 99000)) then false else(Qd0 p0 (p0.Txs.length - 0) 0)
theorem Qze (p0:Kernel):CTs 131 [.o (.st Kernel _ inferInstance p0)] [Re.c (.bool (Qhb p0))]:=by
 refine en Tryz.func131 Tryz.ntmps131 fun w hG hgd=>?_
 obtain⟨hg_p0,_⟩:=hgd
 have hM:=Qhb.eq_1 p0
 have hlt:p0.Txs.length≤9223372036854775807:=hg_p0.2.1.1
 refine ad 10 ?_
 refine op (cl (Qrc p0.Store) Yfu) ?_
 refine ad 2 ?_
 refine ag 2 ?_
 have hg1:Dat.good (p0.Disk:Disk):=hg_p0.2.2.1
 refine op (cG (hct:=fun hB=>(Qlw p0.Disk)) (hfn:=Yeb)) ?_
 refine ag 2 ?_
 refine ad 1 ?_
 refine ag 2 ?_
 refine op (cG (hct:=fun hB=>(Qha p0.Seq 0 99000)) (hfn:=Qwe)) ?_
 refine ag 2 ?_
 refine ad 1 ?_
 refine cd (fun h2=>?_) (fun h2=>?_)
 ·
  have hM:=hM.trans (bt h2)
  refine ad 4 ?_
  exact rz (rs:=[.tmp 2]) (rzB hM)
 ·
  have hM:=hM.trans (bf h2)
  have th2_2:=Qhy (by have hq:=(Bool.or_eq_false_iff.1 h2).2;simpa using hq)
  refine ad 10 ?_
  refine Run.loopM (ι:=Nat) (fun s=>Qd0 p0 (p0.Txs.length - s) s) (fun s=>⟨48,6,[(1,.pt 0 0),(22,.sl 2 p0.Txs.length),(23,.v (.int .i64 (p0.Txs.length:Int))),(24,.v (.int .i64 (s:Int)))],[(0,.var [.sl 1 p0.Store.length,.sl 2 p0.Txs.length,.sl 3 p0.Disk.Slots.length,.v (.string p0.Disk.Journal.Text),.v (.int .i64 p0.Disk.Journal.Sure),.v (.int .i64 p0.Seq),.v (.int .i64 p0.Next),.v (.int .i64 p0.Time),.sl 4 p0.History.length,.sl 5 p0.Seen.length,.v (.bool p0.Room)] 43),(1,.ros Cell instDatCell p0.Store),(2,.ros Tx instDatTx p0.Txs),(3,.ros Slot instDatSlot p0.Disk.Slots),(4,.ros Entry instDatEntry p0.History),(5,.ros ByteArray instDatByteArray p0.Seen)]⟩) (fun s=>s≤p0.Txs.length) (fun s=>p0.Txs.length - s) 0 [5,0,1,2,3,4] [0,1,2,3,4,5] hM lv0 su (by decide) ?_
  rintro i hv hE
  try dsimp only at hE
  have hi:=hv
  try dsimp only at hi
  refine ad 5 ?_
  refine cd (fun h3=>?_) (fun h3=>?_)
  ·
   have h3l:i<p0.Txs.length:=dtl h3
   have hM:=hE.trans ((congrArg (fun n=>Qd0 p0 n i) (sb1 h3l)).trans (Qd0.eq_2 _ _ _))
   have hgi1: -9223372036854775808≤(nth p0.Txs i).Id:=(Qai (k:=i) hg_p0.2.1 om).1.1
   have hgi2:(nth p0.Txs i).Id≤9223372036854775807:=(Qai (k:=i) hg_p0.2.1 om).1.2
   refine ad 6 ?_
   refine op (ix (xs:=p0.Txs) i om) ?_
   refine ad 6 ?_
   refine dr 15 fun _ _ _ _ _ hb=>?_
   refine tk [0,1,2,3,4,5,6,7,8,10,11] ?_
   refine on 9 [1,2,3,4,5,6,7,8,9,10,11,12,13] (paG (xs:=p0.Txs) i om) ?_
   refine on 12 [1,2,3,4,5,6,7,8,9,10,11,12,13] (cG (hct:=fun hB=>(Q35 (List.take i p0.Txs) ((nth p0.Txs i).Id) (by first | assumption | exact⟨hgi1,hgi2⟩ | exact om))) (hfn:=Yjx)) ?_
   refine tk [13,14] ?_
   refine dn hb ?_
   refine cd (fun h5=>?_) (fun h5=>?_)
   ·
    have hM:=hM.trans (bt h5)
    refine ad 4 ?_
    exact rz (rs:=[.tmp 2]) (rzB hM)
   ·
    have hM:=hM.trans (bf h5)
    refine ad 4 ?_
    rw[Qb3 (i:=i) om]
    refine ad 2 ?_
    exact Run.again (i+1) [0,1,2,3,4,5] [8,9,10,11,12,13] ⟨by first | omega | exact trivial | (dsimp only;omega) | (refine⟨by omega,?_⟩;simp_all;try omega),hM⟩ rfl lv1 su (by decide)
  ·
   have h3l: ¬ (i<p0.Txs.length):=dfl h3
   have hM:=hE.trans ((congrArg (fun n=>Qd0 p0 n i) (sb0 h3l)).trans (Qd0.eq_1 _ _))
   refine ad 5 ?_
   refine op (cl (Qzh p0.Txs) Yjw) ?_
   refine ad 2 ?_
   exact rz (rs:=[.tmp 2]) (rzB hM)
end
section
theorem Yjy:FnOk Tryz.prog 188:=⟨_,Tryz.func188,rfl,by kernel_rfl⟩
def Qax (p0:Disk):Disk:=bif !(Qdv (Qah p0)) then(Qah p0) else(Disk.mk ((Qah p0).Slots) (Journal.mk (cutS ((Qah p0).Journal.Text) 0 (((Qal ((Qah p0).Journal.Text) (i64.wrap (((nth ((Qah p0).Slots) ((Qae (Qah p0)).toNat)).Seq)+1))).2).toNat)) ((Qal ((Qah p0).Journal.Text) (i64.wrap (((nth ((Qah p0).Slots) ((Qae (Qah p0)).toNat)).Seq)+1))).2)))
theorem Q0f (p0:Disk) (hs:Dat.small 1048576 p0):CTs 126 [.o (.st Disk _ inferInstance p0)] [Re.st Disk _ inferInstance (Qax p0)]:=by
 refine en Tryz.func126 Tryz.ntmps126 fun w hG hgd=>?_
 obtain⟨hg_p0,_⟩:=hgd
 have hM:=Qax.eq_1 p0
 have hsmD:=hs
 refine ad 8 ?_
 refine og (clg (Qnj p0 (by first | assumption | exact hsmD)) Ych) fun hgq=>?_
 obtain⟨hg1,_⟩:=hgq
 refine ad 6 ?_
 refine op (cl (Qlu (Qah p0)) Yed) ?_
 refine ad 2 ?_
 refine cd (fun h2=>?_) (fun h2=>?_)
 ·
  have hM:=hM.trans (bt h2)
  refine ad 5 ?_
  exact rz (rs:=[.cell 2 40]) (congrArg (fun x=>[Re.st Disk _ inferInstance x]) hM)
 ·
  have hM:=hM.trans (bf h2)
  have hdk:=Qjz (p0:=Qah p0) (by simpa using h2)
  have hrs:=Qrp (Qah p0).Journal.Text (i64.wrap ((nth (Qah p0).Slots ((Qae (Qah p0)).toNat)).Seq+1)) (by omega)
  refine ad 2 ?_
  refine dr 17 fun _ _ _ _ _ hb=>?_
  refine tk [0,1,2,3,4,5] ?_
  refine on 6 [0,1,2,3] (cl (Qj9 (Qah p0)) Yec) ?_
  refine on 7 [0,1,2,3] (oi (xs:=(Qah p0).Slots) ((Qae (Qah p0)).toNat) om (hi:=om)) ?_
  refine tk [8] ?_
  refine on 9 [0,1,2,3] (lf (xs:=(Qah p0).Slots) ((Qae (Qah p0)).toNat) 0 om) ?_
  refine tk [10] ?_
  refine ong 11 [1,2,3,4] (clg (Qo4 ((Qah p0).Journal.Text) (i64.wrap (((nth ((Qah p0).Slots) ((Qae (Qah p0)).toNat)).Seq)+1)) hg1.2.1 lv2) Yic) fun hgq=>?_
  obtain⟨hg3,_⟩:=hgq
  refine tk [12,13,14,15,16] ?_
  refine dn hb ?_
  refine ad 6 ?_
  refine op (cu 0 (((Qal ((Qah p0).Journal.Text) (i64.wrap (((nth ((Qah p0).Slots) ((Qae (Qah p0)).toNat)).Seq)+1))).2).toNat) (hl:=rfl)) ?_
  refine ad 10 ?_
  have hg4:Dat.good (Disk.mk ((Qah p0).Slots) (Journal.mk (cutS ((Qah p0).Journal.Text) 0 (((Qal ((Qah p0).Journal.Text) (i64.wrap (((nth ((Qah p0).Slots) ((Qae (Qah p0)).toNat)).Seq)+1))).2).toNat)) ((Qal ((Qah p0).Journal.Text) (i64.wrap (((nth ((Qah p0).Slots) ((Qae (Qah p0)).toNat)).Seq)+1))).2)):Disk):=⟨hg1.1,⟨(Qmp hg1.2.1),(Qsg _ _)⟩⟩
  exact rz (rs:=[.cell 2 40]) (congrArg (fun x=>[Re.st Disk _ inferInstance x]) hM)
def Qa4 (p0:Disk):Disk:=(Disk.mk ((Qam p0).Slots) (Journal.mk (bif (Qe2 p0) then(cutS p0.Journal.Text 0 (((Qac p0.Journal.Text (i64.wrap (((nth p0.Slots ((Qab p0).toNat)).Seq)+1))).2).toNat)) else((Qam p0).Journal.Text)) (bif (Qe2 p0) then((Qac p0.Journal.Text (i64.wrap (((nth p0.Slots ((Qab p0).toNat)).Seq)+1))).2) else((Qam p0).Journal.Sure))))
theorem Q0w (p0:Disk) (hs:Dat.small 1048576 p0):CTs 132 [.o (.st Disk _ inferInstance p0)] [Re.st Disk _ inferInstance (Qa4 p0)]:=by
 refine en Tryz.func132 Tryz.ntmps132 fun w hG hgd=>?_
 obtain⟨hg_p0,_⟩:=hgd
 have hM:=Qa4.eq_1 p0
 have hsmD:=hs
 refine ad 8 ?_
 refine og (clg (Qi0 p0 (by first | assumption | exact hsmD)) Q8n) fun hgq=>?_
 obtain⟨hg1,_⟩:=hgq
 refine ad 7 ?_
 refine op (cl (Qlw p0) Yeb) ?_
 refine ad 1 ?_
 refine Run.mid ⟨34,3,[(2,.pt 0 0),(3,.pt 1 0)],[(0,.var [.v (.slice none 0 0),.v (.string ⟨#[]⟩),.v (.int .i64 0)] 40),(1,.var [.sl 2 ((Qam p0).Slots.length),.v (.string (bif (Qe2 p0) then(cutS p0.Journal.Text 0 (((Qac p0.Journal.Text (i64.wrap (((nth p0.Slots ((Qab p0).toNat)).Seq)+1))).2).toNat)) else((Qam p0).Journal.Text))),.v (.int .i64 (bif (Qe2 p0) then((Qac p0.Journal.Text (i64.wrap (((nth p0.Slots ((Qab p0).toNat)).Seq)+1))).2) else((Qam p0).Journal.Sure)))] 40),(2,.own Slot instDatSlot ((Qam p0).Slots))]⟩ ?_ ?_
 ·refine cd (fun h2=>?_) (fun h2=>?_)
  ·
   have hdk:=Qtb (p0:=p0) (by simpa using h2)
   have hrs:=Qmj (p0).Journal.Text (i64.wrap ((nth (p0).Slots ((Qab (p0)).toNat)).Seq+1)) (by omega)
   refine ad 1 ?_
   refine dr 17 fun _ _ _ _ _ hb=>?_
   refine tk [0,1,2,3,4,5] ?_
   refine on 6 [0,1,2,3,4] (cl (Qmr p0) Yg7) ?_
   refine on 7 [2,3,4,5,6] (ix (xs:=p0.Slots) ((Qab p0).toNat) om (hi:=om)) ?_
   refine tk [8] ?_
   refine on 9 [2,3,4,5,6] (OpS.st rfl) ?_
   refine tk [10] ?_
   refine ong 11 [3,4,5,6,7] (clg (Qpa p0.Journal.Text (i64.wrap (((nth p0.Slots ((Qab p0).toNat)).Seq)+1)) lv2) Yib) fun hgq=>?_
   obtain⟨hg4,_⟩:=hgq
   refine tk [12,13,14,15,16] ?_
   refine dn hb ?_
   refine ad 5 ?_
   refine op (cu 0 (((Qac p0.Journal.Text (i64.wrap (((nth p0.Slots ((Qab p0).toNat)).Seq)+1))).2).toNat) (hl:=rfl)) ?_
   refine ad 5 ?_
   exact Run.at [2,4,3] [5,3,4] (by first | exact su | (rw[h2];exact su)) (by decide)
  ·
   refine ad 1 ?_
   exact Run.at [2,4,3] [2,0,1] (by first | exact su | (rw[h2];exact su)) (by decide)
 refine ad 5 ?_
 have hg5:Dat.good (Disk.mk ((Qam p0).Slots) (Journal.mk (bif (Qe2 p0) then(cutS p0.Journal.Text 0 (((Qac p0.Journal.Text (i64.wrap (((nth p0.Slots ((Qab p0).toNat)).Seq)+1))).2).toNat)) else((Qam p0).Journal.Text)) (bif (Qe2 p0) then((Qac p0.Journal.Text (i64.wrap (((nth p0.Slots ((Qab p0).toNat)).Seq)+1))).2) else((Qam p0).Journal.Sure))):Disk):=⟨hg1.1,⟨(bifS (Qmp hg_p0.2.1) hg1.2.1),(bifI (Qm5 _ _) hg1.2.2)⟩⟩
 exact rz (rs:=[.cell 2 40]) (congrArg (fun x=>[Re.st Disk _ inferInstance x]) hM)
def Qf2 (p0:List Int) (p1:Int):Nat→Nat→Bool
 | 0,i=>false
 | n+1,i=>bif decide ((nth p0 i)=p1) then true else(Qf2 p0 p1 n (i+1))
def Qgv (p0:List Int) (p1:Int):Bool:=Qf2 p0 p1 (p0.length - 0) 0
theorem Q3j (p0:List Int) (p1:Int):CTs 188 [.o (.sl Int instDatInt p0),.o (.c (.int .i64 p1))] [Re.c (.bool (Qgv p0 p1))]:=by
 refine en Tryz.func188 Tryz.ntmps188 fun w hG hgd=>?_
 obtain⟨hg_p0,_⟩:=hgd
 have hl_p0:p0.length≤9223372036854775807:=hg_p0.1
 have hM:=Qgv.eq_1 p0 p1
 refine ad 10 ?_
 refine Run.loopM (ι:=Nat) (fun s=>Qf2 p0 p1 (p0.length - s) s) (fun s=>⟨18,1,[(0,.sl 0 p0.length),(1,.v (.int .i64 p1)),(5,.v (.int .i64 (s:Int)))],[(0,.ros Int instDatInt p0)]⟩) (fun s=>s≤p0.length) (fun s=>p0.length - s) 0 [0] [0] hM lv0 su (by decide) ?_
 rintro i hv hE
 try dsimp only at hE
 have hi:=hv
 try dsimp only at hi
 refine ad 8 ?_
 refine cd (fun h1=>?_) (fun h1=>?_)
 ·
  have h1l:i<p0.length:=dtl h1
  have hM:=hE.trans ((congrArg (fun n=>Qf2 p0 p1 n i) (sb1 h1l)).trans (Qf2.eq_2 _ _ _ _))
  refine ad 7 ?_
  have hg3:=Qai (k:=i) hg_p0 om
  refine op (ix (xs:=p0) i om) ?_
  refine ad 4 ?_
  refine cd (fun h4=>?_) (fun h4=>?_)
  ·
   have hM:=hM.trans (bt h4)
   refine ad 4 ?_
   exact rz (rs:=[.tmp 4]) (rzB hM)
  ·
   have hM:=hM.trans (bf h4)
   refine ad 5 ?_
   rw[Qb3 (i:=i) om]
   refine ad 2 ?_
   exact Run.again (i+1) [0] [1] ⟨by first | omega | exact trivial | (dsimp only;omega) | (refine⟨by omega,?_⟩;simp_all;try omega),hM⟩ rfl lv1 su (by decide)
 ·
  have h1l: ¬ (i<p0.length):=dfl h1
  have hM:=hE.trans ((congrArg (fun n=>Qf2 p0 p1 n i) (sb0 h1l)).trans (Qf2.eq_1 _ _ _))
  refine ad 5 ?_
  exact rz (rs:=[.tmp 4]) (rzB hM)
def Qfd (p0:List Tx) (p1:List Int):Nat→(List Tx)→Nat→(List Tx)
 | 0,w2,i=>w2
 | n+1,w2,i=>Qfd p0 p1 n (bif ((decide (((nth w2 i).State)=1))&&(Qgv p1 ((nth w2 i).Id))) then(w2.set i { nth w2 i with State:=3 }) else w2) (i+1)
def Qef (p0:List Tx) (p1:List Int):(List Tx):=Qfd p0 p1 (((Qcl p0).length) - 0) (Qcl p0) 0
theorem Qnn (p0:List Tx) (p1:List Int) (hs:Dat.small 1048576 p0):CTs 127 [.o (.sl Tx instDatTx p0),.o (.sl Int instDatInt p1)] [Re.sl Tx instDatTx (Qef p0 p1)]:=by
 refine en Tryz.func127 Tryz.ntmps127 fun w hG hgd=>?_
 obtain⟨hg_p0,hg_p1,_⟩:=hgd
 have hl_p0:p0.length≤9223372036854775807:=hg_p0.1
 have hl_p1:p1.length≤9223372036854775807:=hg_p1.1
 have hM:=Qef.eq_1 p0 p1
 have hs1:(Qcl p0).length≤1048576:=by rw[Ybw];exact hs.1
 refine ad 7 ?_
 refine og (clg (Qq7 p0 (by first | assumption | exact hsmX)) Yfn) fun hgq=>?_
 obtain⟨hg1,_⟩:=hgq
 refine ad 8 ?_
 refine Run.loopM (ι:=(List Tx)×Nat) (fun s=>Qfd p0 p1 (((Qcl p0).length) - s.2) s.1 s.2) (fun s=>⟨35,2,[(1,.sl 0 p1.length),(5,.sl 1 s.1.length),(6,.v (.int .i64 (s.2:Int)))],[(0,.ros Int instDatInt p1),(1,.own Tx instDatTx s.1)]⟩) (fun s=>s.2≤(Qcl p0).length∧s.1.length=(Qcl p0).length) (fun s=>((Qcl p0).length) - s.2) ((Qcl p0),0) [1,2] [2,0] hM lv0 su (by decide) ?_
 rintro ⟨w2,i⟩ hv hE
 try dsimp only at hE
 obtain⟨hi,hv0⟩:=hv
 try dsimp only at hi hv0
 refine ad 8 ?_
 refine cd (fun h2=>?_) (fun h2=>?_)
 ·
  have h2l:i<(Qcl p0).length:=dtl h2
  have hM:=hE.trans ((congrArg (fun n=>Qfd p0 p1 n w2 i) (show((Qcl p0).length) - i=(((Qcl p0).length) - (i+1))+1 by omega)).trans (Qfd.eq_2 _ _ _ _ _))
  refine ad 7 ?_
  refine op (oi (xs:=w2) i om) ?_
  refine ad 1 ?_
  refine op (lf (xs:=w2) i 9 om) ?_
  refine ad 2 ?_
  refine ag 3 ?_
  refine op (oiG (xs:=w2) i om) ?_
  refine ag 1 ?_
  refine op (lfG (xs:=w2) i 0 om) ?_
  refine op (cG (hct:=fun hB=>(Q3j p1 ((nth w2 i).Id))) (hfn:=Yjy)) ?_
  refine ag 1 ?_
  refine ad 1 ?_
  refine Run.mid ⟨35,2,[(1,.sl 0 p1.length),(5,.sl 1 ((bif ((decide (((nth w2 i).State)=1))&&(Qgv p1 ((nth w2 i).Id))) then(w2.set i { nth w2 i with State:=3 }) else w2).length)),(6,.v (.int .i64 (i:Int)))],[(0,.ros Int instDatInt p1),(1,.own Tx instDatTx (bif ((decide (((nth w2 i).State)=1))&&(Qgv p1 ((nth w2 i).Id))) then(w2.set i { nth w2 i with State:=3 }) else w2))]⟩ ?_ ?_
  ·refine cd (fun h3=>?_) (fun h3=>?_)
   ·
    refine ad 3 ?_
    refine op (oi (xs:=w2) i om) ?_
    refine ad 1 ?_
    refine op (sF (xs:=w2) i 9 { nth w2 i with State:=3 } (by dsimp only[Str.fk,FkUp,FkSm,Fk.same,Fk.scal,cond,Nat.beq,Nat.pred];(repeat' apply And.intro)<;>first | rfl | trivial | decide | exact om) om) ?_
    refine ad 1 ?_
    exact Run.at [0,1] [0,1] (by first | exact su | (rw[h3];exact su)) (by decide)
   ·
    refine ad 1 ?_
    exact Run.at [0,1] [0,1] (by first | exact su | (rw[h3];exact su)) (by decide)
  refine ad 4 ?_
  rw[Qb3 (i:=i) om]
  refine ad 2 ?_
  exact Run.again (bif ((decide (((nth w2 i).State)=1))&&(Qgv p1 ((nth w2 i).Id))) then(w2.set i { nth w2 i with State:=3 }) else w2,(i+1)) [0,1] [0,1] ⟨by exact⟨by(try dsimp only);omega,by(try dsimp only);cases((decide (((nth w2 i).State)=1))&&(Qgv p1 ((nth w2 i).Id)))<;>simp only[cond_true,cond_false,length_set]<;>omega⟩,hM⟩ rfl lv1 su (by decide)
 ·
  have h2l: ¬ (i<(Qcl p0).length):=dfl h2
  have hM:=hE.trans ((congrArg (fun n=>Qfd p0 p1 n w2 i) (show((Qcl p0).length) - i=0 by omega)).trans (Qfd.eq_1 _ _ _ _))
  refine ad 6 ?_
  exact rz (rs:=[.tmp 4]) (congrArg (fun x=>[Re.sl Tx instDatTx x]) hM)
end
section
attribute [local irreducible] Qaf Qaa Qba Qay Qa4 Qax Qar Qao Qj4 Qef Qdu Qiq Qhb
set_option maxHeartbeats 4000000
theorem Yg8:FnOk Tryz.prog 68:=⟨_,Tryz.func68,rfl,by kernel_rfl⟩
theorem Yk3:FnOk Tryz.prog 124:=⟨_,Tryz.func124,rfl,by kernel_rfl⟩
theorem Yk2:FnOk Tryz.prog 125:=⟨_,Tryz.func125,rfl,by kernel_rfl⟩
theorem Yk1:FnOk Tryz.prog 126:=⟨_,Tryz.func126,rfl,by kernel_rfl⟩
theorem Ycg:FnOk Tryz.prog 127:=⟨_,Tryz.func127,rfl,by kernel_rfl⟩
theorem Yk0:FnOk Tryz.prog 130:=⟨_,Tryz.func130,rfl,by kernel_rfl⟩
theorem Ykz:FnOk Tryz.prog 131:=⟨_,Tryz.func131,rfl,by kernel_rfl⟩
theorem Yky:FnOk Tryz.prog 132:=⟨_,Tryz.func132,rfl,by kernel_rfl⟩
def Qdc (p0:Kernel) (p1:Int):Nat→(List Tx)→Nat→Kernel
 | 0,w8,i=>(Kernel.mk ((Qba (Qa4 (Qar p0.Disk p1))).1) w8 (Qa4 (Qar p0.Disk p1)) ((Qba (Qa4 (Qar p0.Disk p1))).2) ((Qaf p0).Next) ((Qaf p0).Time) (Qj4 ((Qaf p0).History) ((Qba (Qa4 (Qar p0.Disk p1))).2)) ((Qaf p0).Seen) ((Qaf p0).Room))
 | n+1,w8,i=>Qdc p0 p1 n (bif (decide (((nth w8 i).State)=1)) then(w8.set i { nth w8 i with State:=3 }) else w8) (i+1)
def Qce (p0:Kernel) (p1:Int):Kernel:=bif !(Qhb p0) then(Qaf p0) else(Qdc p0 p1 (((Qaf p0).Txs.length) - 0) ((Qaf p0).Txs) 0)
theorem Qoh (p0:Kernel) (p1:Int) (hs:KSm p0):CTs 71 [.o (.st Kernel _ inferInstance p0),.o (.c (.int .i64 p1))] [Re.st Kernel _ inferInstance (Qce p0 p1)]:=by
 refine en Tryz.func71 Tryz.ntmps71 fun w hG hgd=>?_
 obtain⟨hg_p0,_⟩:=hgd
 have hM:=Qce.eq_1 p0 p1
 have hsmD:Dat.small 1048576 p0.Disk:=hs.2.2.1
 refine ad 8 ?_
 refine og (clg (Qr9 p0 (by first | assumption | exact hsK2)) Yk0) fun hgq=>?_
 obtain⟨hg1,_⟩:=hgq
 refine ad 7 ?_
 refine op (cl (Qze p0) Ykz) ?_
 refine ad 2 ?_
 refine cd (fun h2=>?_) (fun h2=>?_)
 ·
  have hM:=hM.trans (bt h2)
  refine ad 5 ?_
  exact rz (rs:=[.cell 4 43]) (congrArg (fun x=>[Re.st Kernel _ inferInstance x]) hM)
 ·
  have hM:=hM.trans (bf h2)
  have hsmD2:Dat.small 1048576 (Qaf p0).Disk:=by rw[Qmg];exact hsmD
  have hsmX:Dat.small 1048576 (Qaf p0).Txs:=by rw[Qmg];exact hs.2.1
  have hlX:(Qaf p0).Txs.length≤1048576:=hsmX.1
  have hlH:(Qaf p0).History.length≤1048576:=by rw[Qmg];exact hs.2.2.2.1.1
  have hsmF:=Qmm hsmD p1
  have hrin:=Qn8 (Qa4 (Qar p0.Disk p1))
  refine ad 6 ?_
  have hg3:Dat.good (p0.Disk:Disk):=hg_p0.2.2.1
  refine og (clg (Qzg p0.Disk p1 (by first | assumption | exact hsmD)) Yni) fun hgq=>?_
  obtain⟨hg4,_⟩:=hgq
  refine og (clg (Q0w (Qar p0.Disk p1) (by first | assumption | exact hsmF)) Yky) fun hgq=>?_
  obtain⟨hg5,_⟩:=hgq
  refine ad 7 ?_
  refine og (clg (Qxd (Qa4 (Qar p0.Disk p1))) Ynm) fun hgq=>?_
  obtain⟨hg6,_⟩:=hgq
  refine ad 17 ?_
  refine Run.loopM (ι:=(List Tx)×Nat) (fun s=>Qdc p0 p1 (((Qaf p0).Txs.length) - s.2) s.1 s.2) (fun s=>⟨52,7,[(4,.pt 0 0),(5,.pt 1 0),(29,.sl 3 s.1.length),(30,.v (.int .i64 ((Qaf p0).Txs.length:Int))),(31,.v (.int .i64 (s.2:Int)))],[(0,.var [.v (.slice none 0 0),.v (.slice none 0 0),.v (.slice none 0 0),.v (.string ⟨#[]⟩),.v (.int .i64 0),.v (.int .i64 0),.v (.int .i64 0),.v (.int .i64 0),.v (.slice none 0 0),.v (.slice none 0 0),.v (.bool false)] 43),(1,.var [.sl 2 (((Qba (Qa4 (Qar p0.Disk p1))).1).length),.sl 3 s.1.length,.sl 4 ((Qa4 (Qar p0.Disk p1)).Slots.length),.v (.string ((Qa4 (Qar p0.Disk p1)).Journal.Text)),.v (.int .i64 ((Qa4 (Qar p0.Disk p1)).Journal.Sure)),.v (.int .i64 ((Qba (Qa4 (Qar p0.Disk p1))).2)),.v (.int .i64 ((Qaf p0).Next)),.v (.int .i64 ((Qaf p0).Time)),.sl 5 ((Qaf p0).History.length),.sl 6 ((Qaf p0).Seen.length),.v (.bool ((Qaf p0).Room))] 43),(2,.own Cell instDatCell ((Qba (Qa4 (Qar p0.Disk p1))).1)),(3,.own Tx instDatTx s.1),(4,.own Slot instDatSlot ((Qa4 (Qar p0.Disk p1)).Slots)),(5,.own Entry instDatEntry ((Qaf p0).History)),(6,.own ByteArray instDatByteArray ((Qaf p0).Seen))]⟩) (fun s=>s.2≤(Qaf p0).Txs.length∧s.1.length=((Qaf p0).Txs).length) (fun s=>((Qaf p0).Txs.length) - s.2) ((Qaf p0).Txs,0) [6,12,15,8,14,10,11] [9,3,0,5,1,7,8] hM lv0 su (by decide) ?_
  rintro ⟨w8,i⟩ hv hE
  try dsimp only at hE
  obtain⟨hi,hv0⟩:=hv
  try dsimp only at hi hv0
  refine ad 5 ?_
  refine cd (fun h7=>?_) (fun h7=>?_)
  ·
   have h7l:i<(Qaf p0).Txs.length:=dtl h7
   have hM:=hE.trans ((congrArg (fun n=>Qdc p0 p1 n w8 i) (show((Qaf p0).Txs.length) - i=(((Qaf p0).Txs.length) - (i+1))+1 by omega)).trans (Qdc.eq_2 _ _ _ _ _))
   refine ad 6 ?_
   refine op (oi (xs:=w8) i om) ?_
   refine oW (lW (xs:=w8) i (fun u8=>[.v (.int .i64 ((nth w8 i).Id)),.v (.int .i64 ((nth w8 i).Age)),.v (.int .i64 ((nth w8 i).Proc)),.v (.int .i64 ((nth w8 i).Began)),.v (.slice (u8 0).1 (u8 0).2.1 (u8 0).2.2),.v (.slice (u8 1).1 (u8 1).2.1 (u8 1).2.2),.v (.slice (u8 2).1 (u8 2).2.1 (u8 2).2.2),.v (.slice (u8 3).1 (u8 3).2.1 (u8 3).2.2),.v (.slice (u8 4).1 (u8 4).2.1 (u8 4).2.2),.v (.int .i64 ((nth w8 i).State))]) om) fun u8=>?_
   refine ad 10 ?_
   refine Run.mid ⟨52,7,[(4,.pt 0 0),(5,.pt 1 0),(29,.sl 3 ((bif (decide (((nth w8 i).State)=1)) then(w8.set i { nth w8 i with State:=3 }) else w8).length)),(30,.v (.int .i64 ((Qaf p0).Txs.length:Int))),(31,.v (.int .i64 (i:Int)))],[(0,.var [.v (.slice none 0 0),.v (.slice none 0 0),.v (.slice none 0 0),.v (.string ⟨#[]⟩),.v (.int .i64 0),.v (.int .i64 0),.v (.int .i64 0),.v (.int .i64 0),.v (.slice none 0 0),.v (.slice none 0 0),.v (.bool false)] 43),(1,.var [.sl 2 (((Qba (Qa4 (Qar p0.Disk p1))).1).length),.sl 3 ((bif (decide (((nth w8 i).State)=1)) then(w8.set i { nth w8 i with State:=3 }) else w8).length),.sl 4 ((Qa4 (Qar p0.Disk p1)).Slots.length),.v (.string ((Qa4 (Qar p0.Disk p1)).Journal.Text)),.v (.int .i64 ((Qa4 (Qar p0.Disk p1)).Journal.Sure)),.v (.int .i64 ((Qba (Qa4 (Qar p0.Disk p1))).2)),.v (.int .i64 ((Qaf p0).Next)),.v (.int .i64 ((Qaf p0).Time)),.sl 5 ((Qaf p0).History.length),.sl 6 ((Qaf p0).Seen.length),.v (.bool ((Qaf p0).Room))] 43),(2,.own Cell instDatCell ((Qba (Qa4 (Qar p0.Disk p1))).1)),(3,.own Tx instDatTx (bif (decide (((nth w8 i).State)=1)) then(w8.set i { nth w8 i with State:=3 }) else w8)),(4,.own Slot instDatSlot ((Qa4 (Qar p0.Disk p1)).Slots)),(5,.own Entry instDatEntry ((Qaf p0).History)),(6,.own ByteArray instDatByteArray ((Qaf p0).Seen))]⟩ ?_ ?_
   ·refine cd (fun h9=>?_) (fun h9=>?_)
    ·
     refine ad 4 ?_
     refine op (oi (xs:=w8) i om) ?_
     refine ad 1 ?_
     refine op (sF (xs:=w8) i 9 { nth w8 i with State:=3 } (by dsimp only[Str.fk,FkUp,FkSm,Fk.same,Fk.scal,cond,Nat.beq,Nat.pred];(repeat' apply And.intro)<;>first | rfl | trivial | decide | exact om) om) ?_
     refine ad 1 ?_
     exact Run.at [0,1,2,3,4,5,6] [1,2,3,4,5,6,7] (by first | exact su | (rw[h9];exact su)) (by decide)
    ·
     refine ad 1 ?_
     exact Run.at [0,1,2,3,4,5,6] [1,2,3,4,5,6,7] (by first | exact su | (rw[h9];exact su)) (by decide)
   refine ad 3 ?_
   rw[Qb3 (i:=i) om]
   refine ad 2 ?_
   exact Run.again (bif (decide (((nth w8 i).State)=1)) then(w8.set i { nth w8 i with State:=3 }) else w8,(i+1)) [0,1,2,3,4,5,6] [0,1,2,3,4,5,6] ⟨by exact⟨by(try dsimp only);omega,by(try dsimp only);cases(decide (((nth w8 i).State)=1))<;>simp only[cond_true,cond_false,length_set]<;>omega⟩,hM⟩ rfl lv1 su (by decide)
  ·
   have h7l: ¬ (i<(Qaf p0).Txs.length):=dfl h7
   have hM:=hE.trans ((congrArg (fun n=>Qdc p0 p1 n w8 i) (show((Qaf p0).Txs.length) - i=0 by omega)).trans (Qdc.eq_1 _ _ _ _))
   refine ad 7 ?_
   refine og (cm [5] [] [5] [] [0,1,2,3,4,6] (Q7n ((Qaf p0).History) ((Qba (Qa4 (Qar p0.Disk p1))).2) (by first | assumption | exact Qyk _)) Yng) fun _=>?_
   refine ad 8 ?_
   refine gd 7 fun hg10=>?_
   refine gd 3 fun hg11=>?_
   refine gd 6 fun hg12=>?_
   have hg13:Dat.good (Kernel.mk ((Qba (Qa4 (Qar p0.Disk p1))).1) w8 (Qa4 (Qar p0.Disk p1)) ((Qba (Qa4 (Qar p0.Disk p1))).2) ((Qaf p0).Next) ((Qaf p0).Time) (Qj4 ((Qaf p0).History) ((Qba (Qa4 (Qar p0.Disk p1))).2)) ((Qaf p0).Seen) ((Qaf p0).Room):Kernel):=⟨hg6,hg11,hg5,lv3,hg1.2.2.2.2.1,hg1.2.2.2.2.2.1,hg10,hg12,hg1.2.2.2.2.2.2.2.2⟩
   exact rz (rs:=[.cell 4 43]) (congrArg (fun x=>[Re.st Kernel _ inferInstance x]) hM)
def Qda (p0:Kernel) (p1:Int):Nat→Nat→Kernel
 | 0,i=>(Kernel.mk ((Qay (Qax (Qao ((Qaa p0).Disk) p1))).1) (Qef ((Qaa p0).Txs) (Qdu ((Qaa p0).Txs))) (Qax (Qao ((Qaa p0).Disk) p1)) ((Qay (Qax (Qao ((Qaa p0).Disk) p1))).2) ((Qaa p0).Next) ((Qaa p0).Time) ((Qaa p0).History) ((Qaa p0).Seen) ((Qaa p0).Room))
 | n+1,i=>bif ((nth ((Qaa p0).History) i).Laid)&&(decide (((nth ((Qaa p0).History) i).Seq)>((Qay (Qax (Qao ((Qaa p0).Disk) p1))).2))) then(Kernel.mk ((Qay (Qax (Qao ((Qaa p0).Disk) p1))).1) (Qef ((Qaa p0).Txs) (Qdu ((Qaa p0).Txs))) (Qax (Qao ((Qaa p0).Disk) p1)) ((Qay (Qax (Qao ((Qaa p0).Disk) p1))).2) ((Qaa p0).Next) ((Qaa p0).Time) (List.take i ((Qaa p0).History)) ((Qaa p0).Seen) ((Qaa p0).Room)) else(Qda p0 p1 n (i+1))
def Qdj (p0:Kernel) (p1:Int):Kernel:=bif !(Qiq (Qaa p0)) then(Qaa p0) else(Qda p0 p1 (((Qaa p0).History.length) - 0) 0)
theorem Qod (p0:Kernel) (p1:Int) (hs:KSm p0):CTs 69 [.o (.st Kernel _ inferInstance p0),.o (.c (.int .i64 p1))] [Re.st Kernel _ inferInstance (Qdj p0 p1)]:=by
 refine en Tryz.func69 Tryz.ntmps69 fun w hG hgd=>?_
 obtain⟨hg_p0,_⟩:=hgd
 have hM:=Qdj.eq_1 p0 p1
 have hsmD:Dat.small 1048576 p0.Disk:=hs.2.2.1
 refine ad 8 ?_
 refine og (clg (Qz9 p0 (by first | assumption | exact hsK2)) Yk3) fun hgq=>?_
 obtain⟨hg1,_⟩:=hgq
 refine ad 6 ?_
 refine op (cl (Qy1 (Qaa p0)) Yk2) ?_
 refine ad 2 ?_
 refine cd (fun h2=>?_) (fun h2=>?_)
 ·
  have hM:=hM.trans (bt h2)
  refine ad 5 ?_
  exact rz (rs:=[.cell 4 43]) (congrArg (fun x=>[Re.st Kernel _ inferInstance x]) hM)
 ·
  have hM:=hM.trans (bf h2)
  have hsmD2:Dat.small 1048576 (Qaa p0).Disk:=by rw[Q2k];exact hsmD
  have hsmX:Dat.small 1048576 (Qaa p0).Txs:=by rw[Q2k];exact hs.2.1
  have hlX:(Qaa p0).Txs.length≤1048576:=hsmX.1
  have hlH:(Qaa p0).History.length≤1048576:=by rw[Q2k];exact hs.2.2.2.1.1
  have hsmF:=Qrh hsmD2 p1
  refine ad 6 ?_
  have hg3:Dat.good ((Qaa p0).Disk:Disk):=hg1.2.2.1
  refine og (clg (Qy2 ((Qaa p0).Disk) p1 (by first | assumption | exact hsmD)) Ynj) fun hgq=>?_
  obtain⟨hg4,_⟩:=hgq
  refine og (clg (Q0f (Qao ((Qaa p0).Disk) p1) (by first | assumption | exact hsmF)) Yk1) fun hgq=>?_
  obtain⟨hg5,_⟩:=hgq
  refine ad 7 ?_
  refine og (clg (Qw4 (Qax (Qao ((Qaa p0).Disk) p1))) Ynq) fun hgq=>?_
  obtain⟨hg6,_⟩:=hgq
  refine ad 9 ?_
  refine Run.mid ⟨63,7,[(2,.pt 0 0),(4,.pt 6 0)],[(0,.var [.sl 1 (((Qay (Qax (Qao ((Qaa p0).Disk) p1))).1).length),.sl 2 ((Qef ((Qaa p0).Txs) (Qdu ((Qaa p0).Txs))).length),.sl 3 ((Qax (Qao ((Qaa p0).Disk) p1)).Slots.length),.v (.string ((Qax (Qao ((Qaa p0).Disk) p1)).Journal.Text)),.v (.int .i64 ((Qax (Qao ((Qaa p0).Disk) p1)).Journal.Sure)),.v (.int .i64 ((Qay (Qax (Qao ((Qaa p0).Disk) p1))).2)),.v (.int .i64 ((Qaa p0).Next)),.v (.int .i64 ((Qaa p0).Time)),.sl 4 ((Qaa p0).History.length),.sl 5 ((Qaa p0).Seen.length),.v (.bool ((Qaa p0).Room))] 43),(1,.own Cell instDatCell ((Qay (Qax (Qao ((Qaa p0).Disk) p1))).1)),(2,.own Tx instDatTx (Qef ((Qaa p0).Txs) (Qdu ((Qaa p0).Txs)))),(3,.own Slot instDatSlot ((Qax (Qao ((Qaa p0).Disk) p1)).Slots)),(4,.own Entry instDatEntry ((Qaa p0).History)),(5,.own ByteArray instDatByteArray ((Qaa p0).Seen)),(6,.var [.v (.slice none 0 0),.v (.slice none 0 0),.v (.slice none 0 0),.v (.string ⟨#[]⟩),.v (.int .i64 0),.v (.int .i64 0),.v (.int .i64 0),.v (.int .i64 0),.v (.slice none 0 0),.v (.slice none 0 0),.v (.bool false)] 43)]⟩ ?_ ?_
  ·
   refine ds 8 [0,1,2,3,4,5,6,7,8,10,11,12,13,14] fun _ _ _ _ _ hb=>?_
   refine tk [0,2] ?_
   refine o2 1 3 ?_ ?_
   ·
    refine on1 1 [0,1,2,3,4,5,6,7,8,10,11,12,13,14] (OpS.st rfl) ?_
    refine on 3 [0,1,2,3,4,5,6,7,8,10,11,12,13,14] (OpS.st rfl) ?_
    refine ong 4 [1,2,3,4,5,6,7,8,9,11,12,13,14,15] (clg (Qou ((Qaa p0).Txs) lv2) Yg8) fun hgq=>?_
    obtain⟨hg7,_⟩:=hgq
    refine ong 5 [2,3,4,5,6,7,8,9,10,12,13,14,15,16] (clg (Qnn ((Qaa p0).Txs) (Qdu ((Qaa p0).Txs)) (by first | assumption | exact hsmX)) Ycg) fun hgq=>?_
    obtain⟨hg8,_⟩:=hgq
    refine tk [6] ?_
    refine on 7 [2,3,4,5,6,7,8,9,10,12,13,14,15,16] (OpS.st rfl) ?_
    refine dn hb ?_
    exact Run.at [5,14,16,13,10,11,6] [11,2,0,3,8,9,10] su (by decide)
   ·
    refine on1 3 [0,1,2,3,4,5,6,7,8,10,11,12,13,14] (OpS.st rfl) ?_
    refine o2 1 4 ?_ ?_
    ·
     refine on1 1 [0,1,2,3,4,5,6,7,8,10,11,12,13,14] (OpS.st rfl) ?_
     refine ong 4 [1,2,3,4,5,6,7,8,9,11,12,13,14,15] (clg (Qou ((Qaa p0).Txs) lv2) Yg8) fun hgq=>?_
     obtain⟨hg9,_⟩:=hgq
     refine ong 5 [2,3,4,5,6,7,8,9,10,12,13,14,15,16] (clg (Qnn ((Qaa p0).Txs) (Qdu ((Qaa p0).Txs)) (by first | assumption | exact hsmX)) Ycg) fun hgq=>?_
     obtain⟨hg10,_⟩:=hgq
     refine tk [6] ?_
     refine on 7 [2,3,4,5,6,7,8,9,10,12,13,14,15,16] (OpS.st rfl) ?_
     refine dn hb ?_
     exact Run.at [5,14,16,13,10,11,6] [11,2,0,3,8,9,10] su (by decide)
    ·
     refine ong1 4 [1,2,3,4,5,6,7,8,9,11,12,13,14,15] (clg (Qou ((Qaa p0).Txs) lv2) Yg8) fun hgq=>?_
     obtain⟨hg11,_⟩:=hgq
     refine on 1 [1,2,3,4,5,6,7,8,9,11,12,13,14,15] (OpS.st rfl) ?_
     refine ong 5 [2,3,4,5,6,7,8,9,10,12,13,14,15,16] (clg (Qnn ((Qaa p0).Txs) (Qdu ((Qaa p0).Txs)) (by first | assumption | exact hsmX)) Ycg) fun hgq=>?_
     obtain⟨hg12,_⟩:=hgq
     refine tk [6] ?_
     refine on 7 [2,3,4,5,6,7,8,9,10,12,13,14,15,16] (OpS.st rfl) ?_
     refine dn hb ?_
     exact Run.at [5,14,16,13,10,11,6] [11,2,0,3,8,9,10] su (by decide)
  refine ad 6 ?_
  refine Run.loopM (ι:=Nat) (fun s=>Qda p0 p1 (((Qaa p0).History.length) - s) s) (fun s=>⟨63,7,[(2,.pt 0 0),(4,.pt 6 0),(5,.v (.int .i64 (s:Int)))],[(0,.var [.sl 1 (((Qay (Qax (Qao ((Qaa p0).Disk) p1))).1).length),.sl 2 ((Qef ((Qaa p0).Txs) (Qdu ((Qaa p0).Txs))).length),.sl 3 ((Qax (Qao ((Qaa p0).Disk) p1)).Slots.length),.v (.string ((Qax (Qao ((Qaa p0).Disk) p1)).Journal.Text)),.v (.int .i64 ((Qax (Qao ((Qaa p0).Disk) p1)).Journal.Sure)),.v (.int .i64 ((Qay (Qax (Qao ((Qaa p0).Disk) p1))).2)),.v (.int .i64 ((Qaa p0).Next)),.v (.int .i64 ((Qaa p0).Time)),.sl 4 ((Qaa p0).History.length),.sl 5 ((Qaa p0).Seen.length),.v (.bool ((Qaa p0).Room))] 43),(1,.own Cell instDatCell ((Qay (Qax (Qao ((Qaa p0).Disk) p1))).1)),(2,.own Tx instDatTx (Qef ((Qaa p0).Txs) (Qdu ((Qaa p0).Txs)))),(3,.own Slot instDatSlot ((Qax (Qao ((Qaa p0).Disk) p1)).Slots)),(4,.own Entry instDatEntry ((Qaa p0).History)),(5,.own ByteArray instDatByteArray ((Qaa p0).Seen)),(6,.var [.v (.slice none 0 0),.v (.slice none 0 0),.v (.slice none 0 0),.v (.string ⟨#[]⟩),.v (.int .i64 0),.v (.int .i64 0),.v (.int .i64 0),.v (.int .i64 0),.v (.slice none 0 0),.v (.slice none 0 0),.v (.bool false)] 43)]⟩) (fun s=>s≤(Qaa p0).History.length) (fun s=>((Qaa p0).History.length) - s) 0 [0,1,2,3,4,5,6] [0,1,2,3,4,5,6] hM lv0 su (by decide) ?_
  rintro i hv hE
  try dsimp only at hE
  have hi:=hv
  try dsimp only at hi
  refine ad 9 ?_
  refine cd (fun h13=>?_) (fun h13=>?_)
  ·
   have h13l:i<(Qaa p0).History.length:=dtl h13
   have hM:=hE.trans ((congrArg (fun n=>Qda p0 p1 n i) (show((Qaa p0).History.length) - i=(((Qaa p0).History.length) - (i+1))+1 by omega)).trans (Qda.eq_2 _ _ _ _))
   refine ad 4 ?_
   refine dr 17 fun _ _ _ _ _ hb=>?_
   refine tk [0,1,2] ?_
   refine on 3 [0,1,2,3,4,5,6] (oi (xs:=(Qaa p0).History) i om) ?_
   refine tk [4] ?_
   refine on 5 [0,1,2,3,4,5,6] (lf (xs:=(Qaa p0).History) i 7 om) ?_
   refine tk [6,7,8,9,13,14] ?_
   refine on 10 [0,1,2,3,4,5,6] (oiG (xs:=(Qaa p0).History) i om) ?_
   refine tk [11] ?_
   refine on 12 [0,1,2,3,4,5,6] (lfG (xs:=(Qaa p0).History) i 0 om) ?_
   refine tk [15,16] ?_
   refine dn hb ?_
   refine cd (fun h14=>?_) (fun h14=>?_)
   ·
    have hM:=hM.trans (bt h14)
    refine ad 5 ?_
    refine op (cO (xs:=(Qaa p0).History) i (by first | omega | exact om | (simp only[List.length_append,List.length_take,List.length_replicate,List.length_set];omega)) (hl:=by first | rfl | (simp only[List.length_append,List.length_take,List.length_replicate,List.length_set];omega))) ?_
    refine ad 9 ?_
    refine gd 7 fun hg15=>?_
    refine gd 2 fun hg16=>?_
    refine gd 5 fun hg17=>?_
    have hg18:Dat.good (Kernel.mk ((Qay (Qax (Qao ((Qaa p0).Disk) p1))).1) (Qef ((Qaa p0).Txs) (Qdu ((Qaa p0).Txs))) (Qax (Qao ((Qaa p0).Disk) p1)) ((Qay (Qax (Qao ((Qaa p0).Disk) p1))).2) ((Qaa p0).Next) ((Qaa p0).Time) (List.take i ((Qaa p0).History)) ((Qaa p0).Seen) ((Qaa p0).Room):Kernel):=⟨hg6,hg16,hg5,(Qnx _),hg1.2.2.2.2.1,hg1.2.2.2.2.2.1,hg15,hg17,hg1.2.2.2.2.2.2.2.2⟩
    exact rz (rs:=[.cell 4 43]) (congrArg (fun x=>[Re.st Kernel _ inferInstance x]) hM)
   ·
    have hM:=hM.trans (bf h14)
    refine ad 5 ?_
    rw[Qb3 (i:=i) om]
    refine ad 2 ?_
    exact Run.again (i+1) [0,1,2,3,4,5,6] [0,1,2,3,4,5,6] ⟨by first | omega | exact trivial | (dsimp only;omega) | (refine⟨by omega,?_⟩;simp_all;try omega),hM⟩ rfl lv1 su (by decide)
  ·
   have h13l: ¬ (i<(Qaa p0).History.length):=dfl h13
   have hM:=hE.trans ((congrArg (fun n=>Qda p0 p1 n i) (show((Qaa p0).History.length) - i=0 by omega)).trans (Qda.eq_1 _ _ _))
   refine ad 6 ?_
   refine gd 2 fun hg19=>?_
   refine gd 4 fun hg20=>?_
   refine gd 5 fun hg21=>?_
   have hg22:Dat.good (Kernel.mk ((Qay (Qax (Qao ((Qaa p0).Disk) p1))).1) (Qef ((Qaa p0).Txs) (Qdu ((Qaa p0).Txs))) (Qax (Qao ((Qaa p0).Disk) p1)) ((Qay (Qax (Qao ((Qaa p0).Disk) p1))).2) ((Qaa p0).Next) ((Qaa p0).Time) ((Qaa p0).History) ((Qaa p0).Seen) ((Qaa p0).Room):Kernel):=⟨hg6,hg19,hg5,(Qnx _),hg1.2.2.2.2.1,hg1.2.2.2.2.2.1,hg20,hg21,hg1.2.2.2.2.2.2.2.2⟩
   exact rz (rs:=[.cell 4 43]) (congrArg (fun x=>[Re.st Kernel _ inferInstance x]) hM)
end
section
theorem Yei (s:ByteArray) (n:Nat) (h:s.size=n+1):cutS s n s.size=⟨#[Qav s n]⟩:=by
 obtain⟨⟨l⟩⟩:=s
 have hl:l.length=n+1:=h
 apply ByteArray.ext
 unfold cutS
 rw[Ycu]
 simp only[ByteArray.data_extract]
 show(l.toArray.extract n _)=_
 rw[show(⟨l.toArray⟩:ByteArray).size=n+1 from hl]
 apply Array.ext
 ·simp[hl]
 ·intro i h1 h2
  have:i=0:=by simp at h2;omega
  subst this
  simp[List.getElem?_eq_getElem (show n<l.length by omega)]
theorem Ygz (s:ByteArray) (hs:s.size≤9223372036854775807):Qbw s ⟨#[42]⟩=((decide ((s.size:Int)>0))&&(decide (((Qav s ((i64.wrap ((s.size:Int) - 1)).toNat)).toNat:Int)=42))):=by
 unfold Qbw
 by_cases h:s.size=0
 ·rw[decide_eq_false (show ¬ (s.size:Int)>0 by omega),decide_eq_false (show ¬ (s.size:Int)≥((⟨#[42]⟩:ByteArray).size:Int) by show ¬ (s.size:Int)≥1;omega),Bool.false_and,Bool.false_and]
 ·obtain⟨n,hn⟩: ∃ n,s.size=n+1:=⟨s.size - 1,by omega⟩
  rw[decide_eq_true (show(s.size:Int)>0 by omega),decide_eq_true (show(s.size:Int)≥((⟨#[42]⟩:ByteArray).size:Int) by show(s.size:Int)≥1;omega),Bool.true_and,Bool.true_and]
  have hw:(IntKind.i64.wrap ((s.size:Int) - 1)).toNat=n:=by rw[IntWalk.i64_in _ (by omega)];omega
  rw[show((⟨#[42]⟩:ByteArray).size:Int)=1 from rfl,hw,Yei s n hn]
  apply decide_eq_decide.2
  constructor
  ·intro e
   injection e with e
   have:Qav s n=42:=by simpa using e
   rw[this];rfl
  ·intro e
   have:Qav s n=42:=by
    have h3:(Qav s n).toNat=42:=by omega
    exact UInt8.toNat_inj.1 h3
   rw[this]
theorem Qp3 (s:ByteArray) (hs:s.size≤9223372036854775807):Qbc s ⟨#[42]⟩=Qbo s:=by
 unfold Qbc Qcn Qbo
 rw[Ygz s hs]
 cases(decide ((s.size:Int)>0))&&(decide (((Qav s ((i64.wrap ((s.size:Int) - 1)).toNat)).toNat:Int)=42)) with
 | true=>rfl
 | false=>rfl
theorem Qwm (a b:ByteArray) (ha:a.size≤9223372036854775807):Qjr a b=Qic a b:=by
 unfold Qjr Qic
 rw[Qp3 a ha]
 rfl
theorem Q0z (a b:ByteArray) (ha:a.size≤9223372036854775807) (hb:b.size≤9223372036854775807):Qhh a b=Qcw a b:=by
 unfold Qhh Qcw
 rw[Qwm a b ha,Qwm b a hb,Qp3 a ha,Qp3 b hb]
 unfold Qic
 cases(Qbo a).2<;>cases(Qbo b).2<;>rfl
theorem Qrf (a b:ByteArray):Qcw a b=Qcw b a:=by
 unfold Qcw Qic
 cases(Qbo a).2<;>cases(Qbo b).2
 ·simp only[Bool.and_self,cond_false]
  exact decide_eq_decide.2 eq_comm
 ·rfl
 ·rfl
 ·simp only[Bool.and_self,cond_true]
  exact Bool.or_comm _ _
def anyN (f:Nat→Bool):Nat→Nat→Bool
 | 0,_=>false
 | n+1,i=>f i||anyN f n (i+1)
theorem Q36 (f:Nat→Bool): ∀ n i,anyN f n i=true ↔ ∃ j,i≤j∧j<i+n∧f j=true:=by
  intro n
  induction n with
  | zero => intro i; simp only [anyN]; constructor; · intro h; cases h
            · rintro ⟨j,h1,h2,_⟩;omega
  | succ n ih =>
    intro i
    rw[anyN,Bool.or_eq_true,ih]
    constructor
    · rintro (h | ⟨j, h1, h2, h3⟩)
      · exact⟨i,Nat.le_refl _,by omega,h⟩
      · exact⟨j,by omega,by omega,h3⟩
    · rintro ⟨j, h1, h2, h3⟩
      by_cases e:j=i
      · subst e;exact .inl h3
      · exact .inr ⟨j,by omega,by omega,h3⟩
theorem Yau {f g:Nat→Bool}: ∀ n i,(∀ j,i≤j→j<i+n→f j=g j)→anyN f n i=anyN g n i:=by
 intro n
 induction n with
 | zero=>intro i _;rfl
 | succ n ih=>intro i h;rw[anyN,anyN,h i (Nat.le_refl _) (by omega),ih (i+1) fun j h1 h2=>h j (by omega) (by omega)]
theorem Q5n (p q:List ByteArray) (i:Nat) (k:Unit→Bool): ∀ n j,Qfb p q i k n j=(anyN (fun j=>Qcw (nth p i) (nth q j)) n j||k ()):=by
 intro n
 induction n with
 | zero=>intro j;rfl
 | succ n ih =>
  intro j
  rw[Qfb,anyN,ih]
  cases Qcw (nth p i) (nth q j)<;>rfl
theorem Qwa (p q:List ByteArray): ∀ n i,Qfc p q n i=anyN (fun i=>anyN (fun j=>Qcw (nth p i) (nth q j)) (q.length - 0) 0) n i:=by
 intro n
 induction n with
 | zero=>intro i;rfl
 | succ n ih=>intro i;rw[Qfc,Q5n,anyN,ih]
theorem Qzs (p q:List ByteArray):Qf7 p q=true ↔ ∃ i j,i<p.length∧j<q.length∧Qcw (nth p i) (nth q j)=true:=by
 unfold Qf7
 rw[Qwa,Q36]
 constructor
 ·rintro ⟨i,_,h2,h3⟩
  obtain⟨j,_,h5,h6⟩:=(Q36 _ _ _).1 h3
  exact⟨i,j,by omega,by omega,h6⟩
 ·rintro ⟨i,j,h1,h2,h3⟩
  exact⟨i,by omega,by omega,(Q36 _ _ _).2 ⟨j,by omega,by omega,h3⟩⟩
theorem Q6p (p q:List ByteArray):Qf7 p q=Qf7 q p:=by
 rw[Bool.eq_iff_iff,Qzs,Qzs]
 constructor
 ·rintro ⟨i,j,h1,h2,h3⟩;exact⟨j,i,h2,h1,by rw[Qrf];exact h3⟩
 ·rintro ⟨i,j,h1,h2,h3⟩;exact⟨j,i,h2,h1,by rw[Qrf];exact h3⟩
theorem Yb0 (q:List ByteArray) (x:ByteArray): ∀ n i,decide (Qbq q x n i≥0)=anyN (fun j=>Qhh x (nth q j)) n i:=by
 intro n
 induction n with
 | zero=>intro i;rfl
 | succ n ih =>
  intro i
  rw[Qbq,anyN,←ih]
  unfold Qkw
  cases Qhh x (nth q i) with
  | true=>rw[cond_true,decide_eq_true (show((i:Nat):Int)≥0 by omega)];rfl
  | false=>rfl
theorem Qqf {p q:List ByteArray} (hp:Dat.good p) (hq:Dat.good q):Qij p q=Qf7 p q:=by
 have sz: ∀ {l:List ByteArray},Dat.good l→ ∀ {i},i<l.length→(nth l i).size≤9223372036854775807:=fun h _ hi=>Qai h hi
 have key: ∀ n i,i+n≤p.length→Qft p q n i=anyN (fun i=>anyN (fun j=>Qcw (nth p i) (nth q j)) (q.length - 0) 0) n i:=by
  intro n
  induction n with
  | zero=>intro i _;rfl
  | succ n ih =>
   intro i h
   rw[Qft,anyN,ih (i+1) (by omega)]
   unfold Qfz Qgi
   rw[Yb0,Yau (g:=fun j=>Qcw (nth p i) (nth q j)) (q.length - 0) 0 fun j _ h2=>Q0z _ _ (sz hp (by omega)) (sz hq (by omega))]
   cases anyN (fun j=>Qcw (nth p i) (nth q j)) (q.length - 0) 0<;>rfl
 unfold Qij Qf7
 rw[key _ _ (by omega),Qwa]
theorem Yaz {a b:Touch} (ha:Dat.good a) (hb:Dat.good b):Qn9 a b=Qly a b:=by
 unfold Qn9 Qly
 rw[Qqf ha.2 hb.1,Qqf ha.2 hb.2,Qqf hb.2 ha.1,Q6p b.Writes a.Reads]
theorem Q8c {α:Type} [Inhabited α] (xs:List α) {i j:Nat} (h:j<i):nth (xs.take i) j=nth xs j:=by
 unfold nth
 rw[List.getD_eq_getElem?_getD,List.getD_eq_getElem?_getD,List.getElem?_take,if_pos h]
theorem Qxn {l:List Tx} (hg:Dat.good l) {i:Nat} (hi:i<l.length) {k:Unit→Bool}: ∀ n j,j+n=i→Qew l i k n j=Qeq l i k n j:=by
 intro n
 induction n with
 | zero=>intro j _;rfl
 | succ n ih =>
  intro j h
  have e:nth (cutL l 0 i) j=nth l j:=Q8c l (by omega)
  rw[Qew,Qeq,ih (j+1) (by omega),e,Yaz (Qai hg hi).2.2.2.2.2.2.1 (Qai hg (k:=j) (by omega)).2.2.2.2.2.2.1]
theorem Q4l {l:List Tx} (hg:Dat.good l):Qls l=Qlp l:=by
 have key: ∀ n i,i+n=l.length→Qex l n i=Qer l n i:=by
  intro n
  induction n with
  | zero=>intro i _;rfl
  | succ n ih =>
   intro i h
   have hc:(cutL l 0 i).length=i:=by unfold cutL;rw[List.length_drop,List.length_take];omega
   rw[Qex,Qer,hc,Qxn hg (by omega) (i - 0) 0 (by omega),ih (i+1) (by omega)]
 exact key _ 0 (by omega)
theorem Q03 (l:List Tx) (x:Int): ∀ n i,Qcg l x n i=Qcx l x n i:=by
 intro n
 induction n with
 | zero=>intro i;rfl
 | succ n ih=>intro i;rw[Qcg,Qcx,ih];rfl
theorem Q7w (l:List Tx) (x:Int):Qmk l x=Qjd l x:=Q03 l x _ _
theorem Q4g {l:List Tx} {i:Nat} (hi:i<l.length): ∀ n j,j+n=i→decide (Qcx (l.take i) (nth l i).Id n j≥0)=!decide (Qcx l (nth l i).Id (l.length - j) j=(i:Int)):=by
 intro n
 induction n with
 | zero =>
  intro j h
  obtain rfl:j=i:=by omega
  obtain⟨m,hm⟩: ∃ m,l.length - j=m+1:=⟨l.length - j - 1,by omega⟩
  rw[hm,Qcx,Qcx,decide_eq_true rfl,cond_true,decide_eq_true rfl]
  rfl
 | succ n ih =>
  intro j h
  obtain⟨m,hm⟩: ∃ m,l.length - j=m+1:=⟨l.length - j - 1,by omega⟩
  rw[hm,Qcx,Qcx,Q8c l (show j<i by omega)]
  cases decide ((nth l j).Id=(nth l i).Id) with
  | true=>rw[cond_true,cond_true,decide_eq_true (show((j:Nat):Int)≥0 by omega),decide_eq_false (show ¬ ((j:Nat):Int)=(i:Int) by omega)];rfl
  | false =>
   rw[cond_false,cond_false,ih (j+1) (by omega),show m=l.length - (j+1) by omega]
theorem Qxj {k:Kernel} (hg:Dat.good k.Txs): ∀ n i,i+n=k.Txs.length→Qdy k n i=((((Qfw k.Store)&&(Qdv k.Disk))&&(Qcm k.Seq 0 99000))&&Qd0 k n i):=by
 intro n
 induction n with
 | zero=>intro i _;rw[Qdy,Qd0,Q4l hg]
 | succ n ih =>
  intro i h
  have hb:=Q4g (l:=k.Txs) (i:=i) (by omega) i 0 (by omega)
  have e:decide (Qmk (List.take i k.Txs) (nth k.Txs i).Id≥0)=!decide (Qjd k.Txs (nth k.Txs i).Id=(i:Int)):=by
   rw[Q7w]
   unfold Qjd
   rw[show(List.take i k.Txs).length - 0=i by rw[length_take];omega]
   exact hb
  rw[Qdy,Qd0,e,ih (i+1) (by omega)]
  cases(decide (((nth k.Txs i).Id)≥k.Next))||(!decide ((Qjd k.Txs ((nth k.Txs i).Id))=(i:Int))) with
  | true=>rw[cond_true,cond_true,Bool.and_false]
  | false=>rfl
theorem Q4e {k:Kernel} (hg:Dat.good k.Txs):Qhb k=Qiq k:=by
 unfold Qhb Qiq
 rw[Qxj hg _ _ (by omega),Qwl,Qmu,Qph]
 cases Qfw k.Store<;>cases Qdv k.Disk<;>cases Qcm k.Seq 0 99000<;>rfl
end
section
theorem Yg3 (l:List Int) (x:Int): ∀ n i,Qf2 l x n i=true ↔ ∃ j,i≤j∧j<i+n∧nth l j=x:=by
 intro n
 induction n with
 | zero =>
  intro i
  constructor
  ·intro h;cases h
  ·rintro ⟨j,h1,h2,_⟩;omega
 | succ n ih =>
  intro i
  rw[Qf2]
  cases h:decide (nth l i=x) with
  | true=>exact⟨fun _=>⟨i,Nat.le_refl _,by omega,of_decide_eq_true h⟩,fun _=>rfl⟩
  | false =>
   rw[cond_false,ih]
   constructor
   ·rintro ⟨j,h1,h2,h3⟩;exact⟨j,by omega,by omega,h3⟩
   ·rintro ⟨j,h1,h2,h3⟩
    refine⟨j,?_,by omega,h3⟩
    rcases Nat.eq_or_lt_of_le h1 with e | e
    ·subst e;exact absurd h3 (of_decide_eq_false h)
    ·exact e
theorem Yg2 {l:List Int} {x:Int} (h:x∈l):Qgv l x=true:=by
 obtain⟨j,hj,e⟩:=List.getElem_of_mem h
 exact(Yg3 l x _ 0).2 ⟨j,Nat.zero_le _,by omega,by unfold nth;rw[List.getD_eq_getElem?_getD,List.getElem?_eq_getElem hj];exact e⟩
theorem Q4c (l:List Tx): ∀ n v i,(∀ x∈v,x∈Qe7 l n v i)∧ ∀ j,i≤j→j<i+n→(nth l j).State=1→(nth l j).Id∈Qe7 l n v i:=by
 intro n
 induction n with
 | zero=>intro v i;exact⟨fun _ h=>h,fun j h1 h2=>by omega⟩
 | succ n ih =>
  intro v i
  rw[Qe7]
  obtain⟨h1,h2⟩:=ih (bif (decide (((nth l i).State)=1)) then(v++[(nth l i).Id]) else v) (i+1)
  refine⟨fun x hx=>h1 x ?_,fun j hj1 hj2 hs=>?_⟩
  ·cases decide ((nth l i).State=1) with
   | true=>exact List.mem_append_left _ hx
   | false=>exact hx
  ·rcases Nat.eq_or_lt_of_le hj1 with e | e
   ·subst e
    refine h1 _ ?_
    rw[decide_eq_true hs,cond_true]
    exact List.mem_append_right _ (List.mem_singleton.2 rfl)
   ·exact h2 j (by omega) (by omega) hs
theorem Yaw (l:List Tx) (j:Nat) (hj:j<l.length) (h:(nth l j).State=1):Qgv (Qdu l) (nth l j).Id=true:=Yg2 ((Q4c l _ _ 0).2 j (Nat.zero_le _) (by omega) h)
theorem Q25 {α:Type} [Inhabited α] {xs:List α} {i j:Nat} {x:α} (h:i≠j):nth (xs.set i x) j=nth xs j:=by
 simp[nth,List.getD_eq_getElem?_getD,List.getElem?_set_ne h]
def Q3d:Nat→List Tx→Nat→List Tx
  | 0,w,_=>w
  | n+1,w,i=>Q3d n (bif (decide (((nth w i).State)=1)) then(w.set i { nth w i with State:=3 }) else w) (i+1)
theorem Q4h (l:List Tx) (ids:List Int) (h: ∀ j,j<l.length→(nth l j).State=1→Qgv ids (nth l j).Id=true): ∀ n w i,i+n=l.length→(∀ j,i≤j→nth w j=nth l j)→Qfd l ids n w i=Q3d n w i:=by
 intro n
 induction n with
 | zero=>intro w i _ _;rfl
 | succ n ih =>
  intro w i hi hw
  rw[Qfd,Q3d]
  have e:=hw i (Nat.le_refl _)
  have hc:((decide (((nth w i).State)=1))&&(Qgv ids ((nth w i).Id)))=decide (((nth w i).State)=1):=by
   rw[e]
   cases hd:decide ((nth l i).State=1) with
   | true=>rw[h i (by omega) (of_decide_eq_true hd)];rfl
   | false=>rfl
  rw[hc]
  refine ih _ (i+1) (by omega) fun j hj=>?_
  cases decide ((nth w i).State=1) with
  | true=>rw[cond_true,Q25 (by omega)];exact hw j (by omega)
  | false=>exact hw j (by omega)
theorem Yay (l:List Tx):Qef l (Qdu l)=Q3d (l.length - 0) l 0:=by
 unfold Qef
 rw[Ybw]
 exact Q4h l _ (Yaw l) _ _ 0 (by omega) fun _ _=>rfl
theorem Qik (p0:Kernel) (p1:Int): ∀ n w i,Qdc p0 p1 n w i=(Kernel.mk ((Qba (Qa4 (Qar p0.Disk p1))).1) (Q3d n w i) (Qa4 (Qar p0.Disk p1)) ((Qba (Qa4 (Qar p0.Disk p1))).2) p0.Next p0.Time (Qj4 p0.History ((Qba (Qa4 (Qar p0.Disk p1))).2)) p0.Seen p0.Room):=by
 intro n
 induction n with
 | zero=>intro w i;rw[Qdc,Qmg];rfl
 | succ n ih=>intro w i;rw[Qdc,ih];rfl
theorem Qpq (p0:Kernel) (p1:Int): ∀ n i,i+n=p0.History.length→Qda p0 p1 n i=(Kernel.mk ((Qay (Qax (Qao p0.Disk p1))).1) (Qef p0.Txs (Qdu p0.Txs)) (Qax (Qao p0.Disk p1)) ((Qay (Qax (Qao p0.Disk p1))).2) p0.Next p0.Time (bif decide (Qaz p0.History ((Qay (Qax (Qao p0.Disk p1))).2) n i<0) then p0.History else p0.History.take (Qaz p0.History ((Qay (Qax (Qao p0.Disk p1))).2) n i).toNat) p0.Seen p0.Room):=by
 intro n
 induction n with
 | zero=>intro i _;rw[Qda,Qaz,Q2k];rfl
 | succ n ih =>
  intro i hi
  rw[Qda,Qaz,Q2k]
  unfold Qmh
  cases(nth p0.History i).Laid&&decide ((nth p0.History i).Seq>(Qay (Qax (Qao p0.Disk p1))).2) with
  | true =>
   rw[cond_true,cond_true,decide_eq_false (show ¬ ((i:Nat):Int)<0 by omega),cond_false]
   rfl
  | false=>rw[cond_false,cond_false];exact ih (i+1) (by omega)
theorem Q6r (d:Disk):Qa4 d=Qax d:=by
 unfold Qa4 Qax
 rw[Qxr,Qyu,Qmu,Qhz,Qgq]
 cases Qdv d<;>rfl
theorem Qmt {k:Kernel} (hg:Dat.good k.Txs) (p:Int):Qce k p=Qdj k p:=by
 unfold Qce Qdj
 rw[Q4e hg,Qmg,Q2k,Qik,Qpq k p _ 0 (by omega),Yay,Qtw,Q6r,Qi8]
 rfl
theorem Qpn (d:Disk): ∀ n v i,(Qbx d n v i).1.length≤v.length+4001*n:=by
 intro n
 induction n with
 | zero=>intro v i;exact Nat.le_refl _
 | succ n ih =>
  intro v i
  rw[Qbx]
  refine Nat.le_trans (ih _ _) ?_
  have h1:=Qi1 v (nth (Qal d.Journal.Text (i64.wrap (((nth d.Slots ((Qae d).toNat)).Seq)+1))).1 i)
  have h2:=(Qg6 d.Journal.Text (i64.wrap (((nth d.Slots ((Qae d).toNat)).Seq)+1))).2 i
  omega
theorem Qs9 (d:Disk):(Qba d).1.length≤1073741824:=by
 rw[Qi8]
 unfold Qay
 cases h:Qdv d with
 | false=>exact Nat.zero_le _
 | true =>
  have hd:=Qjz h
  have h2:=(Qg6 d.Journal.Text (i64.wrap (((nth d.Slots ((Qae d).toNat)).Seq)+1))).1
  rw[Bool.not_true,cond_false]
  refine Nat.le_trans (Qpn d _ _ 0) ?_
  simp only[List.nil_append]
  omega
theorem Q58 {P:List Tx→Prop} (h: ∀ w i,P w→P (w.set i { nth w i with State:=3 })): ∀ n w i,P w→P (Q3d n w i):=by
  intro n
  induction n with
  | zero=>intro w i hw;exact hw
  | succ n ih =>
    intro w i hw
    rw[Q3d]
    refine ih _ _ ?_
    cases decide ((nth w i).State=1) with
    | true=>exact h w i hw
    | false=>exact hw
theorem Q7d {N : Nat} : ∀ n w i, Dat.small N w → Dat.small N (Q3d n w i) := Q58 fun w i h => by
 by_cases hi:i<w.length
 ·have hx:=Qcv h hi
  exact Q5o h ⟨trivial,trivial,trivial,trivial,hx.2.2.2.2.1,hx.2.2.2.2.2.1,hx.2.2.2.2.2.2.1,hx.2.2.2.2.2.2.2.1,trivial⟩
 ·rw[List.set_eq_of_length_le (by omega)]
  exact h
theorem Yal : ∀ n w i, Dat.good w → Dat.good (Q3d n w i) := Q58 fun w i h => by
 by_cases hi:i<w.length
 ·have hx:=Qai h hi
  exact ⟨by rw [length_set]; exact h.1, fun y hy => by
   rcases List.mem_or_eq_of_mem_set hy with h1 | rfl
   ·exact h.2 y h1
   ·exact⟨hx.1,hx.2.1,hx.2.2.1,hx.2.2.2.1,hx.2.2.2.2.1,hx.2.2.2.2.2.1,hx.2.2.2.2.2.2.1,hx.2.2.2.2.2.2.2.1,(show I64 3 from⟨by decide,by decide⟩)⟩⟩
 ·rw[List.set_eq_of_length_le (by omega)]
  exact h
theorem Q4j {d:Disk} {N:Nat} (hs:Dat.small N d):Dat.small N (Qa4 d):=by
 unfold Qa4
 rw[Qxr]
 refine⟨hs.1,?_,trivial⟩
 cases Qe2 d with
 | true=>exact Qtf hs.2.1
 | false=>exact hs.2.1
theorem Q6x {xs:List Entry} {N:Nat} (h:Dat.small N xs) (n:Nat):Dat.small N (xs.take n):=⟨by rw[length_take];have:=h.1;omega,fun x hx=>h.2 x (List.mem_of_mem_take hx)⟩
theorem Q96 {xs:List Entry} {N:Nat} (h:Dat.small N xs) (s:Int):Dat.small N (Qj4 xs s):=by
 unfold Qj4 Qhm
 cases decide (Qch xs s<0) with
 | true=>exact h
 | false=>exact Q6x h _
theorem Qml {k:Kernel} (hs:KSm k) (p:Int):KSm (Qce k p):=by
 unfold Qce
 rw[Qmg,Qik]
 cases !(Qhb k) with
 | true=>exact hs
 | false=>exact⟨Qs9 _,Q7d _ _ _ hs.2.1,Q4j (Qmm hs.2.2.1 p),Q96 hs.2.2.2.1 _,hs.2.2.2.2⟩
theorem Qqv {k:Kernel} (hg:Dat.good k.Txs) (p:Int):Dat.good (Qce k p).Txs:=by
 unfold Qce
 rw[Qmg,Qik]
 cases !(Qhb k) with
 | true=>exact hg
 | false=>exact Yal _ _ _ hg
end
section
theorem Ykx:FnOk Tryz.prog 133:=⟨_,Tryz.func133,rfl,by kernel_rfl⟩
theorem Ykw:FnOk Tryz.prog 134:=⟨_,Tryz.func134,rfl,by kernel_rfl⟩
theorem Ykv:FnOk Tryz.prog 135:=⟨_,Tryz.func135,rfl,by kernel_rfl⟩
theorem Yjv:FnOk Tryz.prog 193:=⟨_,Tryz.func193,rfl,by kernel_rfl⟩
theorem Yfm:FnOk Tryz.prog 194:=⟨_,Tryz.func194,rfl,by kernel_rfl⟩
theorem Yju:FnOk Tryz.prog 195:=⟨_,Tryz.func195,rfl,by kernel_rfl⟩
theorem Yjt:FnOk Tryz.prog 196:=⟨_,Tryz.func196,rfl,by kernel_rfl⟩
theorem Yjs:FnOk Tryz.prog 197:=⟨_,Tryz.func197,rfl,by kernel_rfl⟩
theorem Yn0: ∀ (d:Nat) (x y:Journal) (w:World),(Op.equalIn (d+10) 38 (.agg [.string x.Text,.int .i64 x.Sure].toArray) (.agg [.string y.Text,.int .i64 y.Sure].toArray)).run Tryz.prog w= .ok (decide (x=y)) w:=by
 intro d x y w
 have u3:=Tryz.underlying3
 have a3:=Tryz.isAgg3
 have z3:=Tryz.sizeOf3
 have u9:=Tryz.underlying9
 have a9:=Tryz.isAgg9
 have z9:=Tryz.sizeOf9
 have hS:Tryz.prog.underlying 38=some (.struct (Tryz.prog.fieldsOf 38)):=by kernel_rfl
 have hp:Tryz.prog.stoodInHeld 38=false:=by kernel_rfl
 rw[run_equalIn_agg w (d+9) 38 _ _ hS hp]
 simp only[Program.fieldsOf,Tryz.underlying38]
 obtain⟨z1,z2⟩:=x
 obtain⟨z3,z4⟩:=y
 go_simp
 simp only[Q6j]
 repeat' split
 all_goals simp_all
theorem Yli (x y:Journal):eqP Tryz.prog 38 [.string x.Text,.int .i64 x.Sure] [.string y.Text,.int .i64 y.Sure] (decide (x=y)):=⟨by kernel_rfl,fun w=>Yn0 9990 x y w⟩
theorem Ylg: ∀ (d:Nat) (x y:Call) (w:World),(Op.equalIn (d+10) 149 (.agg [.int .i64 x.Kind,.string x.Name,.string x.To,.int .i64 x.A,.int .i64 x.B,.string x.Text].toArray) (.agg [.int .i64 y.Kind,.string y.Name,.string y.To,.int .i64 y.A,.int .i64 y.B,.string y.Text].toArray)).run Tryz.prog w= .ok (decide (x=y)) w:=by
 intro d x y w
 have u3:=Tryz.underlying3
 have a3:=Tryz.isAgg3
 have z3:=Tryz.sizeOf3
 have u9:=Tryz.underlying9
 have a9:=Tryz.isAgg9
 have z9:=Tryz.sizeOf9
 have hS:Tryz.prog.underlying 149=some (.struct (Tryz.prog.fieldsOf 149)):=by kernel_rfl
 have hp:Tryz.prog.stoodInHeld 149=false:=by kernel_rfl
 rw[run_equalIn_agg w (d+9) 149 _ _ hS hp]
 simp only[Program.fieldsOf,Tryz.underlying149]
 obtain⟨z1,z2,z3,z4,z5,z6⟩:=x
 obtain⟨z7,z8,z9,z10,z11,z12⟩:=y
 go_simp
 simp only[Q6j]
 repeat' split
 all_goals simp_all
theorem Yf3 (x y:Call):eqP Tryz.prog 149 [.int .i64 x.Kind,.string x.Name,.string x.To,.int .i64 x.A,.int .i64 x.B,.string x.Text] [.int .i64 y.Kind,.string y.Name,.string y.To,.int .i64 y.A,.int .i64 y.B,.string y.Text] (decide (x=y)):=⟨by kernel_rfl,fun w=>Ylg 9990 x y w⟩
theorem Ylf: ∀ (d:Nat) (x y:Step) (w:World),(Op.equalIn (d+10) 151 (.agg [.int .i64 x.Proc,.int .i64 x.Call.Kind,.string x.Call.Name,.string x.Call.To,.int .i64 x.Call.A,.int .i64 x.Call.B,.string x.Call.Text].toArray) (.agg [.int .i64 y.Proc,.int .i64 y.Call.Kind,.string y.Call.Name,.string y.Call.To,.int .i64 y.Call.A,.int .i64 y.Call.B,.string y.Call.Text].toArray)).run Tryz.prog w= .ok (decide (x=y)) w:=by
 intro d x y w
 have u3:=Tryz.underlying3
 have a3:=Tryz.isAgg3
 have z3:=Tryz.sizeOf3
 have u9:=Tryz.underlying9
 have a9:=Tryz.isAgg9
 have z9:=Tryz.sizeOf9
 have u149:=Tryz.underlying149
 have a149:=Tryz.isAgg149
 have z149:=Tryz.sizeOf149
 have hS:Tryz.prog.underlying 151=some (.struct (Tryz.prog.fieldsOf 151)):=by kernel_rfl
 have hp:Tryz.prog.stoodInHeld 151=false:=by kernel_rfl
 rw[run_equalIn_agg w (d+9) 151 _ _ hS hp]
 simp only[Program.fieldsOf,Tryz.underlying151]
 obtain⟨z1,⟨z2,z3,z4,z5,z6,z7⟩⟩:=x
 obtain⟨z8,⟨z9,z10,z11,z12,z13,z14⟩⟩:=y
 go_simp
 simp only[Q6j]
 repeat' split
 all_goals simp_all
theorem Yf2 (x y:Step):eqP Tryz.prog 151 [.int .i64 x.Proc,.int .i64 x.Call.Kind,.string x.Call.Name,.string x.Call.To,.int .i64 x.Call.A,.int .i64 x.Call.B,.string x.Call.Text] [.int .i64 y.Proc,.int .i64 y.Call.Kind,.string y.Call.Name,.string y.Call.To,.int .i64 y.Call.A,.int .i64 y.Call.B,.string y.Call.Text] (decide (x=y)):=⟨by kernel_rfl,fun w=>Ylf 9990 x y w⟩
theorem Yle: ∀ (d:Nat) (x y:Answer) (w:World),(Op.equalIn (d+10) 154 (.agg [.int .i64 x.Code,.int .i64 x.N,.string x.Text].toArray) (.agg [.int .i64 y.Code,.int .i64 y.N,.string y.Text].toArray)).run Tryz.prog w= .ok (decide (x=y)) w:=by
 intro d x y w
 have u3:=Tryz.underlying3
 have a3:=Tryz.isAgg3
 have z3:=Tryz.sizeOf3
 have u9:=Tryz.underlying9
 have a9:=Tryz.isAgg9
 have z9:=Tryz.sizeOf9
 have hS:Tryz.prog.underlying 154=some (.struct (Tryz.prog.fieldsOf 154)):=by kernel_rfl
 have hp:Tryz.prog.stoodInHeld 154=false:=by kernel_rfl
 rw[run_equalIn_agg w (d+9) 154 _ _ hS hp]
 simp only[Program.fieldsOf,Tryz.underlying154]
 obtain⟨z1,z2,z3⟩:=x
 obtain⟨z4,z5,z6⟩:=y
 go_simp
 simp only[Q6j]
 repeat' split
 all_goals simp_all
theorem Yf1 (x y:Answer):eqP Tryz.prog 154 [.int .i64 x.Code,.int .i64 x.N,.string x.Text] [.int .i64 y.Code,.int .i64 y.N,.string y.Text] (decide (x=y)):=⟨by kernel_rfl,fun w=>Yle 9990 x y w⟩
def Qen (p0:List Call) (p1:List Call):Nat→Nat→Bool
 | 0,i=>true
 | n+1,i=>bif !(decide ((nth p0 i)=(nth p1 i))) then false else(Qen p0 p1 n (i+1))
def Qlo (p0:List Call) (p1:List Call):Bool:=bif !decide ((p0.length:Int)=(p1.length:Int)) then false else(Qen p0 p1 (p0.length - 0) 0)
theorem Qyz (p0:List Call) (p1:List Call):CTs 193 [.o (.sl Call instDatCall p0),.o (.sl Call instDatCall p1)] [Re.c (.bool (Qlo p0 p1))]:=by
 refine en Tryz.func193 Tryz.ntmps193 fun w hG hgd=>?_
 obtain⟨hg_p0,hg_p1,_⟩:=hgd
 have hl_p0:p0.length≤9223372036854775807:=hg_p0.1
 have hl_p1:p1.length≤9223372036854775807:=hg_p1.1
 have hM:=Qlo.eq_1 p0 p1
 refine ad 13 ?_
 refine cd (fun h1=>?_) (fun h1=>?_)
 ·
  have hM:=hM.trans (bt h1)
  refine ad 4 ?_
  exact rz (rs:=[.tmp 4]) (rzB hM)
 ·
  have hM:=hM.trans (bf h1)
  refine ad 7 ?_
  refine Run.loopM (ι:=Nat) (fun s=>Qen p0 p1 (p0.length - s) s) (fun s=>⟨26,2,[(0,.sl 0 p0.length),(1,.sl 1 p1.length),(5,.v (.int .i64 (s:Int)))],[(0,.ros Call instDatCall p0),(1,.ros Call instDatCall p1)]⟩) (fun s=>s≤p0.length) (fun s=>p0.length - s) 0 [0,1] [0,1] hM lv0 su (by decide) ?_
  rintro i hv hE
  try dsimp only at hE
  have hi:=hv
  try dsimp only at hi
  refine ad 8 ?_
  refine cd (fun h2=>?_) (fun h2=>?_)
  ·
   have h2l:i<p0.length:=dtl h2
   have hM:=hE.trans ((congrArg (fun n=>Qen p0 p1 n i) (sb1 h2l)).trans (Qen.eq_2 _ _ _ _))
   refine ad 4 ?_
   refine dr 9 fun _ _ _ _ _ hb=>?_
   refine tk [0,1] ?_
   have hg3:=Qai (k:=i) hg_p0 om
   refine tx 2 (dx (xs:=p0) i om) ?_
   refine tk [3,4,5] ?_
   have hg4:=Qai (k:=i) hg_p1 om
   refine tx 6 (dx (xs:=p1) i om) ?_
   refine tk [7] ?_
   refine on 8 [2,3] (qe (Yf3 (nth p0 i) (nth p1 i))) ?_
   refine dn hb ?_
   refine cd (fun h5=>?_) (fun h5=>?_)
   ·
    have hM:=hM.trans (bt h5)
    refine ad 4 ?_
    exact rz (rs:=[.tmp 4]) (rzB hM)
   ·
    have hM:=hM.trans (bf h5)
    refine ad 5 ?_
    rw[Qb3 (i:=i) om]
    refine ad 2 ?_
    exact Run.again (i+1) [0,1] [2,3] ⟨by first | omega | exact trivial | (dsimp only;omega) | (refine⟨by omega,?_⟩;simp_all;try omega),hM⟩ rfl lv1 su (by decide)
  ·
   have h2l: ¬ (i<p0.length):=dfl h2
   have hM:=hE.trans ((congrArg (fun n=>Qen p0 p1 n i) (sb0 h2l)).trans (Qen.eq_1 _ _ _))
   refine ad 5 ?_
   exact rz (rs:=[.tmp 4]) (rzB hM)
def Qde (p0:List Answer) (p1:List Answer):Nat→Nat→Bool
 | 0,i=>true
 | n+1,i=>bif !(decide ((nth p0 i)=(nth p1 i))) then false else(Qde p0 p1 n (i+1))
def Qg1 (p0:List Answer) (p1:List Answer):Bool:=bif !decide ((p0.length:Int)=(p1.length:Int)) then false else(Qde p0 p1 (p0.length - 0) 0)
theorem Qm9 (p0:List Answer) (p1:List Answer):CTs 194 [.o (.sl Answer instDatAnswer p0),.o (.sl Answer instDatAnswer p1)] [Re.c (.bool (Qg1 p0 p1))]:=by
 refine en Tryz.func194 Tryz.ntmps194 fun w hG hgd=>?_
 obtain⟨hg_p0,hg_p1,_⟩:=hgd
 have hl_p0:p0.length≤9223372036854775807:=hg_p0.1
 have hl_p1:p1.length≤9223372036854775807:=hg_p1.1
 have hM:=Qg1.eq_1 p0 p1
 refine ad 13 ?_
 refine cd (fun h1=>?_) (fun h1=>?_)
 ·
  have hM:=hM.trans (bt h1)
  refine ad 4 ?_
  exact rz (rs:=[.tmp 4]) (rzB hM)
 ·
  have hM:=hM.trans (bf h1)
  refine ad 7 ?_
  refine Run.loopM (ι:=Nat) (fun s=>Qde p0 p1 (p0.length - s) s) (fun s=>⟨26,2,[(0,.sl 0 p0.length),(1,.sl 1 p1.length),(5,.v (.int .i64 (s:Int)))],[(0,.ros Answer instDatAnswer p0),(1,.ros Answer instDatAnswer p1)]⟩) (fun s=>s≤p0.length) (fun s=>p0.length - s) 0 [0,1] [0,1] hM lv0 su (by decide) ?_
  rintro i hv hE
  try dsimp only at hE
  have hi:=hv
  try dsimp only at hi
  refine ad 8 ?_
  refine cd (fun h2=>?_) (fun h2=>?_)
  ·
   have h2l:i<p0.length:=dtl h2
   have hM:=hE.trans ((congrArg (fun n=>Qde p0 p1 n i) (sb1 h2l)).trans (Qde.eq_2 _ _ _ _))
   refine ad 4 ?_
   refine dr 9 fun _ _ _ _ _ hb=>?_
   refine tk [0,1] ?_
   have hg3:=Qai (k:=i) hg_p0 om
   refine tx 2 (dx (xs:=p0) i om) ?_
   refine tk [3,4,5] ?_
   have hg4:=Qai (k:=i) hg_p1 om
   refine tx 6 (dx (xs:=p1) i om) ?_
   refine tk [7] ?_
   refine on 8 [2,3] (qe (Yf1 (nth p0 i) (nth p1 i))) ?_
   refine dn hb ?_
   refine cd (fun h5=>?_) (fun h5=>?_)
   ·
    have hM:=hM.trans (bt h5)
    refine ad 4 ?_
    exact rz (rs:=[.tmp 4]) (rzB hM)
   ·
    have hM:=hM.trans (bf h5)
    refine ad 5 ?_
    rw[Qb3 (i:=i) om]
    refine ad 2 ?_
    exact Run.again (i+1) [0,1] [2,3] ⟨by first | omega | exact trivial | (dsimp only;omega) | (refine⟨by omega,?_⟩;simp_all;try omega),hM⟩ rfl lv1 su (by decide)
  ·
   have h2l: ¬ (i<p0.length):=dfl h2
   have hM:=hE.trans ((congrArg (fun n=>Qde p0 p1 n i) (sb0 h2l)).trans (Qde.eq_1 _ _ _))
   refine ad 5 ?_
   exact rz (rs:=[.tmp 4]) (rzB hM)
def Qe9 (p0:List Int) (p1:List Int):Nat→Nat→Bool
 | 0,i=>true
 | n+1,i=>bif !decide ((nth p0 i)=(nth p1 i)) then false else(Qe9 p0 p1 n (i+1))
def Qm1 (p0:List Int) (p1:List Int):Bool:=bif !decide ((p0.length:Int)=(p1.length:Int)) then false else(Qe9 p0 p1 (p0.length - 0) 0)
theorem Q0a (p0:List Int) (p1:List Int):CTs 196 [.o (.sl Int instDatInt p0),.o (.sl Int instDatInt p1)] [Re.c (.bool (Qm1 p0 p1))]:=by
 refine en Tryz.func196 Tryz.ntmps196 fun w hG hgd=>?_
 obtain⟨hg_p0,hg_p1,_⟩:=hgd
 have hl_p0:p0.length≤9223372036854775807:=hg_p0.1
 have hl_p1:p1.length≤9223372036854775807:=hg_p1.1
 have hM:=Qm1.eq_1 p0 p1
 refine ad 13 ?_
 refine cd (fun h1=>?_) (fun h1=>?_)
 ·
  have hM:=hM.trans (bt h1)
  refine ad 4 ?_
  exact rz (rs:=[.tmp 4]) (rzB hM)
 ·
  have hM:=hM.trans (bf h1)
  refine ad 7 ?_
  refine Run.loopM (ι:=Nat) (fun s=>Qe9 p0 p1 (p0.length - s) s) (fun s=>⟨26,2,[(0,.sl 0 p0.length),(1,.sl 1 p1.length),(5,.v (.int .i64 (s:Int)))],[(0,.ros Int instDatInt p0),(1,.ros Int instDatInt p1)]⟩) (fun s=>s≤p0.length) (fun s=>p0.length - s) 0 [0,1] [0,1] hM lv0 su (by decide) ?_
  rintro i hv hE
  try dsimp only at hE
  have hi:=hv
  try dsimp only at hi
  refine ad 8 ?_
  refine cd (fun h2=>?_) (fun h2=>?_)
  ·
   have h2l:i<p0.length:=dtl h2
   have hM:=hE.trans ((congrArg (fun n=>Qe9 p0 p1 n i) (sb1 h2l)).trans (Qe9.eq_2 _ _ _ _))
   refine ad 4 ?_
   refine dr 9 fun _ _ _ _ _ hb=>?_
   refine tk [0,1] ?_
   have hg3:=Qai (k:=i) hg_p0 om
   refine tx 2 (dx (xs:=p0) i om) ?_
   refine tk [3,4,5] ?_
   have hg4:=Qai (k:=i) hg_p1 om
   refine tx 6 (dx (xs:=p1) i om) ?_
   refine tk [7,8] ?_
   refine dn hb ?_
   refine cd (fun h5=>?_) (fun h5=>?_)
   ·
    have hM:=hM.trans (bt h5)
    refine ad 4 ?_
    exact rz (rs:=[.tmp 4]) (rzB hM)
   ·
    have hM:=hM.trans (bf h5)
    refine ad 5 ?_
    rw[Qb3 (i:=i) om]
    refine ad 2 ?_
    exact Run.again (i+1) [0,1] [2,3] ⟨by first | omega | exact trivial | (dsimp only;omega) | (refine⟨by omega,?_⟩;simp_all;try omega),hM⟩ rfl lv1 su (by decide)
  ·
   have h2l: ¬ (i<p0.length):=dfl h2
   have hM:=hE.trans ((congrArg (fun n=>Qe9 p0 p1 n i) (sb0 h2l)).trans (Qe9.eq_1 _ _ _))
   refine ad 5 ?_
   exact rz (rs:=[.tmp 4]) (rzB hM)
def Qd4 (p0:List Step) (p1:List Step):Nat→Nat→Bool
 | 0,i=>true
 | n+1,i=>bif !(decide ((nth p0 i)=(nth p1 i))) then false else(Qd4 p0 p1 n (i+1))
def Qkt (p0:List Step) (p1:List Step):Bool:=bif !decide ((p0.length:Int)=(p1.length:Int)) then false else(Qd4 p0 p1 (p0.length - 0) 0)
theorem Qw3 (p0:List Step) (p1:List Step):CTs 197 [.o (.sl Step instDatStep p0),.o (.sl Step instDatStep p1)] [Re.c (.bool (Qkt p0 p1))]:=by
 refine en Tryz.func197 Tryz.ntmps197 fun w hG hgd=>?_
 obtain⟨hg_p0,hg_p1,_⟩:=hgd
 have hl_p0:p0.length≤9223372036854775807:=hg_p0.1
 have hl_p1:p1.length≤9223372036854775807:=hg_p1.1
 have hM:=Qkt.eq_1 p0 p1
 refine ad 13 ?_
 refine cd (fun h1=>?_) (fun h1=>?_)
 ·
  have hM:=hM.trans (bt h1)
  refine ad 4 ?_
  exact rz (rs:=[.tmp 4]) (rzB hM)
 ·
  have hM:=hM.trans (bf h1)
  refine ad 7 ?_
  refine Run.loopM (ι:=Nat) (fun s=>Qd4 p0 p1 (p0.length - s) s) (fun s=>⟨26,2,[(0,.sl 0 p0.length),(1,.sl 1 p1.length),(5,.v (.int .i64 (s:Int)))],[(0,.ros Step instDatStep p0),(1,.ros Step instDatStep p1)]⟩) (fun s=>s≤p0.length) (fun s=>p0.length - s) 0 [0,1] [0,1] hM lv0 su (by decide) ?_
  rintro i hv hE
  try dsimp only at hE
  have hi:=hv
  try dsimp only at hi
  refine ad 8 ?_
  refine cd (fun h2=>?_) (fun h2=>?_)
  ·
   have h2l:i<p0.length:=dtl h2
   have hM:=hE.trans ((congrArg (fun n=>Qd4 p0 p1 n i) (sb1 h2l)).trans (Qd4.eq_2 _ _ _ _))
   refine ad 4 ?_
   refine dr 9 fun _ _ _ _ _ hb=>?_
   refine tk [0,1] ?_
   have hg3:=Qai (k:=i) hg_p0 om
   refine tx 2 (dx (xs:=p0) i om) ?_
   refine tk [3,4,5] ?_
   have hg4:=Qai (k:=i) hg_p1 om
   refine tx 6 (dx (xs:=p1) i om) ?_
   refine tk [7] ?_
   refine on 8 [2,3] (qe (Yf2 (nth p0 i) (nth p1 i))) ?_
   refine dn hb ?_
   refine cd (fun h5=>?_) (fun h5=>?_)
   ·
    have hM:=hM.trans (bt h5)
    refine ad 4 ?_
    exact rz (rs:=[.tmp 4]) (rzB hM)
   ·
    have hM:=hM.trans (bf h5)
    refine ad 5 ?_
    rw[Qb3 (i:=i) om]
    refine ad 2 ?_
    exact Run.again (i+1) [0,1] [2,3] ⟨by first | omega | exact trivial | (dsimp only;omega) | (refine⟨by omega,?_⟩;simp_all;try omega),hM⟩ rfl lv1 su (by decide)
  ·
   have h2l: ¬ (i<p0.length):=dfl h2
   have hM:=hE.trans ((congrArg (fun n=>Qd4 p0 p1 n i) (sb0 h2l)).trans (Qd4.eq_1 _ _ _))
   refine ad 5 ?_
   exact rz (rs:=[.tmp 4]) (rzB hM)
def Qks (p0:Touch) (p1:Touch):Bool:=(Qib p0.Reads p1.Reads)&&(Qib p0.Writes p1.Writes)
theorem Qw2 (p0:Touch) (p1:Touch):CTs 195 [.o (.st Touch _ inferInstance p0),.o (.st Touch _ inferInstance p1)] [Re.c (.bool (Qks p0 p1))]:=by
 refine en Tryz.func195 Tryz.ntmps195 fun w hG hgd=>?_
 obtain⟨hg_p0,hg_p1,_⟩:=hgd
 have hM:=Qks.eq_1 p0 p1
 refine ad 12 ?_
 refine op (cl (Qnk p0.Reads p1.Reads) Yg6) ?_
 refine ad 1 ?_
 refine ag 4 ?_
 refine op (cG (hct:=fun hB=>(Qnk p0.Writes p1.Writes)) (hfn:=Yg6)) ?_
 refine ag 1 ?_
 refine ad 2 ?_
 exact rz (rs:=[.tmp 4]) (rzB hM)
def Qkg (p0:Tx) (p1:Tx):Bool:=((((((((decide (p0.Id=p1.Id))&&(decide (p0.Age=p1.Age)))&&(decide (p0.Proc=p1.Proc)))&&(decide (p0.Began=p1.Began)))&&(decide (p0.State=p1.State)))&&(Qlo p0.Calls p1.Calls))&&(Qg1 p0.Answers p1.Answers))&&(Qks p0.Touch p1.Touch))&&(Qm1 p0.Marks p1.Marks)
theorem Q3k (p0:Tx) (p1:Tx):CTs 134 [.o (.st Tx _ inferInstance p0),.o (.st Tx _ inferInstance p1)] [Re.c (.bool (Qkg p0 p1))]:=by
 refine en Tryz.func134 Tryz.ntmps134 fun w hG hgd=>?_
 obtain⟨hg_p0,hg_p1,_⟩:=hgd
 have hM:=Qkg.eq_1 p0 p1
 refine ad 7 ?_
 refine adL ?_
 refine ad 6 ?_
 refine ag 6 ?_
 refine ad 1 ?_
 refine ag 6 ?_
 refine ad 1 ?_
 refine ag 6 ?_
 refine ad 1 ?_
 refine ag 6 ?_
 refine ad 1 ?_
 refine ag 4 ?_
 refine op (cG (hct:=fun hB=>(Qyz p0.Calls p1.Calls)) (hfn:=Yjv)) ?_
 refine ag 1 ?_
 refine ad 1 ?_
 refine ag 4 ?_
 refine op (cG (hct:=fun hB=>(Qm9 p0.Answers p1.Answers)) (hfn:=Yfm)) ?_
 refine ag 1 ?_
 refine ad 1 ?_
 refine ag 4 ?_
 have hg1:Dat.good (p0.Touch:Touch):=hg_p0.2.2.2.2.2.2.1
 have hg2:Dat.good (p1.Touch:Touch):=hg_p1.2.2.2.2.2.2.1
 refine op (cG (hct:=fun hB=>(Qw2 p0.Touch p1.Touch)) (hfn:=Yju)) ?_
 refine ag 1 ?_
 refine ad 1 ?_
 refine ag 4 ?_
 refine op (cG (hct:=fun hB=>(Q0a p0.Marks p1.Marks)) (hfn:=Yjt)) ?_
 refine ag 1 ?_
 refine ad 2 ?_
 exact rz (rs:=[.tmp 4]) (rzB hM)
def Qeo (p0:Disk) (p1:Disk):Nat→Nat→Bool
 | 0,i=>true
 | n+1,i=>bif ((!decide (((nth p0.Slots i).Seq)=((nth p1.Slots i).Seq)))||(!decide (((nth p0.Slots i).Whole)=((nth p1.Slots i).Whole))))||(!(Qhe ((nth p0.Slots i).Cells) ((nth p1.Slots i).Cells))) then false else(Qeo p0 p1 n (i+1))
def Qjx (p0:Disk) (p1:Disk):Bool:=bif (!(decide (p0.Journal=p1.Journal)))||(!decide ((p0.Slots.length:Int)=(p1.Slots.length:Int))) then false else(Qeo p0 p1 (p0.Slots.length - 0) 0)
theorem Qy0 (p0:Disk) (p1:Disk):CTs 133 [.o (.st Disk _ inferInstance p0),.o (.st Disk _ inferInstance p1)] [Re.c (.bool (Qjx p0 p1))]:=by
 refine en Tryz.func133 Tryz.ntmps133 fun w hG hgd=>?_
 obtain⟨hg_p0,hg_p1,_⟩:=hgd
 have hM:=Qjx.eq_1 p0 p1
 have hlS:p0.Slots.length≤9223372036854775807:=hg_p0.1.1
 refine ad 13 ?_
 refine op (qe (Yli p0.Journal p1.Journal)) ?_
 refine ad 1 ?_
 refine ag 8 ?_
 refine ad 1 ?_
 refine cd (fun h1=>?_) (fun h1=>?_)
 ·
  have hM:=hM.trans (bt h1)
  refine ad 4 ?_
  exact rz (rs:=[.tmp 4]) (rzB hM)
 ·
  have hM:=hM.trans (bf h1)
  refine ad 7 ?_
  refine Run.loopM (ι:=Nat) (fun s=>Qeo p0 p1 (p0.Slots.length - s) s) (fun s=>⟨59,4,[(2,.pt 0 0),(3,.pt 2 0),(5,.v (.int .i64 (s:Int)))],[(0,.var [.sl 1 p0.Slots.length,.v (.string p0.Journal.Text),.v (.int .i64 p0.Journal.Sure)] 40),(1,.ros Slot instDatSlot p0.Slots),(2,.var [.sl 3 p1.Slots.length,.v (.string p1.Journal.Text),.v (.int .i64 p1.Journal.Sure)] 40),(3,.ros Slot instDatSlot p1.Slots)]⟩) (fun s=>s≤p0.Slots.length) (fun s=>p0.Slots.length - s) 0 [2,0,3,1] [1,2,0,3] hM lv0 su (by decide) ?_
  rintro i hv hE
  try dsimp only at hE
  have hi:=hv
  try dsimp only at hi
  refine ad 9 ?_
  refine cd (fun h2=>?_) (fun h2=>?_)
  ·
   have h2l:i<p0.Slots.length:=dtl h2
   have hM:=hE.trans ((congrArg (fun n=>Qeo p0 p1 n i) (sb1 h2l)).trans (Qeo.eq_2 _ _ _ _))
   refine ad 8 ?_
   refine op (ix (xs:=p0.Slots) i om) ?_
   refine ad 9 ?_
   refine op (ix (xs:=p1.Slots) i om) ?_
   refine ad 12 ?_
   refine ag 6 ?_
   refine ad 1 ?_
   refine ag 4 ?_
   refine op (cG (hct:=fun hB=>(Qo3 ((nth p0.Slots i).Cells) ((nth p1.Slots i).Cells))) (hfn:=Yii)) ?_
   refine ag 2 ?_
   refine ad 1 ?_
   refine cd (fun h5=>?_) (fun h5=>?_)
   ·
    have hM:=hM.trans (bt h5)
    refine ad 4 ?_
    exact rz (rs:=[.tmp 4]) (rzB hM)
   ·
    have hM:=hM.trans (bf h5)
    refine ad 5 ?_
    rw[Qb3 (i:=i) om]
    refine ad 2 ?_
    exact Run.again (i+1) [0,1,2,3] [6,7,8,9] ⟨by first | omega | exact trivial | (dsimp only;omega) | (refine⟨by omega,?_⟩;simp_all;try omega),hM⟩ rfl lv1 su (by decide)
  ·
   have h2l: ¬ (i<p0.Slots.length):=dfl h2
   have hM:=hE.trans ((congrArg (fun n=>Qeo p0 p1 n i) (sb0 h2l)).trans (Qeo.eq_1 _ _ _))
   refine ad 5 ?_
   exact rz (rs:=[.tmp 4]) (rzB hM)
def Qgr (p0:Entry) (p1:Entry):Bool:=(((((((decide (p0.Seq=p1.Seq))&&(decide (p0.Kind=p1.Kind)))&&(decide (p0.Tx=p1.Tx)))&&(decide (p0.Began=p1.Began)))&&(decide (p0.Ended=p1.Ended)))&&(decide (p0.Laid=p1.Laid)))&&(Qkt p0.Steps p1.Steps))&&(Qg1 p0.Answers p1.Answers)
theorem Qr4 (p0:Entry) (p1:Entry):CTs 135 [.o (.st Entry _ inferInstance p0),.o (.st Entry _ inferInstance p1)] [Re.c (.bool (Qgr p0 p1))]:=by
 refine en Tryz.func135 Tryz.ntmps135 fun w hG hgd=>?_
 obtain⟨hg_p0,hg_p1,_⟩:=hgd
 have hM:=Qgr.eq_1 p0 p1
 refine ad 7 ?_
 refine adL ?_
 refine ad 6 ?_
 refine ag 6 ?_
 refine ad 1 ?_
 refine ag 6 ?_
 refine ad 1 ?_
 refine ag 6 ?_
 refine ad 1 ?_
 refine ag 6 ?_
 refine ad 1 ?_
 refine ag 6 ?_
 refine ad 1 ?_
 refine ag 4 ?_
 refine op (cG (hct:=fun hB=>(Qw3 p0.Steps p1.Steps)) (hfn:=Yjs)) ?_
 refine ag 1 ?_
 refine ad 1 ?_
 refine ag 4 ?_
 refine op (cG (hct:=fun hB=>(Qm9 p0.Answers p1.Answers)) (hfn:=Yfm)) ?_
 refine ag 1 ?_
 refine ad 2 ?_
 exact rz (rs:=[.tmp 4]) (rzB hM)
def Qdr (p0:Kernel) (p1:Kernel) (i:Nat) (k_2:Unit→Bool):Nat→Nat→Bool
 | 0,i_2=>k_2 ()
 | n_2+1,i_2=>bif !(Qgr (nth p0.History i_2) (nth p1.History i_2)) then false else(Qdr p0 p1 i k_2 n_2 (i_2+1))
def Qc9 (p0:Kernel) (p1:Kernel):Nat→Nat→Bool
 | 0,i=>Qdr p0 p1 i (fun e=>true) (p0.History.length - 0) 0
 | n+1,i=>bif !(Qkg (nth p0.Txs i) (nth p1.Txs i)) then false else(Qc9 p0 p1 n (i+1))
def Qid (p0:Kernel) (p1:Kernel):Bool:=bif ((((((((!(Qhe p0.Store p1.Store))||(!decide ((p0.Txs.length:Int)=(p1.Txs.length:Int))))||(!(Qjx p0.Disk p1.Disk)))||(!decide (p0.Seq=p1.Seq)))||(!decide (p0.Next=p1.Next)))||(!decide (p0.Time=p1.Time)))||(!decide (p0.Room=p1.Room)))||(!decide ((p0.History.length:Int)=(p1.History.length:Int))))||(!(Qib p0.Seen p1.Seen)) then false else(Qc9 p0 p1 (p0.Txs.length - 0) 0)
theorem Quo (p0:Kernel) (p1:Kernel):CTs 72 [.o (.st Kernel _ inferInstance p0),.o (.st Kernel _ inferInstance p1)] [Re.c (.bool (Qid p0 p1))]:=by
 refine en Tryz.func72 Tryz.ntmps72 fun w hG hgd=>?_
 obtain⟨hg_p0,hg_p1,_⟩:=hgd
 have hM:=Qid.eq_1 p0 p1
 have hlA:p0.Txs.length≤9223372036854775807:=hg_p0.2.1.1
 have hlB:p0.History.length≤9223372036854775807:=hg_p0.2.2.2.2.2.2.1.1
 refine ad 8 ?_
 refine adL ?_
 refine ad 4 ?_
 refine op (cl (Qo3 p0.Store p1.Store) Yii) ?_
 refine ad 2 ?_
 refine ag 8 ?_
 refine ad 1 ?_
 refine ag 4 ?_
 have hg1:Dat.good (p0.Disk:Disk):=hg_p0.2.2.1
 have hg2:Dat.good (p1.Disk:Disk):=hg_p1.2.2.1
 refine op (cG (hct:=fun hB=>(Qy0 p0.Disk p1.Disk)) (hfn:=Ykx)) ?_
 refine ag 2 ?_
 refine ad 1 ?_
 refine ag 6 ?_
 refine ad 1 ?_
 refine ag 6 ?_
 refine ad 1 ?_
 refine ag 6 ?_
 refine ad 1 ?_
 refine ag 6 ?_
 refine ad 1 ?_
 refine ag 8 ?_
 refine ad 1 ?_
 refine ag 4 ?_
 refine op (cG (hct:=fun hB=>(Qnk p0.Seen p1.Seen)) (hfn:=Yg6)) ?_
 refine ag 2 ?_
 refine ad 1 ?_
 refine cd (fun h3=>?_) (fun h3=>?_)
 ·
  have hM:=hM.trans (bt h3)
  refine ad 4 ?_
  exact rz (rs:=[.tmp 4]) (rzB hM)
 ·
  have hM:=hM.trans (bf h3)
  have hq:=h3
  simp only[Bool.or_eq_false_iff,Bool.not_eq_false,Bool.not_eq_eq_eq_not,Bool.not_false,decide_eq_true_eq] at hq
  have hlT:p0.Txs.length=p1.Txs.length:=by omega
  have hlH:p0.History.length=p1.History.length:=by omega
  refine ad 7 ?_
  refine Run.loopM (ι:=Nat) (fun s=>Qc9 p0 p1 (p0.Txs.length - s) s) (fun s=>⟨113,12,[(2,.pt 0 0),(3,.pt 6 0),(5,.v (.int .i64 (s:Int)))],[(0,.var [.sl 1 p0.Store.length,.sl 2 p0.Txs.length,.sl 3 p0.Disk.Slots.length,.v (.string p0.Disk.Journal.Text),.v (.int .i64 p0.Disk.Journal.Sure),.v (.int .i64 p0.Seq),.v (.int .i64 p0.Next),.v (.int .i64 p0.Time),.sl 4 p0.History.length,.sl 5 p0.Seen.length,.v (.bool p0.Room)] 43),(1,.ros Cell instDatCell p0.Store),(2,.ros Tx instDatTx p0.Txs),(3,.ros Slot instDatSlot p0.Disk.Slots),(4,.ros Entry instDatEntry p0.History),(5,.ros ByteArray instDatByteArray p0.Seen),(6,.var [.sl 7 p1.Store.length,.sl 8 p1.Txs.length,.sl 9 p1.Disk.Slots.length,.v (.string p1.Disk.Journal.Text),.v (.int .i64 p1.Disk.Journal.Sure),.v (.int .i64 p1.Seq),.v (.int .i64 p1.Next),.v (.int .i64 p1.Time),.sl 10 p1.History.length,.sl 11 p1.Seen.length,.v (.bool p1.Room)] 43),(7,.ros Cell instDatCell p1.Store),(8,.ros Tx instDatTx p1.Txs),(9,.ros Slot instDatSlot p1.Disk.Slots),(10,.ros Entry instDatEntry p1.History),(11,.ros ByteArray instDatByteArray p1.Seen)]⟩) (fun s=>s≤p0.Txs.length) (fun s=>p0.Txs.length - s) 0 [10,0,1,2,3,4,11,5,6,7,8,9] [1,2,3,4,5,6,0,7,8,9,10,11] hM lv0 su (by decide) ?_
  rintro i hv hE
  try dsimp only at hE
  have hi:=hv
  try dsimp only at hi
  refine ad 9 ?_
  refine cd (fun h4=>?_) (fun h4=>?_)
  ·
   have h4l:i<p0.Txs.length:=dtl h4
   have hM:=hE.trans ((congrArg (fun n=>Qc9 p0 p1 n i) (sb1 h4l)).trans (Qc9.eq_2 _ _ _ _))
   have hgT0:=Qai (k:=i) hg_p0.2.1 om
   have hgT1:=Qai (k:=i) hg_p1.2.1 om
   refine ad 4 ?_
   refine dr 12 fun _ _ _ _ _ hb=>?_
   refine tk [0,1,2] ?_
   refine tx 3 (dx (xs:=p0.Txs) i om) ?_
   refine tk [4,5,6,7] ?_
   refine tx 8 (dx (xs:=p1.Txs) i om) ?_
   refine tk [9] ?_
   refine on 10 [12,13,14,15,16,17,18,19,20,21,22,23] (cl (Q3k (nth p0.Txs i) (nth p1.Txs i)) Ykw) ?_
   refine tk [11] ?_
   refine dn hb ?_
   refine cd (fun h5=>?_) (fun h5=>?_)
   ·
    have hM:=hM.trans (bt h5)
    refine ad 4 ?_
    exact rz (rs:=[.tmp 4]) (rzB hM)
   ·
    have hM:=hM.trans (bf h5)
    refine ad 5 ?_
    rw[Qb3 (i:=i) om]
    refine ad 2 ?_
    exact Run.again (i+1) [0,1,2,3,4,5,6,7,8,9,10,11] [12,13,14,15,16,17,18,19,20,21,22,23] ⟨by first | omega | exact trivial | (dsimp only;omega) | (refine⟨by omega,?_⟩;simp_all;try omega),hM⟩ rfl lv1 su (by decide)
  ·
   have h4l: ¬ (i<p0.Txs.length):=dfl h4
   have hM:=hE.trans ((congrArg (fun n=>Qc9 p0 p1 n i) (sb0 h4l)).trans (Qc9.eq_1 _ _ _))
   refine ad 7 ?_
   refine Run.loopkM (ι:=Nat) (κ:=Unit) (fun k s=>Qdr p0 p1 i k (p0.History.length - s) s) (fun s=>⟨113,12,[(2,.pt 0 0),(3,.pt 6 0),(6,.v (.int .i64 (s:Int)))],[(0,.var [.sl 1 p0.Store.length,.sl 2 p0.Txs.length,.sl 3 p0.Disk.Slots.length,.v (.string p0.Disk.Journal.Text),.v (.int .i64 p0.Disk.Journal.Sure),.v (.int .i64 p0.Seq),.v (.int .i64 p0.Next),.v (.int .i64 p0.Time),.sl 4 p0.History.length,.sl 5 p0.Seen.length,.v (.bool p0.Room)] 43),(1,.ros Cell instDatCell p0.Store),(2,.ros Tx instDatTx p0.Txs),(3,.ros Slot instDatSlot p0.Disk.Slots),(4,.ros Entry instDatEntry p0.History),(5,.ros ByteArray instDatByteArray p0.Seen),(6,.var [.sl 7 p1.Store.length,.sl 8 p1.Txs.length,.sl 9 p1.Disk.Slots.length,.v (.string p1.Disk.Journal.Text),.v (.int .i64 p1.Disk.Journal.Sure),.v (.int .i64 p1.Seq),.v (.int .i64 p1.Next),.v (.int .i64 p1.Time),.sl 10 p1.History.length,.sl 11 p1.Seen.length,.v (.bool p1.Room)] 43),(7,.ros Cell instDatCell p1.Store),(8,.ros Tx instDatTx p1.Txs),(9,.ros Slot instDatSlot p1.Disk.Slots),(10,.ros Entry instDatEntry p1.History),(11,.ros ByteArray instDatByteArray p1.Seen)]⟩) (fun s=>s≤p0.History.length) (fun s=>p0.History.length - s) (fun e=>⟨113,0,[],[]⟩) (fun e=>True) 0 [0,1,2,3,4,5,6,7,8,9,10,11] [0,1,2,3,4,5,6,7,8,9,10,11] hM lv0 su (by decide) ?_ ?_
   ·
    rintro _ hv hM
    try dsimp only at hM hv ⊢
    refine ad 4 ?_
    exact rz (rs:=[.tmp 4]) (rzB hM)
   ·
    intro k_2 hk_2
    rintro i_2 hv_2 hE
    try dsimp only at hE
    have hi_2:=hv_2
    try dsimp only at hi_2
    refine ad 9 ?_
    refine cd (fun h6=>?_) (fun h6=>?_)
    ·
     have h6l:i_2<p0.History.length:=dtl h6
     have hM:=hE.trans ((congrArg (fun n=>Qdr p0 p1 i k_2 n i_2) (sb1 h6l)).trans (Qdr.eq_2 _ _ _ _ _ _))
     have hgH0:Dat.good (nth p0.History i_2):=Qai (k:=i_2) (xs:=p0.History) hg_p0.2.2.2.2.2.2.1 (by omega)
     have hgH1:Dat.good (nth p1.History i_2):=Qai (k:=i_2) (xs:=p1.History) hg_p1.2.2.2.2.2.2.1 (by omega)
     refine ad 4 ?_
     refine dr 12 fun _ _ _ _ _ hb=>?_
     refine tk [0,1,2] ?_
     refine tx 3 (dx (xs:=p0.History) i_2 om) ?_
     refine tk [4,5,6,7] ?_
     refine tx 8 (dx (xs:=p1.History) i_2 om) ?_
     refine tk [9] ?_
     refine on 10 [6,7,8,9,10,11,12,13,14,15,16,17] (cl (Qr4 (nth p0.History i_2) (nth p1.History i_2)) Ykv) ?_
     refine tk [11] ?_
     refine dn hb ?_
     refine cd (fun h7=>?_) (fun h7=>?_)
     ·
      have hM:=hM.trans (bt h7)
      refine ad 4 ?_
      exact rz (rs:=[.tmp 4]) (rzB hM)
     ·
      have hM:=hM.trans (bf h7)
      refine ad 5 ?_
      rw[Qb3 (i:=i_2) om]
      refine ad 2 ?_
      exact Run.again (i_2+1) [0,1,2,3,4,5,6,7,8,9,10,11] [6,7,8,9,10,11,12,13,14,15,16,17] ⟨by first | omega | exact trivial | (dsimp only;omega) | (refine⟨by omega,?_⟩;simp_all;try omega),hM⟩ rfl lv1 su (by decide)
    ·
     have h6l: ¬ (i_2<p0.History.length):=dfl h6
     have hM:=hE.trans ((congrArg (fun n=>Qdr p0 p1 i k_2 n i_2) (sb0 h6l)).trans (Qdr.eq_1 _ _ _ _ _))
     refine ad 1 ?_
     exact Run.exitkM hk_2 () [] [] hM (by trivial) su (by decide)
end
section
theorem Yku:FnOk Tryz.prog 136:=⟨_,Tryz.func136,rfl,by kernel_rfl⟩
theorem Ykt:FnOk Tryz.prog 137:=⟨_,Tryz.func137,rfl,by kernel_rfl⟩
theorem Yks:FnOk Tryz.prog 138:=⟨_,Tryz.func138,rfl,by kernel_rfl⟩
theorem Ykr:FnOk Tryz.prog 139:=⟨_,Tryz.func139,rfl,by kernel_rfl⟩
theorem Yjr:FnOk Tryz.prog 198:=⟨_,Tryz.func198,rfl,by kernel_rfl⟩
theorem Yfl:FnOk Tryz.prog 199:=⟨_,Tryz.func199,rfl,by kernel_rfl⟩
theorem Yjq:FnOk Tryz.prog 200:=⟨_,Tryz.func200,rfl,by kernel_rfl⟩
theorem Yjp:FnOk Tryz.prog 201:=⟨_,Tryz.func201,rfl,by kernel_rfl⟩
theorem Yjo:FnOk Tryz.prog 202:=⟨_,Tryz.func202,rfl,by kernel_rfl⟩
theorem Yjn:FnOk Tryz.prog 203:=⟨_,Tryz.func203,rfl,by kernel_rfl⟩
theorem Yjm:FnOk Tryz.prog 204:=⟨_,Tryz.func204,rfl,by kernel_rfl⟩
theorem Yjl:FnOk Tryz.prog 205:=⟨_,Tryz.func205,rfl,by kernel_rfl⟩
theorem Yi5:FnOk Tryz.prog 236:=⟨_,Tryz.func236,rfl,by kernel_rfl⟩
theorem Yi4:FnOk Tryz.prog 237:=⟨_,Tryz.func237,rfl,by kernel_rfl⟩
theorem Yit:FnOk Tryz.prog 262:=⟨_,Tryz.func262,rfl,by kernel_rfl⟩
def Qc3 (p0:List Call) (p1:List Call):Nat→Nat→Bool
 | 0,i=>true
 | n+1,i=>bif !(decide ((nth p0 i)=(nth p1 i))) then false else(Qc3 p0 p1 n (i+1))
def Qit (p0:List Call) (p1:List Call):Bool:=bif !decide ((p0.length:Int)=(p1.length:Int)) then false else(Qc3 p0 p1 (p0.length - 0) 0)
theorem Qr7 (p0:List Call) (p1:List Call):CTs 198 [.o (.sl Call instDatCall p0),.o (.sl Call instDatCall p1)] [Re.c (.bool (Qit p0 p1))]:=by
 refine en Tryz.func198 Tryz.ntmps198 fun w hG hgd=>?_
 obtain⟨hg_p0,hg_p1,_⟩:=hgd
 have hl_p0:p0.length≤9223372036854775807:=hg_p0.1
 have hl_p1:p1.length≤9223372036854775807:=hg_p1.1
 have hM:=Qit.eq_1 p0 p1
 refine ad 13 ?_
 refine cd (fun h1=>?_) (fun h1=>?_)
 ·
  have hM:=hM.trans (bt h1)
  refine ad 4 ?_
  exact rz (rs:=[.tmp 4]) (rzB hM)
 ·
  have hM:=hM.trans (bf h1)
  refine ad 9 ?_
  refine Run.loopM (ι:=Nat) (fun s=>Qc3 p0 p1 (p0.length - s) s) (fun s=>⟨26,2,[(0,.sl 0 p0.length),(1,.sl 1 p1.length),(12,.v (.int .i64 (p0.length:Int))),(13,.v (.int .i64 (s:Int)))],[(0,.ros Call instDatCall p0),(1,.ros Call instDatCall p1)]⟩) (fun s=>s≤p0.length) (fun s=>p0.length - s) 0 [0,1] [0,1] hM lv0 su (by decide) ?_
  rintro i hv hE
  try dsimp only at hE
  have hi:=hv
  try dsimp only at hi
  refine ad 5 ?_
  refine cd (fun h2=>?_) (fun h2=>?_)
  ·
   have h2l:i<p0.length:=dtl h2
   have hM:=hE.trans ((congrArg (fun n=>Qc3 p0 p1 n i) (sb1 h2l)).trans (Qc3.eq_2 _ _ _ _))
   refine ad 9 ?_
   refine dr 9 fun _ _ _ _ _ hb=>?_
   refine tk [0,1] ?_
   have hg3:=Qai (k:=i) hg_p0 om
   refine tx 2 (dx (xs:=p0) i om) ?_
   refine tk [3,4,5] ?_
   have hg4:=Qai (k:=i) hg_p1 om
   refine tx 6 (dx (xs:=p1) i om) ?_
   refine tk [7] ?_
   refine on 8 [2,3] (qe (Yf3 (nth p0 i) (nth p1 i))) ?_
   refine dn hb ?_
   refine cd (fun h5=>?_) (fun h5=>?_)
   ·
    have hM:=hM.trans (bt h5)
    refine ad 4 ?_
    exact rz (rs:=[.tmp 4]) (rzB hM)
   ·
    have hM:=hM.trans (bf h5)
    refine ad 4 ?_
    rw[Qb3 (i:=i) om]
    refine ad 2 ?_
    exact Run.again (i+1) [0,1] [2,3] ⟨by first | omega | exact trivial | (dsimp only;omega) | (refine⟨by omega,?_⟩;simp_all;try omega),hM⟩ rfl lv1 su (by decide)
  ·
   have h2l: ¬ (i<p0.length):=dfl h2
   have hM:=hE.trans ((congrArg (fun n=>Qc3 p0 p1 n i) (sb0 h2l)).trans (Qc3.eq_1 _ _ _))
   refine ad 5 ?_
   exact rz (rs:=[.tmp 4]) (rzB hM)
def Qcj (p0:List Answer) (p1:List Answer):Nat→Nat→Bool
 | 0,i=>true
 | n+1,i=>bif !(decide ((nth p0 i)=(nth p1 i))) then false else(Qcj p0 p1 n (i+1))
def Qgw (p0:List Answer) (p1:List Answer):Bool:=bif !decide ((p0.length:Int)=(p1.length:Int)) then false else(Qcj p0 p1 (p0.length - 0) 0)
theorem Qqb (p0:List Answer) (p1:List Answer):CTs 236 [.o (.sl Answer instDatAnswer p0),.o (.sl Answer instDatAnswer p1)] [Re.c (.bool (Qgw p0 p1))]:=by
 refine en Tryz.func236 Tryz.ntmps236 fun w hG hgd=>?_
 obtain⟨hg_p0,hg_p1,_⟩:=hgd
 have hl_p0:p0.length≤9223372036854775807:=hg_p0.1
 have hl_p1:p1.length≤9223372036854775807:=hg_p1.1
 have hM:=Qgw.eq_1 p0 p1
 refine ad 13 ?_
 refine cd (fun h1=>?_) (fun h1=>?_)
 ·
  have hM:=hM.trans (bt h1)
  refine ad 4 ?_
  exact rz (rs:=[.tmp 4]) (rzB hM)
 ·
  have hM:=hM.trans (bf h1)
  refine ad 9 ?_
  refine Run.loopM (ι:=Nat) (fun s=>Qcj p0 p1 (p0.length - s) s) (fun s=>⟨26,2,[(0,.sl 0 p0.length),(1,.sl 1 p1.length),(12,.v (.int .i64 (p0.length:Int))),(13,.v (.int .i64 (s:Int)))],[(0,.ros Answer instDatAnswer p0),(1,.ros Answer instDatAnswer p1)]⟩) (fun s=>s≤p0.length) (fun s=>p0.length - s) 0 [0,1] [0,1] hM lv0 su (by decide) ?_
  rintro i hv hE
  try dsimp only at hE
  have hi:=hv
  try dsimp only at hi
  refine ad 5 ?_
  refine cd (fun h2=>?_) (fun h2=>?_)
  ·
   have h2l:i<p0.length:=dtl h2
   have hM:=hE.trans ((congrArg (fun n=>Qcj p0 p1 n i) (sb1 h2l)).trans (Qcj.eq_2 _ _ _ _))
   refine ad 9 ?_
   refine dr 9 fun _ _ _ _ _ hb=>?_
   refine tk [0,1] ?_
   have hg3:=Qai (k:=i) hg_p0 om
   refine tx 2 (dx (xs:=p0) i om) ?_
   refine tk [3,4,5] ?_
   have hg4:=Qai (k:=i) hg_p1 om
   refine tx 6 (dx (xs:=p1) i om) ?_
   refine tk [7] ?_
   refine on 8 [2,3] (qe (Yf1 (nth p0 i) (nth p1 i))) ?_
   refine dn hb ?_
   refine cd (fun h5=>?_) (fun h5=>?_)
   ·
    have hM:=hM.trans (bt h5)
    refine ad 4 ?_
    exact rz (rs:=[.tmp 4]) (rzB hM)
   ·
    have hM:=hM.trans (bf h5)
    refine ad 4 ?_
    rw[Qb3 (i:=i) om]
    refine ad 2 ?_
    exact Run.again (i+1) [0,1] [2,3] ⟨by first | omega | exact trivial | (dsimp only;omega) | (refine⟨by omega,?_⟩;simp_all;try omega),hM⟩ rfl lv1 su (by decide)
  ·
   have h2l: ¬ (i<p0.length):=dfl h2
   have hM:=hE.trans ((congrArg (fun n=>Qcj p0 p1 n i) (sb0 h2l)).trans (Qcj.eq_1 _ _ _))
   refine ad 5 ?_
   exact rz (rs:=[.tmp 4]) (rzB hM)
def Qdf (p0:List Int) (p1:List Int):Nat→Nat→Bool
 | 0,i=>true
 | n+1,i=>bif !decide ((nth p0 i)=(nth p1 i)) then false else(Qdf p0 p1 n (i+1))
def Qi9 (p0:List Int) (p1:List Int):Bool:=bif !decide ((p0.length:Int)=(p1.length:Int)) then false else(Qdf p0 p1 (p0.length - 0) 0)
theorem Qtm (p0:List Int) (p1:List Int):CTs 201 [.o (.sl Int instDatInt p0),.o (.sl Int instDatInt p1)] [Re.c (.bool (Qi9 p0 p1))]:=by
 refine en Tryz.func201 Tryz.ntmps201 fun w hG hgd=>?_
 obtain⟨hg_p0,hg_p1,_⟩:=hgd
 have hl_p0:p0.length≤9223372036854775807:=hg_p0.1
 have hl_p1:p1.length≤9223372036854775807:=hg_p1.1
 have hM:=Qi9.eq_1 p0 p1
 refine ad 13 ?_
 refine cd (fun h1=>?_) (fun h1=>?_)
 ·
  have hM:=hM.trans (bt h1)
  refine ad 4 ?_
  exact rz (rs:=[.tmp 4]) (rzB hM)
 ·
  have hM:=hM.trans (bf h1)
  refine ad 9 ?_
  refine Run.loopM (ι:=Nat) (fun s=>Qdf p0 p1 (p0.length - s) s) (fun s=>⟨26,2,[(0,.sl 0 p0.length),(1,.sl 1 p1.length),(12,.v (.int .i64 (p0.length:Int))),(13,.v (.int .i64 (s:Int)))],[(0,.ros Int instDatInt p0),(1,.ros Int instDatInt p1)]⟩) (fun s=>s≤p0.length) (fun s=>p0.length - s) 0 [0,1] [0,1] hM lv0 su (by decide) ?_
  rintro i hv hE
  try dsimp only at hE
  have hi:=hv
  try dsimp only at hi
  refine ad 5 ?_
  refine cd (fun h2=>?_) (fun h2=>?_)
  ·
   have h2l:i<p0.length:=dtl h2
   have hM:=hE.trans ((congrArg (fun n=>Qdf p0 p1 n i) (sb1 h2l)).trans (Qdf.eq_2 _ _ _ _))
   refine ad 9 ?_
   refine dr 9 fun _ _ _ _ _ hb=>?_
   refine tk [0,1] ?_
   have hg3:=Qai (k:=i) hg_p0 om
   refine tx 2 (dx (xs:=p0) i om) ?_
   refine tk [3,4,5] ?_
   have hg4:=Qai (k:=i) hg_p1 om
   refine tx 6 (dx (xs:=p1) i om) ?_
   refine tk [7,8] ?_
   refine dn hb ?_
   refine cd (fun h5=>?_) (fun h5=>?_)
   ·
    have hM:=hM.trans (bt h5)
    refine ad 4 ?_
    exact rz (rs:=[.tmp 4]) (rzB hM)
   ·
    have hM:=hM.trans (bf h5)
    refine ad 4 ?_
    rw[Qb3 (i:=i) om]
    refine ad 2 ?_
    exact Run.again (i+1) [0,1] [2,3] ⟨by first | omega | exact trivial | (dsimp only;omega) | (refine⟨by omega,?_⟩;simp_all;try omega),hM⟩ rfl lv1 su (by decide)
  ·
   have h2l: ¬ (i<p0.length):=dfl h2
   have hM:=hE.trans ((congrArg (fun n=>Qdf p0 p1 n i) (sb0 h2l)).trans (Qdf.eq_1 _ _ _))
   refine ad 5 ?_
   exact rz (rs:=[.tmp 4]) (rzB hM)
def Qc1 (p0:List Step) (p1:List Step):Nat→Nat→Bool
 | 0,i=>true
 | n+1,i=>bif !(decide ((nth p0 i)=(nth p1 i))) then false else(Qc1 p0 p1 n (i+1))
def Qir (p0:List Step) (p1:List Step):Bool:=bif !decide ((p0.length:Int)=(p1.length:Int)) then false else(Qc1 p0 p1 (p0.length - 0) 0)
theorem Qr5 (p0:List Step) (p1:List Step):CTs 262 [.o (.sl Step instDatStep p0),.o (.sl Step instDatStep p1)] [Re.c (.bool (Qir p0 p1))]:=by
 refine en Tryz.func262 Tryz.ntmps262 fun w hG hgd=>?_
 obtain⟨hg_p0,hg_p1,_⟩:=hgd
 have hl_p0:p0.length≤9223372036854775807:=hg_p0.1
 have hl_p1:p1.length≤9223372036854775807:=hg_p1.1
 have hM:=Qir.eq_1 p0 p1
 refine ad 13 ?_
 refine cd (fun h1=>?_) (fun h1=>?_)
 ·
  have hM:=hM.trans (bt h1)
  refine ad 4 ?_
  exact rz (rs:=[.tmp 4]) (rzB hM)
 ·
  have hM:=hM.trans (bf h1)
  refine ad 9 ?_
  refine Run.loopM (ι:=Nat) (fun s=>Qc1 p0 p1 (p0.length - s) s) (fun s=>⟨26,2,[(0,.sl 0 p0.length),(1,.sl 1 p1.length),(12,.v (.int .i64 (p0.length:Int))),(13,.v (.int .i64 (s:Int)))],[(0,.ros Step instDatStep p0),(1,.ros Step instDatStep p1)]⟩) (fun s=>s≤p0.length) (fun s=>p0.length - s) 0 [0,1] [0,1] hM lv0 su (by decide) ?_
  rintro i hv hE
  try dsimp only at hE
  have hi:=hv
  try dsimp only at hi
  refine ad 5 ?_
  refine cd (fun h2=>?_) (fun h2=>?_)
  ·
   have h2l:i<p0.length:=dtl h2
   have hM:=hE.trans ((congrArg (fun n=>Qc1 p0 p1 n i) (sb1 h2l)).trans (Qc1.eq_2 _ _ _ _))
   refine ad 9 ?_
   refine dr 9 fun _ _ _ _ _ hb=>?_
   refine tk [0,1] ?_
   have hg3:=Qai (k:=i) hg_p0 om
   refine tx 2 (dx (xs:=p0) i om) ?_
   refine tk [3,4,5] ?_
   have hg4:=Qai (k:=i) hg_p1 om
   refine tx 6 (dx (xs:=p1) i om) ?_
   refine tk [7] ?_
   refine on 8 [2,3] (qe (Yf2 (nth p0 i) (nth p1 i))) ?_
   refine dn hb ?_
   refine cd (fun h5=>?_) (fun h5=>?_)
   ·
    have hM:=hM.trans (bt h5)
    refine ad 4 ?_
    exact rz (rs:=[.tmp 4]) (rzB hM)
   ·
    have hM:=hM.trans (bf h5)
    refine ad 4 ?_
    rw[Qb3 (i:=i) om]
    refine ad 2 ?_
    exact Run.again (i+1) [0,1] [2,3] ⟨by first | omega | exact trivial | (dsimp only;omega) | (refine⟨by omega,?_⟩;simp_all;try omega),hM⟩ rfl lv1 su (by decide)
  ·
   have h2l: ¬ (i<p0.length):=dfl h2
   have hM:=hE.trans ((congrArg (fun n=>Qc1 p0 p1 n i) (sb0 h2l)).trans (Qc1.eq_1 _ _ _))
   refine ad 5 ?_
   exact rz (rs:=[.tmp 4]) (rzB hM)
def Qg2 (p0:List Answer) (p1:List Answer):Bool:=(Qgw p0 p1)
theorem Qnb (p0:List Answer) (p1:List Answer):CTs 199 [.o (.sl Answer instDatAnswer p0),.o (.sl Answer instDatAnswer p1)] [Re.c (.bool (Qg2 p0 p1))]:=by
 refine en Tryz.func199 Tryz.ntmps199 fun w hG hgd=>?_
 obtain⟨hg_p0,hg_p1,_⟩:=hgd
 have hl_p0:p0.length≤9223372036854775807:=hg_p0.1
 have hl_p1:p1.length≤9223372036854775807:=hg_p1.1
 have hM:=Qg2.eq_1 p0 p1
 refine ad 8 ?_
 refine op (cl (Qqb p0 p1) Yi5) ?_
 refine ad 2 ?_
 exact rz (rs:=[.tmp 4]) (rzB hM)
def Qku (p0:Touch) (p1:Touch):Bool:=(Qe0 p0.Reads p1.Reads)&&(Qe0 p0.Writes p1.Writes)
theorem Qxb (p0:Touch) (p1:Touch):CTs 200 [.o (.st Touch _ inferInstance p0),.o (.st Touch _ inferInstance p1)] [Re.c (.bool (Qku p0 p1))]:=by
 refine en Tryz.func200 Tryz.ntmps200 fun w hG hgd=>?_
 obtain⟨hg_p0,hg_p1,_⟩:=hgd
 have hM:=Qku.eq_1 p0 p1
 refine ad 12 ?_
 refine op (cl (Qim p0.Reads p1.Reads) Yg5) ?_
 refine ad 1 ?_
 refine ag 4 ?_
 refine op (cG (hct:=fun hB=>(Qim p0.Writes p1.Writes)) (hfn:=Yg5)) ?_
 refine ag 1 ?_
 refine ad 2 ?_
 exact rz (rs:=[.tmp 4]) (rzB hM)
def Qmi (p0:Tx) (p1:Tx):Bool:=((((((((decide (p0.Id=p1.Id))&&(decide (p0.Age=p1.Age)))&&(decide (p0.Proc=p1.Proc)))&&(decide (p0.Began=p1.Began)))&&(decide (p0.State=p1.State)))&&(Qit p0.Calls p1.Calls))&&(Qg2 p0.Answers p1.Answers))&&(Qku p0.Touch p1.Touch))&&(Qi9 p0.Marks p1.Marks)
theorem Q34 (p0:Tx) (p1:Tx):CTs 137 [.o (.st Tx _ inferInstance p0),.o (.st Tx _ inferInstance p1)] [Re.c (.bool (Qmi p0 p1))]:=by
 refine en Tryz.func137 Tryz.ntmps137 fun w hG hgd=>?_
 obtain⟨hg_p0,hg_p1,_⟩:=hgd
 have hM:=Qmi.eq_1 p0 p1
 refine ad 7 ?_
 refine adL ?_
 refine ad 6 ?_
 refine ag 6 ?_
 refine ad 1 ?_
 refine ag 6 ?_
 refine ad 1 ?_
 refine ag 6 ?_
 refine ad 1 ?_
 refine ag 6 ?_
 refine ad 1 ?_
 refine ag 4 ?_
 refine op (cG (hct:=fun hB=>(Qr7 p0.Calls p1.Calls)) (hfn:=Yjr)) ?_
 refine ag 1 ?_
 refine ad 1 ?_
 refine ag 4 ?_
 refine op (cG (hct:=fun hB=>(Qnb p0.Answers p1.Answers)) (hfn:=Yfl)) ?_
 refine ag 1 ?_
 refine ad 1 ?_
 refine ag 4 ?_
 have hg1:Dat.good (p0.Touch:Touch):=hg_p0.2.2.2.2.2.2.1
 have hg2:Dat.good (p1.Touch:Touch):=hg_p1.2.2.2.2.2.2.1
 refine op (cG (hct:=fun hB=>(Qxb p0.Touch p1.Touch)) (hfn:=Yjq)) ?_
 refine ag 1 ?_
 refine ad 1 ?_
 refine ag 4 ?_
 refine op (cG (hct:=fun hB=>(Qtm p0.Marks p1.Marks)) (hfn:=Yjp)) ?_
 refine ag 1 ?_
 refine ad 2 ?_
 exact rz (rs:=[.tmp 4]) (rzB hM)
def Qck (p0:List Tx) (p1:List Tx):Nat→Nat→Bool
 | 0,i=>true
 | n+1,i=>bif !(Qmi (nth p0 i) (nth p1 i)) then false else(Qck p0 p1 n (i+1))
def Qhu (p0:List Tx) (p1:List Tx):Bool:=bif !decide ((p0.length:Int)=(p1.length:Int)) then false else(Qck p0 p1 (p0.length - 0) 0)
theorem Qqc (p0:List Tx) (p1:List Tx):CTs 136 [.o (.sl Tx instDatTx p0),.o (.sl Tx instDatTx p1),.fn 137 []] [Re.c (.bool (Qhu p0 p1))]:=by
 refine en Tryz.func136 Tryz.ntmps136 fun w hG hgd=>?_
 obtain⟨hg_p0,hg_p1,_⟩:=hgd
 have hl_p0:p0.length≤9223372036854775807:=hg_p0.1
 have hl_p1:p1.length≤9223372036854775807:=hg_p1.1
 have hM:=Qhu.eq_1 p0 p1
 refine ad 13 ?_
 refine cd (fun h1=>?_) (fun h1=>?_)
 ·
  have hM:=hM.trans (bt h1)
  refine ad 4 ?_
  exact rz (rs:=[.tmp 6]) (rzB hM)
 ·
  have hM:=hM.trans (bf h1)
  refine ad 9 ?_
  refine Run.loopM (ι:=Nat) (fun s=>Qck p0 p1 (p0.length - s) s) (fun s=>⟨32,2,[(1,.sl 0 p1.length),(2,.fn 137 []),(15,.sl 1 p0.length),(16,.v (.int .i64 (p0.length:Int))),(17,.v (.int .i64 (s:Int)))],[(0,.ros Tx instDatTx p1),(1,.ros Tx instDatTx p0)]⟩) (fun s=>s≤p0.length) (fun s=>p0.length - s) 0 [1,0] [1,0] hM lv0 su (by decide) ?_
  rintro i hv hE
  try dsimp only at hE
  have hi:=hv
  try dsimp only at hi
  refine ad 5 ?_
  refine cd (fun h2=>?_) (fun h2=>?_)
  ·
   have h2l:i<p0.length:=dtl h2
   have hM:=hE.trans ((congrArg (fun n=>Qck p0 p1 n i) (sb1 h2l)).trans (Qck.eq_2 _ _ _ _))
   refine ad 6 ?_
   have hg4:=Qai (k:=i) hg_p0 om
   refine op (ix (xs:=p0) i om) ?_
   refine ad 9 ?_
   have hg6:=Qai (k:=i) hg_p1 om
   refine op (ix (xs:=p1) i om) ?_
   refine ad 9 ?_
   have hg7:Dat.good (nth p0 i:Tx):=hg4
   have hg8:Dat.good (nth p1 i:Tx):=hg6
   refine op (cl (Q34 (nth p0 i) (nth p1 i)) Ykt) ?_
   refine ad 2 ?_
   refine cd (fun h9=>?_) (fun h9=>?_)
   ·
    have hM:=hM.trans (bt h9)
    refine ad 4 ?_
    exact rz (rs:=[.tmp 6]) (rzB hM)
   ·
    have hM:=hM.trans (bf h9)
    refine ad 4 ?_
    rw[Qb3 (i:=i) om]
    refine ad 2 ?_
    exact Run.again (i+1) [0,1] [14,15] ⟨by first | omega | exact trivial | (dsimp only;omega) | (refine⟨by omega,?_⟩;simp_all;try omega),hM⟩ rfl lv1 su (by decide)
  ·
   have h2l: ¬ (i<p0.length):=dfl h2
   have hM:=hE.trans ((congrArg (fun n=>Qck p0 p1 n i) (sb0 h2l)).trans (Qck.eq_1 _ _ _))
   refine ad 5 ?_
   exact rz (rs:=[.tmp 6]) (rzB hM)
def Qj5 (p0:Slot) (p1:Slot):Bool:=((decide (p0.Seq=p1.Seq))&&(decide (p0.Whole=p1.Whole)))&&(Qh7 p0.Cells p1.Cells)
theorem Qus (p0:Slot) (p1:Slot):CTs 202 [.o (.st Slot _ inferInstance p0),.o (.st Slot _ inferInstance p1)] [Re.c (.bool (Qj5 p0 p1))]:=by
 refine en Tryz.func202 Tryz.ntmps202 fun w hG hgd=>?_
 obtain⟨hg_p0,hg_p1,_⟩:=hgd
 have hM:=Qj5.eq_1 p0 p1
 refine ad 14 ?_
 refine ag 6 ?_
 refine ad 1 ?_
 refine ag 4 ?_
 refine op (cG (hct:=fun hB=>(Qo9 p0.Cells p1.Cells)) (hfn:=Yig)) ?_
 refine ag 1 ?_
 refine ad 2 ?_
 exact rz (rs:=[.tmp 4]) (rzB hM)
def Qby (p0:List Slot) (p1:List Slot):Nat→Nat→Bool
 | 0,i=>true
 | n+1,i=>bif !(Qj5 (nth p0 i) (nth p1 i)) then false else(Qby p0 p1 n (i+1))
def Qg7 (p0:List Slot) (p1:List Slot):Bool:=bif !decide ((p0.length:Int)=(p1.length:Int)) then false else(Qby p0 p1 (p0.length - 0) 0)
theorem Qov (p0:List Slot) (p1:List Slot):CTs 203 [.o (.sl Slot instDatSlot p0),.o (.sl Slot instDatSlot p1),.fn 202 []] [Re.c (.bool (Qg7 p0 p1))]:=by
 refine en Tryz.func203 Tryz.ntmps203 fun w hG hgd=>?_
 obtain⟨hg_p0,hg_p1,_⟩:=hgd
 have hl_p0:p0.length≤9223372036854775807:=hg_p0.1
 have hl_p1:p1.length≤9223372036854775807:=hg_p1.1
 have hM:=Qg7.eq_1 p0 p1
 refine ad 13 ?_
 refine cd (fun h1=>?_) (fun h1=>?_)
 ·
  have hM:=hM.trans (bt h1)
  refine ad 4 ?_
  exact rz (rs:=[.tmp 6]) (rzB hM)
 ·
  have hM:=hM.trans (bf h1)
  refine ad 9 ?_
  refine Run.loopM (ι:=Nat) (fun s=>Qby p0 p1 (p0.length - s) s) (fun s=>⟨32,2,[(1,.sl 0 p1.length),(2,.fn 202 []),(15,.sl 1 p0.length),(16,.v (.int .i64 (p0.length:Int))),(17,.v (.int .i64 (s:Int)))],[(0,.ros Slot instDatSlot p1),(1,.ros Slot instDatSlot p0)]⟩) (fun s=>s≤p0.length) (fun s=>p0.length - s) 0 [1,0] [1,0] hM lv0 su (by decide) ?_
  rintro i hv hE
  try dsimp only at hE
  have hi:=hv
  try dsimp only at hi
  refine ad 5 ?_
  refine cd (fun h2=>?_) (fun h2=>?_)
  ·
   have h2l:i<p0.length:=dtl h2
   have hM:=hE.trans ((congrArg (fun n=>Qby p0 p1 n i) (sb1 h2l)).trans (Qby.eq_2 _ _ _ _))
   refine ad 6 ?_
   have hg4:=Qai (k:=i) hg_p0 om
   refine op (ix (xs:=p0) i om) ?_
   refine ad 9 ?_
   have hg6:=Qai (k:=i) hg_p1 om
   refine op (ix (xs:=p1) i om) ?_
   refine ad 9 ?_
   have hg7:Dat.good (nth p0 i:Slot):=hg4
   have hg8:Dat.good (nth p1 i:Slot):=hg6
   refine op (cl (Qus (nth p0 i) (nth p1 i)) Yjo) ?_
   refine ad 2 ?_
   refine cd (fun h9=>?_) (fun h9=>?_)
   ·
    have hM:=hM.trans (bt h9)
    refine ad 4 ?_
    exact rz (rs:=[.tmp 6]) (rzB hM)
   ·
    have hM:=hM.trans (bf h9)
    refine ad 4 ?_
    rw[Qb3 (i:=i) om]
    refine ad 2 ?_
    exact Run.again (i+1) [0,1] [6,7] ⟨by first | omega | exact trivial | (dsimp only;omega) | (refine⟨by omega,?_⟩;simp_all;try omega),hM⟩ rfl lv1 su (by decide)
  ·
   have h2l: ¬ (i<p0.length):=dfl h2
   have hM:=hE.trans ((congrArg (fun n=>Qby p0 p1 n i) (sb0 h2l)).trans (Qby.eq_1 _ _ _))
   refine ad 5 ?_
   exact rz (rs:=[.tmp 6]) (rzB hM)
def Qj6 (p0:Disk) (p1:Disk):Bool:=(decide (p0.Journal=p1.Journal))&&(Qg7 p0.Slots p1.Slots)
theorem Qzd (p0:Disk) (p1:Disk):CTs 138 [.o (.st Disk _ inferInstance p0),.o (.st Disk _ inferInstance p1)] [Re.c (.bool (Qj6 p0 p1))]:=by
 refine en Tryz.func138 Tryz.ntmps138 fun w hG hgd=>?_
 obtain⟨hg_p0,hg_p1,_⟩:=hgd
 have hM:=Qj6.eq_1 p0 p1
 refine ad 16 ?_
 refine op (qe (Yli p0.Journal p1.Journal)) ?_
 refine ad 1 ?_
 refine ag 5 ?_
 refine op (cG (hct:=fun hB=>(Qov p0.Slots p1.Slots)) (hfn:=Yjn)) ?_
 refine ag 1 ?_
 refine ad 2 ?_
 exact rz (rs:=[.tmp 4]) (rzB hM)
def Qkv (p0:List Step) (p1:List Step):Bool:=(Qir p0 p1)
theorem Qxc (p0:List Step) (p1:List Step):CTs 237 [.o (.sl Step instDatStep p0),.o (.sl Step instDatStep p1)] [Re.c (.bool (Qkv p0 p1))]:=by
 refine en Tryz.func237 Tryz.ntmps237 fun w hG hgd=>?_
 obtain⟨hg_p0,hg_p1,_⟩:=hgd
 have hl_p0:p0.length≤9223372036854775807:=hg_p0.1
 have hl_p1:p1.length≤9223372036854775807:=hg_p1.1
 have hM:=Qkv.eq_1 p0 p1
 refine ad 8 ?_
 refine op (cl (Qr5 p0 p1) Yit) ?_
 refine ad 2 ?_
 exact rz (rs:=[.tmp 4]) (rzB hM)
def Qi6 (p0:Entry) (p1:Entry):Bool:=(((((((decide (p0.Seq=p1.Seq))&&(decide (p0.Kind=p1.Kind)))&&(decide (p0.Tx=p1.Tx)))&&(Qkv p0.Steps p1.Steps))&&(Qg2 p0.Answers p1.Answers))&&(decide (p0.Began=p1.Began)))&&(decide (p0.Ended=p1.Ended)))&&(decide (p0.Laid=p1.Laid))
theorem Qw9 (p0:Entry) (p1:Entry):CTs 205 [.o (.st Entry _ inferInstance p0),.o (.st Entry _ inferInstance p1)] [Re.c (.bool (Qi6 p0 p1))]:=by
 refine en Tryz.func205 Tryz.ntmps205 fun w hG hgd=>?_
 obtain⟨hg_p0,hg_p1,_⟩:=hgd
 have hM:=Qi6.eq_1 p0 p1
 refine ad 7 ?_
 refine adL ?_
 refine ad 6 ?_
 refine ag 6 ?_
 refine ad 1 ?_
 refine ag 6 ?_
 refine ad 1 ?_
 refine ag 4 ?_
 refine op (cG (hct:=fun hB=>(Qxc p0.Steps p1.Steps)) (hfn:=Yi4)) ?_
 refine ag 1 ?_
 refine ad 1 ?_
 refine ag 4 ?_
 refine op (cG (hct:=fun hB=>(Qnb p0.Answers p1.Answers)) (hfn:=Yfl)) ?_
 refine ag 1 ?_
 refine ad 1 ?_
 refine ag 6 ?_
 refine ad 1 ?_
 refine ag 6 ?_
 refine ad 1 ?_
 refine ag 6 ?_
 refine ad 2 ?_
 exact rz (rs:=[.tmp 4]) (rzB hM)
def Qbl (p0:List Entry) (p1:List Entry):Nat→Nat→Bool
 | 0,i=>true
 | n+1,i=>bif !(Qi6 (nth p0 i) (nth p1 i)) then false else(Qbl p0 p1 n (i+1))
def Qg0 (p0:List Entry) (p1:List Entry):Bool:=bif !decide ((p0.length:Int)=(p1.length:Int)) then false else(Qbl p0 p1 (p0.length - 0) 0)
theorem Qof (p0:List Entry) (p1:List Entry):CTs 204 [.o (.sl Entry instDatEntry p0),.o (.sl Entry instDatEntry p1),.fn 205 []] [Re.c (.bool (Qg0 p0 p1))]:=by
 refine en Tryz.func204 Tryz.ntmps204 fun w hG hgd=>?_
 obtain⟨hg_p0,hg_p1,_⟩:=hgd
 have hl_p0:p0.length≤9223372036854775807:=hg_p0.1
 have hl_p1:p1.length≤9223372036854775807:=hg_p1.1
 have hM:=Qg0.eq_1 p0 p1
 refine ad 13 ?_
 refine cd (fun h1=>?_) (fun h1=>?_)
 ·
  have hM:=hM.trans (bt h1)
  refine ad 4 ?_
  exact rz (rs:=[.tmp 6]) (rzB hM)
 ·
  have hM:=hM.trans (bf h1)
  refine ad 9 ?_
  refine Run.loopM (ι:=Nat) (fun s=>Qbl p0 p1 (p0.length - s) s) (fun s=>⟨32,2,[(1,.sl 0 p1.length),(2,.fn 205 []),(15,.sl 1 p0.length),(16,.v (.int .i64 (p0.length:Int))),(17,.v (.int .i64 (s:Int)))],[(0,.ros Entry instDatEntry p1),(1,.ros Entry instDatEntry p0)]⟩) (fun s=>s≤p0.length) (fun s=>p0.length - s) 0 [1,0] [1,0] hM lv0 su (by decide) ?_
  rintro i hv hE
  try dsimp only at hE
  have hi:=hv
  try dsimp only at hi
  refine ad 5 ?_
  refine cd (fun h2=>?_) (fun h2=>?_)
  ·
   have h2l:i<p0.length:=dtl h2
   have hM:=hE.trans ((congrArg (fun n=>Qbl p0 p1 n i) (sb1 h2l)).trans (Qbl.eq_2 _ _ _ _))
   refine ad 6 ?_
   have hg4:=Qai (k:=i) hg_p0 om
   refine op (ix (xs:=p0) i om) ?_
   refine ad 9 ?_
   have hg6:=Qai (k:=i) hg_p1 om
   refine op (ix (xs:=p1) i om) ?_
   refine ad 9 ?_
   have hg7:Dat.good (nth p0 i:Entry):=hg4
   have hg8:Dat.good (nth p1 i:Entry):=hg6
   refine op (cl (Qw9 (nth p0 i) (nth p1 i)) Yjl) ?_
   refine ad 2 ?_
   refine cd (fun h9=>?_) (fun h9=>?_)
   ·
    have hM:=hM.trans (bt h9)
    refine ad 4 ?_
    exact rz (rs:=[.tmp 6]) (rzB hM)
   ·
    have hM:=hM.trans (bf h9)
    refine ad 4 ?_
    rw[Qb3 (i:=i) om]
    refine ad 2 ?_
    exact Run.again (i+1) [0,1] [8,9] ⟨by first | omega | exact trivial | (dsimp only;omega) | (refine⟨by omega,?_⟩;simp_all;try omega),hM⟩ rfl lv1 su (by decide)
  ·
   have h2l: ¬ (i<p0.length):=dfl h2
   have hM:=hE.trans ((congrArg (fun n=>Qbl p0 p1 n i) (sb0 h2l)).trans (Qbl.eq_1 _ _ _))
   refine ad 5 ?_
   exact rz (rs:=[.tmp 6]) (rzB hM)
def Qjb (p0:List Entry) (p1:List Entry):Bool:=(Qg0 p0 p1)
theorem Qts (p0:List Entry) (p1:List Entry):CTs 139 [.o (.sl Entry instDatEntry p0),.o (.sl Entry instDatEntry p1)] [Re.c (.bool (Qjb p0 p1))]:=by
 refine en Tryz.func139 Tryz.ntmps139 fun w hG hgd=>?_
 obtain⟨hg_p0,hg_p1,_⟩:=hgd
 have hl_p0:p0.length≤9223372036854775807:=hg_p0.1
 have hl_p1:p1.length≤9223372036854775807:=hg_p1.1
 have hM:=Qjb.eq_1 p0 p1
 refine ad 8 ?_
 refine op (cl (Qof p0 p1) Yjm) ?_
 refine ad 2 ?_
 exact rz (rs:=[.tmp 4]) (rzB hM)
def Qii (p0:Kernel) (p1:Kernel):Bool:=((((((((Qh7 p0.Store p1.Store)&&(Qhu p0.Txs p1.Txs))&&(Qj6 p0.Disk p1.Disk))&&(decide (p0.Seq=p1.Seq)))&&(decide (p0.Next=p1.Next)))&&(decide (p0.Time=p1.Time)))&&(Qjb p0.History p1.History))&&(Qe0 p0.Seen p1.Seen))&&(decide (p0.Room=p1.Room))
theorem Qur (p0:Kernel) (p1:Kernel):CTs 73 [.o (.st Kernel _ inferInstance p0),.o (.st Kernel _ inferInstance p1)] [Re.c (.bool (Qii p0 p1))]:=by
 refine en Tryz.func73 Tryz.ntmps73 fun w hG hgd=>?_
 obtain⟨hg_p0,hg_p1,_⟩:=hgd
 have hM:=Qii.eq_1 p0 p1
 refine ad 7 ?_
 refine adL ?_
 refine ad 4 ?_
 refine op (cl (Qo9 p0.Store p1.Store) Yig) ?_
 refine ad 1 ?_
 refine ag 4 ?_
 refine op (cG (hct:=fun hB=>(Qqc p0.Txs p1.Txs)) (hfn:=Yku)) ?_
 refine ag 1 ?_
 refine ad 1 ?_
 refine ag 4 ?_
 have hg1:Dat.good (p0.Disk:Disk):=hg_p0.2.2.1
 have hg2:Dat.good (p1.Disk:Disk):=hg_p1.2.2.1
 refine op (cG (hct:=fun hB=>(Qzd p0.Disk p1.Disk)) (hfn:=Yks)) ?_
 refine ag 1 ?_
 refine ad 1 ?_
 refine ag 6 ?_
 refine ad 1 ?_
 refine ag 6 ?_
 refine ad 1 ?_
 refine ag 6 ?_
 refine ad 1 ?_
 refine ag 4 ?_
 refine op (cG (hct:=fun hB=>(Qts p0.History p1.History)) (hfn:=Ykr)) ?_
 refine ag 1 ?_
 refine ad 1 ?_
 refine ag 4 ?_
 refine op (cG (hct:=fun hB=>(Qim p0.Seen p1.Seen)) (hfn:=Yg5)) ?_
 refine ag 1 ?_
 refine ad 1 ?_
 refine ag 6 ?_
 refine ad 2 ?_
 exact rz (rs:=[.tmp 4]) (rzB hM)
end
section
theorem Yie:FnOk Tryz.prog 69:=⟨_,Tryz.func69,rfl,by kernel_rfl⟩
theorem Yid:FnOk Tryz.prog 71:=⟨_,Tryz.func71,rfl,by kernel_rfl⟩
end
section
set_option maxHeartbeats 2000000
theorem Ynd:FnOk Tryz.prog 72:=⟨_,Tryz.func72,rfl,by kernel_rfl⟩
theorem Ync:FnOk Tryz.prog 73:=⟨_,Tryz.func73,rfl,by kernel_rfl⟩
def Qi7 (p0:Kernel) (p1:Int):Bool:=(Qii (Qce (Qce p0 p1) p1) (Qce p0 p1))
theorem Qxf (p0:Kernel) (p1:Int) (hs:Dat.small 1048576 p0):CTs 30 [.o (.st Kernel _ inferInstance p0),.o (.c (.int .i64 p1))] [Re.c (.bool (Qi7 p0 p1))]:=by
 refine en Tryz.func30 Tryz.ntmps30 fun w hG hgd=>?_
 obtain⟨hg_p0,_⟩:=hgd
 have hM:=Qi7.eq_1 p0 p1
 have hsK2:=Ygd hs
 have hsK3:=Qml hsK2 p1
 refine ad 9 ?_
 refine og (clg (Qoh p0 p1 (by first | assumption | exact hsK2)) Yid) fun hgq=>?_
 obtain⟨hg1,_⟩:=hgq
 refine ad 4 ?_
 refine dr 6 fun _ _ _ _ _ hb=>?_
 refine tk [0,1,3] ?_
 refine ong 2 [5,6,7,8,9,10,11,12,13,14,15,16] (clg (Qoh (Qce p0 p1) p1 (by first | assumption | exact hsK2)) Yid) fun hgq=>?_
 obtain⟨hg2,_⟩:=hgq
 refine on 4 [5,6,7,8,9,10,11,12,13,14,15,16] (cl (Qur (Qce (Qce p0 p1) p1) (Qce p0 p1)) Ync) ?_
 refine tk [5] ?_
 refine dn hb ?_
 exact rz (rs:=[.tmp 4]) (rzB hM)
def Qi3 (p0:Kernel) (p1:Int):Bool:=(Qid (Qdj (Qdj p0 p1) p1) (Qdj p0 p1))
theorem Qw5 (p0:Kernel) (p1:Int) (hs:Dat.small 1048576 p0):CTs 29 [.o (.st Kernel _ inferInstance p0),.o (.c (.int .i64 p1))] [Re.c (.bool (Qi3 p0 p1))]:=by
 refine en Tryz.func29 Tryz.ntmps29 fun w hG hgd=>?_
 obtain⟨hg_p0,_⟩:=hgd
 have hM:=Qi3.eq_1 p0 p1
 have hsK2:=Ygd hs
 have hsK3:KSm (Qdj p0 p1):=by rw[←Qmt hg_p0.2.1];exact Qml hsK2 p1
 refine ad 9 ?_
 refine og (clg (Qod p0 p1 (by first | assumption | exact hsK2)) Yie) fun hgq=>?_
 obtain⟨hg1,_⟩:=hgq
 refine ad 4 ?_
 refine dr 6 fun _ _ _ _ _ hb=>?_
 refine tk [0,1,3] ?_
 refine ong 2 [5,6,7,8,9,10,11,12,13,14,15,16] (clg (Qod (Qdj p0 p1) p1 (by first | assumption | exact hsK2)) Yie) fun hgq=>?_
 obtain⟨hg2,_⟩:=hgq
 refine on 4 [5,6,7,8,9,10,11,12,13,14,15,16] (cl (Quo (Qdj (Qdj p0 p1) p1) (Qdj p0 p1)) Ynd) ?_
 refine tk [5] ?_
 refine dn hb ?_
 exact rz (rs:=[.tmp 4]) (rzB hM)
end
section
theorem Yik:FnOk Tryz.prog 31:=⟨_,Tryz.func31,rfl,by kernel_rfl⟩
theorem Ynt:FnOk Tryz.prog 32:=⟨_,Tryz.func32,rfl,by kernel_rfl⟩
theorem Yns:FnOk Tryz.prog 33:=⟨_,Tryz.func33,rfl,by kernel_rfl⟩
theorem Ynr:FnOk Tryz.prog 34:=⟨_,Tryz.func34,rfl,by kernel_rfl⟩
theorem Yha:FnOk Tryz.prog 35:=⟨_,Tryz.func35,rfl,by kernel_rfl⟩
theorem Ynb:FnOk Tryz.prog 74:=⟨_,Tryz.func74,rfl,by kernel_rfl⟩
theorem Yna:FnOk Tryz.prog 75:=⟨_,Tryz.func75,rfl,by kernel_rfl⟩
theorem Ym9:FnOk Tryz.prog 76:=⟨_,Tryz.func76,rfl,by kernel_rfl⟩
theorem Ym8:FnOk Tryz.prog 77:=⟨_,Tryz.func77,rfl,by kernel_rfl⟩
theorem Ym7:FnOk Tryz.prog 78:=⟨_,Tryz.func78,rfl,by kernel_rfl⟩
theorem Ykq:FnOk Tryz.prog 140:=⟨_,Tryz.func140,rfl,by kernel_rfl⟩
theorem Yfy:FnOk Tryz.prog 141:=⟨_,Tryz.func141,rfl,by kernel_rfl⟩
theorem Ykp:FnOk Tryz.prog 142:=⟨_,Tryz.func142,rfl,by kernel_rfl⟩
theorem Yko:FnOk Tryz.prog 143:=⟨_,Tryz.func143,rfl,by kernel_rfl⟩
theorem Ykn:FnOk Tryz.prog 144:=⟨_,Tryz.func144,rfl,by kernel_rfl⟩
theorem Ykm:FnOk Tryz.prog 145:=⟨_,Tryz.func145,rfl,by kernel_rfl⟩
theorem Yfk:FnOk Tryz.prog 206:=⟨_,Tryz.func206,rfl,by kernel_rfl⟩
theorem Yjk:FnOk Tryz.prog 207:=⟨_,Tryz.func207,rfl,by kernel_rfl⟩
theorem Yjj:FnOk Tryz.prog 208:=⟨_,Tryz.func208,rfl,by kernel_rfl⟩
def Qgz (p0:Cell) (p1:Int):Int:=bif decide ((i64.wrap (p1 - (p0.Key.size:Int)))<0) then(-1) else(bif decide ((i64.wrap ((i64.wrap (p1 - (p0.Key.size:Int))) - (p0.Val.size:Int)))<0) then(-1) else(i64.wrap ((i64.wrap (p1 - (p0.Key.size:Int))) - (p0.Val.size:Int))))
theorem Q3w (p0:Cell) (p1:Int):CTs 74 [.o (.st Cell _ inferInstance p0),.o (.c (.int .i64 p1))] [Re.c (.int .i64 (Qgz p0 p1))]:=by
 refine en Tryz.func74 Tryz.ntmps74 fun w hG hgd=>?_
 obtain⟨hg_p0,_⟩:=hgd
 have hM:=Qgz.eq_1 p0 p1
 refine ad 20 ?_
 refine cd (fun h1=>?_) (fun h1=>?_)
 ·
  have hM:=hM.trans (bt h1)
  refine ad 4 ?_
  exact rz (rs:=[.tmp 4]) (rzI hM)
 ·
  have hM:=hM.trans (bf h1)
  refine ad 16 ?_
  refine cd (fun h2=>?_) (fun h2=>?_)
  ·
   have hM:=hM.trans (bt h2)
   refine ad 4 ?_
   exact rz (rs:=[.tmp 4]) (rzI hM)
  ·
   have hM:=hM.trans (bf h2)
   refine ad 6 ?_
   exact rz (rs:=[.tmp 4]) (rzI hM)
def Qfl (p0:List Cell) (p1:Int):Nat→Int→Nat→Int
 | 0,v1,i=>v1
 | n+1,v1,i=>bif decide ((Qgz (nth p0 i) v1)<0) then(-1) else(Qfl p0 p1 n (Qgz (nth p0 i) v1) (i+1))
def Qbh (p0:List Cell) (p1:Int):Int:=bif decide ((i64.wrap (p1 - (p0.length:Int)))<0) then(-1) else(Qfl p0 p1 (p0.length - 0) (i64.wrap (p1 - (p0.length:Int))) 0)
theorem Qra (p0:List Cell) (p1:Int):CTs 31 [.o (.sl Cell instDatCell p0),.o (.c (.int .i64 p1))] [Re.c (.int .i64 (Qbh p0 p1))]:=by
 refine en Tryz.func31 Tryz.ntmps31 fun w hG hgd=>?_
 obtain⟨hg_p0,_⟩:=hgd
 have hl_p0:p0.length≤9223372036854775807:=hg_p0.1
 have hM:=Qbh.eq_1 p0 p1
 refine ad 18 ?_
 refine cd (fun h1=>?_) (fun h1=>?_)
 ·
  have hM:=hM.trans (bt h1)
  refine ad 4 ?_
  exact rz (rs:=[.tmp 4]) (rzI hM)
 ·
  have hM:=hM.trans (bf h1)
  refine ad 7 ?_
  refine Run.loopM (ι:=Int×Nat) (fun s=>Qfl p0 p1 (p0.length - s.2) s.1 s.2) (fun s=>⟨27,1,[(0,.sl 0 p0.length),(1,.v (.int .i64 s.1)),(5,.v (.int .i64 (s.2:Int)))],[(0,.ros Cell instDatCell p0)]⟩) (fun s=>s.2≤p0.length) (fun s=>p0.length - s.2) (i64.wrap (p1 - (p0.length:Int)),0) [0] [0] hM lv0 su (by decide) ?_
  rintro ⟨v1,i⟩ hv hE
  try dsimp only at hE
  have hi:=hv
  try dsimp only at hi
  refine ad 8 ?_
  refine cd (fun h2=>?_) (fun h2=>?_)
  ·
   have h2l:i<p0.length:=dtl h2
   have hM:=hE.trans ((congrArg (fun n=>Qfl p0 p1 n v1 i) (sb1 h2l)).trans (Qfl.eq_2 _ _ _ _ _))
   refine ad 7 ?_
   have hg4:=Qai (k:=i) hg_p0 om
   refine op (ix (xs:=p0) i om) ?_
   refine ad 2 ?_
   have hg5:Dat.good (nth p0 i:Cell):=hg4
   refine op (cl (Q3w (nth p0 i) v1) Ynb) ?_
   refine ad 7 ?_
   refine cd (fun h6=>?_) (fun h6=>?_)
   ·
    have hM:=hM.trans (bt h6)
    refine ad 4 ?_
    exact rz (rs:=[.tmp 4]) (rzI hM)
   ·
    have hM:=hM.trans (bf h6)
    refine ad 5 ?_
    rw[Qb3 (i:=i) om]
    refine ad 2 ?_
    exact Run.again ((Qgz (nth p0 i) v1),(i+1)) [0] [1] ⟨by first | omega | exact trivial | (dsimp only;omega) | (refine⟨by omega,?_⟩;simp_all;try omega),hM⟩ rfl lv1 su (by decide)
  ·
   have h2l: ¬ (i<p0.length):=dfl h2
   have hM:=hE.trans ((congrArg (fun n=>Qfl p0 p1 n v1 i) (sb0 h2l)).trans (Qfl.eq_1 _ _ _ _))
   refine ad 6 ?_
   exact rz (rs:=[.tmp 4]) (rzI hM)
def Qfn (p0:Call) (p1:Int):Int:=bif decide ((i64.wrap (p1 - (p0.Name.size:Int)))<0) then(-1) else(bif decide ((i64.wrap ((i64.wrap (p1 - (p0.Name.size:Int))) - (p0.To.size:Int)))<0) then(-1) else(bif decide ((i64.wrap ((i64.wrap ((i64.wrap (p1 - (p0.Name.size:Int))) - (p0.To.size:Int))) - (p0.Text.size:Int)))<0) then(-1) else(i64.wrap ((i64.wrap ((i64.wrap (p1 - (p0.Name.size:Int))) - (p0.To.size:Int))) - (p0.Text.size:Int)))))
theorem Qto (p0:Call) (p1:Int):CTs 206 [.o (.st Call _ inferInstance p0),.o (.c (.int .i64 p1))] [Re.c (.int .i64 (Qfn p0 p1))]:=by
 refine en Tryz.func206 Tryz.ntmps206 fun w hG hgd=>?_
 obtain⟨hg_p0,_⟩:=hgd
 have hM:=Qfn.eq_1 p0 p1
 refine ad 20 ?_
 refine cd (fun h1=>?_) (fun h1=>?_)
 ·
  have hM:=hM.trans (bt h1)
  refine ad 4 ?_
  exact rz (rs:=[.tmp 4]) (rzI hM)
 ·
  have hM:=hM.trans (bf h1)
  refine ad 16 ?_
  refine cd (fun h2=>?_) (fun h2=>?_)
  ·
   have hM:=hM.trans (bt h2)
   refine ad 4 ?_
   exact rz (rs:=[.tmp 4]) (rzI hM)
  ·
   have hM:=hM.trans (bf h2)
   refine ad 16 ?_
   refine cd (fun h3=>?_) (fun h3=>?_)
   ·
    have hM:=hM.trans (bt h3)
    refine ad 4 ?_
    exact rz (rs:=[.tmp 4]) (rzI hM)
   ·
    have hM:=hM.trans (bf h3)
    refine ad 6 ?_
    exact rz (rs:=[.tmp 4]) (rzI hM)
def Qfm (p0:List Call) (p1:Int):Nat→Int→Nat→Int
 | 0,v1,i=>v1
 | n+1,v1,i=>bif decide ((Qfn (nth p0 i) v1)<0) then(-1) else(Qfm p0 p1 n (Qfn (nth p0 i) v1) (i+1))
def Qb6 (p0:List Call) (p1:Int):Int:=bif decide ((i64.wrap (p1 - (p0.length:Int)))<0) then(-1) else(Qfm p0 p1 (p0.length - 0) (i64.wrap (p1 - (p0.length:Int))) 0)
theorem Q0p (p0:List Call) (p1:Int):CTs 140 [.o (.sl Call instDatCall p0),.o (.c (.int .i64 p1))] [Re.c (.int .i64 (Qb6 p0 p1))]:=by
 refine en Tryz.func140 Tryz.ntmps140 fun w hG hgd=>?_
 obtain⟨hg_p0,_⟩:=hgd
 have hl_p0:p0.length≤9223372036854775807:=hg_p0.1
 have hM:=Qb6.eq_1 p0 p1
 refine ad 18 ?_
 refine cd (fun h1=>?_) (fun h1=>?_)
 ·
  have hM:=hM.trans (bt h1)
  refine ad 4 ?_
  exact rz (rs:=[.tmp 4]) (rzI hM)
 ·
  have hM:=hM.trans (bf h1)
  refine ad 7 ?_
  refine Run.loopM (ι:=Int×Nat) (fun s=>Qfm p0 p1 (p0.length - s.2) s.1 s.2) (fun s=>⟨27,1,[(0,.sl 0 p0.length),(1,.v (.int .i64 s.1)),(5,.v (.int .i64 (s.2:Int)))],[(0,.ros Call instDatCall p0)]⟩) (fun s=>s.2≤p0.length) (fun s=>p0.length - s.2) (i64.wrap (p1 - (p0.length:Int)),0) [0] [0] hM lv0 su (by decide) ?_
  rintro ⟨v1,i⟩ hv hE
  try dsimp only at hE
  have hi:=hv
  try dsimp only at hi
  refine ad 8 ?_
  refine cd (fun h2=>?_) (fun h2=>?_)
  ·
   have h2l:i<p0.length:=dtl h2
   have hM:=hE.trans ((congrArg (fun n=>Qfm p0 p1 n v1 i) (sb1 h2l)).trans (Qfm.eq_2 _ _ _ _ _))
   refine ad 7 ?_
   have hg4:=Qai (k:=i) hg_p0 om
   refine op (ix (xs:=p0) i om) ?_
   refine ad 2 ?_
   have hg5:Dat.good (nth p0 i:Call):=hg4
   refine op (cl (Qto (nth p0 i) v1) Yfk) ?_
   refine ad 7 ?_
   refine cd (fun h6=>?_) (fun h6=>?_)
   ·
    have hM:=hM.trans (bt h6)
    refine ad 4 ?_
    exact rz (rs:=[.tmp 4]) (rzI hM)
   ·
    have hM:=hM.trans (bf h6)
    refine ad 5 ?_
    rw[Qb3 (i:=i) om]
    refine ad 2 ?_
    exact Run.again ((Qfn (nth p0 i) v1),(i+1)) [0] [1] ⟨by first | omega | exact trivial | (dsimp only;omega) | (refine⟨by omega,?_⟩;simp_all;try omega),hM⟩ rfl lv1 su (by decide)
  ·
   have h2l: ¬ (i<p0.length):=dfl h2
   have hM:=hE.trans ((congrArg (fun n=>Qfm p0 p1 n v1 i) (sb0 h2l)).trans (Qfm.eq_1 _ _ _ _))
   refine ad 6 ?_
   exact rz (rs:=[.tmp 4]) (rzI hM)
def Qfo (p0:Answer) (p1:Int):Int:=bif decide ((i64.wrap (p1 - (p0.Text.size:Int)))<0) then(-1) else(i64.wrap (p1 - (p0.Text.size:Int)))
theorem Qy8 (p0:Answer) (p1:Int):CTs 207 [.o (.st Answer _ inferInstance p0),.o (.c (.int .i64 p1))] [Re.c (.int .i64 (Qfo p0 p1))]:=by
 refine en Tryz.func207 Tryz.ntmps207 fun w hG hgd=>?_
 obtain⟨hg_p0,_⟩:=hgd
 have hM:=Qfo.eq_1 p0 p1
 refine ad 20 ?_
 refine cd (fun h1=>?_) (fun h1=>?_)
 ·
  have hM:=hM.trans (bt h1)
  refine ad 4 ?_
  exact rz (rs:=[.tmp 4]) (rzI hM)
 ·
  have hM:=hM.trans (bf h1)
  refine ad 6 ?_
  exact rz (rs:=[.tmp 4]) (rzI hM)
def Qea (p0:List Answer) (p1:Int):Nat→Int→Nat→Int
 | 0,v1,i=>v1
 | n+1,v1,i=>bif decide ((Qfo (nth p0 i) v1)<0) then(-1) else(Qea p0 p1 n (Qfo (nth p0 i) v1) (i+1))
def Qbp (p0:List Answer) (p1:Int):Int:=bif decide ((i64.wrap (p1 - (p0.length:Int)))<0) then(-1) else(Qea p0 p1 (p0.length - 0) (i64.wrap (p1 - (p0.length:Int))) 0)
theorem Qo7 (p0:List Answer) (p1:Int):CTs 141 [.o (.sl Answer instDatAnswer p0),.o (.c (.int .i64 p1))] [Re.c (.int .i64 (Qbp p0 p1))]:=by
 refine en Tryz.func141 Tryz.ntmps141 fun w hG hgd=>?_
 obtain⟨hg_p0,_⟩:=hgd
 have hl_p0:p0.length≤9223372036854775807:=hg_p0.1
 have hM:=Qbp.eq_1 p0 p1
 refine ad 18 ?_
 refine cd (fun h1=>?_) (fun h1=>?_)
 ·
  have hM:=hM.trans (bt h1)
  refine ad 4 ?_
  exact rz (rs:=[.tmp 4]) (rzI hM)
 ·
  have hM:=hM.trans (bf h1)
  refine ad 7 ?_
  refine Run.loopM (ι:=Int×Nat) (fun s=>Qea p0 p1 (p0.length - s.2) s.1 s.2) (fun s=>⟨27,1,[(0,.sl 0 p0.length),(1,.v (.int .i64 s.1)),(5,.v (.int .i64 (s.2:Int)))],[(0,.ros Answer instDatAnswer p0)]⟩) (fun s=>s.2≤p0.length) (fun s=>p0.length - s.2) (i64.wrap (p1 - (p0.length:Int)),0) [0] [0] hM lv0 su (by decide) ?_
  rintro ⟨v1,i⟩ hv hE
  try dsimp only at hE
  have hi:=hv
  try dsimp only at hi
  refine ad 8 ?_
  refine cd (fun h2=>?_) (fun h2=>?_)
  ·
   have h2l:i<p0.length:=dtl h2
   have hM:=hE.trans ((congrArg (fun n=>Qea p0 p1 n v1 i) (sb1 h2l)).trans (Qea.eq_2 _ _ _ _ _))
   refine ad 7 ?_
   have hg4:=Qai (k:=i) hg_p0 om
   refine op (ix (xs:=p0) i om) ?_
   refine ad 2 ?_
   have hg5:Dat.good (nth p0 i:Answer):=hg4
   refine op (cl (Qy8 (nth p0 i) v1) Yjk) ?_
   refine ad 7 ?_
   refine cd (fun h6=>?_) (fun h6=>?_)
   ·
    have hM:=hM.trans (bt h6)
    refine ad 4 ?_
    exact rz (rs:=[.tmp 4]) (rzI hM)
   ·
    have hM:=hM.trans (bf h6)
    refine ad 5 ?_
    rw[Qb3 (i:=i) om]
    refine ad 2 ?_
    exact Run.again ((Qfo (nth p0 i) v1),(i+1)) [0] [1] ⟨by first | omega | exact trivial | (dsimp only;omega) | (refine⟨by omega,?_⟩;simp_all;try omega),hM⟩ rfl lv1 su (by decide)
  ·
   have h2l: ¬ (i<p0.length):=dfl h2
   have hM:=hE.trans ((congrArg (fun n=>Qea p0 p1 n v1 i) (sb0 h2l)).trans (Qea.eq_1 _ _ _ _))
   refine ad 6 ?_
   exact rz (rs:=[.tmp 4]) (rzI hM)
def Qd8 (p0:List ByteArray) (p1:Int):Nat→Int→Nat→Int
 | 0,v1,i=>v1
 | n+1,v1,i=>bif decide ((i64.wrap (v1 - ((nth p0 i).size:Int)))<0) then(-1) else(Qd8 p0 p1 n (i64.wrap (v1 - ((nth p0 i).size:Int))) (i+1))
def Qbu (p0:List ByteArray) (p1:Int):Int:=bif decide ((i64.wrap (p1 - (p0.length:Int)))<0) then(-1) else(Qd8 p0 p1 (p0.length - 0) (i64.wrap (p1 - (p0.length:Int))) 0)
theorem Qll (p0:List ByteArray) (p1:Int):CTs 35 [.o (.sl ByteArray instDatByteArray p0),.o (.c (.int .i64 p1))] [Re.c (.int .i64 (Qbu p0 p1))]:=by
 refine en Tryz.func35 Tryz.ntmps35 fun w hG hgd=>?_
 obtain⟨hg_p0,_⟩:=hgd
 have hl_p0:p0.length≤9223372036854775807:=hg_p0.1
 have hM:=Qbu.eq_1 p0 p1
 refine ad 18 ?_
 refine cd (fun h1=>?_) (fun h1=>?_)
 ·
  have hM:=hM.trans (bt h1)
  refine ad 4 ?_
  exact rz (rs:=[.tmp 4]) (rzI hM)
 ·
  have hM:=hM.trans (bf h1)
  refine ad 7 ?_
  refine Run.loopM (ι:=Int×Nat) (fun s=>Qd8 p0 p1 (p0.length - s.2) s.1 s.2) (fun s=>⟨28,1,[(0,.sl 0 p0.length),(1,.v (.int .i64 s.1)),(5,.v (.int .i64 (s.2:Int)))],[(0,.ros ByteArray instDatByteArray p0)]⟩) (fun s=>s.2≤p0.length) (fun s=>p0.length - s.2) (i64.wrap (p1 - (p0.length:Int)),0) [0] [0] hM lv0 su (by decide) ?_
  rintro ⟨v1,i⟩ hv hE
  try dsimp only at hE
  have hi:=hv
  try dsimp only at hi
  refine ad 8 ?_
  refine cd (fun h2=>?_) (fun h2=>?_)
  ·
   have h2l:i<p0.length:=dtl h2
   have hM:=hE.trans ((congrArg (fun n=>Qd8 p0 p1 n v1 i) (sb1 h2l)).trans (Qd8.eq_2 _ _ _ _ _))
   refine ad 8 ?_
   have hg4:=Qai (k:=i) hg_p0 om
   refine op (ix (xs:=p0) i om) ?_
   refine ad 10 ?_
   refine cd (fun h5=>?_) (fun h5=>?_)
   ·
    have hM:=hM.trans (bt h5)
    refine ad 4 ?_
    exact rz (rs:=[.tmp 4]) (rzI hM)
   ·
    have hM:=hM.trans (bf h5)
    refine ad 5 ?_
    rw[Qb3 (i:=i) om]
    refine ad 2 ?_
    exact Run.again (i64.wrap (v1 - ((nth p0 i).size:Int)),(i+1)) [0] [1] ⟨by first | omega | exact trivial | (dsimp only;omega) | (refine⟨by omega,?_⟩;simp_all;try omega),hM⟩ rfl lv1 su (by decide)
  ·
   have h2l: ¬ (i<p0.length):=dfl h2
   have hM:=hE.trans ((congrArg (fun n=>Qd8 p0 p1 n v1 i) (sb0 h2l)).trans (Qd8.eq_1 _ _ _ _))
   refine ad 6 ?_
   exact rz (rs:=[.tmp 4]) (rzI hM)
def Qe3 (p0:Touch) (p1:Int):Int:=bif decide ((Qbu p0.Reads p1)<0) then(-1) else(bif decide ((Qbu p0.Writes (Qbu p0.Reads p1))<0) then(-1) else(Qbu p0.Writes (Qbu p0.Reads p1)))
theorem Q0l (p0:Touch) (p1:Int):CTs 142 [.o (.st Touch _ inferInstance p0),.o (.c (.int .i64 p1))] [Re.c (.int .i64 (Qe3 p0 p1))]:=by
 refine en Tryz.func142 Tryz.ntmps142 fun w hG hgd=>?_
 obtain⟨hg_p0,_⟩:=hgd
 have hM:=Qe3.eq_1 p0 p1
 refine ad 10 ?_
 refine op (cl (Qll p0.Reads p1) Yha) ?_
 refine ad 8 ?_
 refine cd (fun h1=>?_) (fun h1=>?_)
 ·
  have hM:=hM.trans (bt h1)
  refine ad 4 ?_
  exact rz (rs:=[.tmp 4]) (rzI hM)
 ·
  have hM:=hM.trans (bf h1)
  refine ad 6 ?_
  refine op (cl (Qll p0.Writes (Qbu p0.Reads p1)) Yha) ?_
  refine ad 8 ?_
  refine cd (fun h2=>?_) (fun h2=>?_)
  ·
   have hM:=hM.trans (bt h2)
   refine ad 4 ?_
   exact rz (rs:=[.tmp 4]) (rzI hM)
  ·
   have hM:=hM.trans (bf h2)
   refine ad 6 ?_
   exact rz (rs:=[.tmp 4]) (rzI hM)
def Qhx (p0:List Int) (p1:Int):Int:=bif decide ((i64.wrap (p1 - (p0.length:Int)))<0) then(-1) else(i64.wrap (p1 - (p0.length:Int)))
theorem Q3u (p0:List Int) (p1:Int):CTs 143 [.o (.sl Int instDatInt p0),.o (.c (.int .i64 p1))] [Re.c (.int .i64 (Qhx p0 p1))]:=by
 refine en Tryz.func143 Tryz.ntmps143 fun w hG hgd=>?_
 obtain⟨hg_p0,_⟩:=hgd
 have hl_p0:p0.length≤9223372036854775807:=hg_p0.1
 have hM:=Qhx.eq_1 p0 p1
 refine ad 18 ?_
 refine cd (fun h1=>?_) (fun h1=>?_)
 ·
  have hM:=hM.trans (bt h1)
  refine ad 4 ?_
  exact rz (rs:=[.tmp 4]) (rzI hM)
 ·
  have hM:=hM.trans (bf h1)
  refine ad 6 ?_
  exact rz (rs:=[.tmp 4]) (rzI hM)
def Qih (p0:Tx) (p1:Int):Int:=bif decide ((Qb6 p0.Calls p1)<0) then(-1) else(bif decide ((Qbp p0.Answers (Qb6 p0.Calls p1))<0) then(-1) else(bif decide ((Qe3 p0.Touch (Qbp p0.Answers (Qb6 p0.Calls p1)))<0) then(-1) else(bif decide ((Qhx p0.Marks (Qe3 p0.Touch (Qbp p0.Answers (Qb6 p0.Calls p1))))<0) then(-1) else(Qhx p0.Marks (Qe3 p0.Touch (Qbp p0.Answers (Qb6 p0.Calls p1)))))))
theorem Q7l (p0:Tx) (p1:Int):CTs 75 [.o (.st Tx _ inferInstance p0),.o (.c (.int .i64 p1))] [Re.c (.int .i64 (Qih p0 p1))]:=by
 refine en Tryz.func75 Tryz.ntmps75 fun w hG hgd=>?_
 obtain⟨hg_p0,_⟩:=hgd
 have hM:=Qih.eq_1 p0 p1
 refine ad 10 ?_
 refine op (cl (Q0p p0.Calls p1) Ykq) ?_
 refine ad 8 ?_
 refine cd (fun h1=>?_) (fun h1=>?_)
 ·
  have hM:=hM.trans (bt h1)
  refine ad 4 ?_
  exact rz (rs:=[.tmp 4]) (rzI hM)
 ·
  have hM:=hM.trans (bf h1)
  refine ad 6 ?_
  refine op (cl (Qo7 p0.Answers (Qb6 p0.Calls p1)) Yfy) ?_
  refine ad 8 ?_
  refine cd (fun h2=>?_) (fun h2=>?_)
  ·
   have hM:=hM.trans (bt h2)
   refine ad 4 ?_
   exact rz (rs:=[.tmp 4]) (rzI hM)
  ·
   have hM:=hM.trans (bf h2)
   refine ad 6 ?_
   have hg3:Dat.good (p0.Touch:Touch):=hg_p0.2.2.2.2.2.2.1
   refine op (cl (Q0l p0.Touch (Qbp p0.Answers (Qb6 p0.Calls p1))) Ykp) ?_
   refine ad 8 ?_
   refine cd (fun h4=>?_) (fun h4=>?_)
   ·
    have hM:=hM.trans (bt h4)
    refine ad 4 ?_
    exact rz (rs:=[.tmp 4]) (rzI hM)
   ·
    have hM:=hM.trans (bf h4)
    refine ad 6 ?_
    refine op (cl (Q3u p0.Marks (Qe3 p0.Touch (Qbp p0.Answers (Qb6 p0.Calls p1)))) Yko) ?_
    refine ad 8 ?_
    refine cd (fun h5=>?_) (fun h5=>?_)
    ·
     have hM:=hM.trans (bt h5)
     refine ad 4 ?_
     exact rz (rs:=[.tmp 4]) (rzI hM)
    ·
     have hM:=hM.trans (bf h5)
     refine ad 6 ?_
     exact rz (rs:=[.tmp 4]) (rzI hM)
def Qgl (p0:List Tx) (p1:Int):Nat→Int→Nat→Int
 | 0,v1,i=>v1
 | n+1,v1,i=>bif decide ((Qih (nth p0 i) v1)<0) then(-1) else(Qgl p0 p1 n (Qih (nth p0 i) v1) (i+1))
def Qdn (p0:List Tx) (p1:Int):Int:=bif decide ((i64.wrap (p1 - (p0.length:Int)))<0) then(-1) else(Qgl p0 p1 (p0.length - 0) (i64.wrap (p1 - (p0.length:Int))) 0)
theorem Q6d (p0:List Tx) (p1:Int):CTs 32 [.o (.sl Tx instDatTx p0),.o (.c (.int .i64 p1))] [Re.c (.int .i64 (Qdn p0 p1))]:=by
 refine en Tryz.func32 Tryz.ntmps32 fun w hG hgd=>?_
 obtain⟨hg_p0,_⟩:=hgd
 have hl_p0:p0.length≤9223372036854775807:=hg_p0.1
 have hM:=Qdn.eq_1 p0 p1
 refine ad 18 ?_
 refine cd (fun h1=>?_) (fun h1=>?_)
 ·
  have hM:=hM.trans (bt h1)
  refine ad 4 ?_
  exact rz (rs:=[.tmp 4]) (rzI hM)
 ·
  have hM:=hM.trans (bf h1)
  refine ad 7 ?_
  refine Run.loopM (ι:=Int×Nat) (fun s=>Qgl p0 p1 (p0.length - s.2) s.1 s.2) (fun s=>⟨27,1,[(0,.sl 0 p0.length),(1,.v (.int .i64 s.1)),(5,.v (.int .i64 (s.2:Int)))],[(0,.ros Tx instDatTx p0)]⟩) (fun s=>s.2≤p0.length) (fun s=>p0.length - s.2) (i64.wrap (p1 - (p0.length:Int)),0) [0] [0] hM lv0 su (by decide) ?_
  rintro ⟨v1,i⟩ hv hE
  try dsimp only at hE
  have hi:=hv
  try dsimp only at hi
  refine ad 8 ?_
  refine cd (fun h2=>?_) (fun h2=>?_)
  ·
   have h2l:i<p0.length:=dtl h2
   have hM:=hE.trans ((congrArg (fun n=>Qgl p0 p1 n v1 i) (sb1 h2l)).trans (Qgl.eq_2 _ _ _ _ _))
   refine ad 7 ?_
   have hg4:=Qai (k:=i) hg_p0 om
   refine op (ix (xs:=p0) i om) ?_
   refine ad 2 ?_
   have hg5:Dat.good (nth p0 i:Tx):=hg4
   refine op (cl (Q7l (nth p0 i) v1) Yna) ?_
   refine ad 7 ?_
   refine cd (fun h6=>?_) (fun h6=>?_)
   ·
    have hM:=hM.trans (bt h6)
    refine ad 4 ?_
    exact rz (rs:=[.tmp 4]) (rzI hM)
   ·
    have hM:=hM.trans (bf h6)
    refine ad 5 ?_
    rw[Qb3 (i:=i) om]
    refine ad 2 ?_
    exact Run.again ((Qih (nth p0 i) v1),(i+1)) [0] [6] ⟨by first | omega | exact trivial | (dsimp only;omega) | (refine⟨by omega,?_⟩;simp_all;try omega),hM⟩ rfl lv1 su (by decide)
  ·
   have h2l: ¬ (i<p0.length):=dfl h2
   have hM:=hE.trans ((congrArg (fun n=>Qgl p0 p1 n v1 i) (sb0 h2l)).trans (Qgl.eq_1 _ _ _ _))
   refine ad 6 ?_
   exact rz (rs:=[.tmp 4]) (rzI hM)
def Qgy (p0:Slot) (p1:Int):Int:=bif decide ((Qbh p0.Cells p1)<0) then(-1) else(Qbh p0.Cells p1)
theorem Q3t (p0:Slot) (p1:Int):CTs 144 [.o (.st Slot _ inferInstance p0),.o (.c (.int .i64 p1))] [Re.c (.int .i64 (Qgy p0 p1))]:=by
 refine en Tryz.func144 Tryz.ntmps144 fun w hG hgd=>?_
 obtain⟨hg_p0,_⟩:=hgd
 have hM:=Qgy.eq_1 p0 p1
 refine ad 10 ?_
 refine op (cl (Qra p0.Cells p1) Yik) ?_
 refine ad 8 ?_
 refine cd (fun h1=>?_) (fun h1=>?_)
 ·
  have hM:=hM.trans (bt h1)
  refine ad 4 ?_
  exact rz (rs:=[.tmp 4]) (rzI hM)
 ·
  have hM:=hM.trans (bf h1)
  refine ad 6 ?_
  exact rz (rs:=[.tmp 4]) (rzI hM)
def Qfk (p0:List Slot) (p1:Int):Nat→Int→Nat→Int
 | 0,v1,i=>v1
 | n+1,v1,i=>bif decide ((Qgy (nth p0 i) v1)<0) then(-1) else(Qfk p0 p1 n (Qgy (nth p0 i) v1) (i+1))
def Qe5 (p0:List Slot) (p1:Int):Int:=bif decide ((i64.wrap (p1 - (p0.length:Int)))<0) then(-1) else(Qfk p0 p1 (p0.length - 0) (i64.wrap (p1 - (p0.length:Int))) 0)
theorem Q0n (p0:List Slot) (p1:Int):CTs 76 [.o (.sl Slot instDatSlot p0),.o (.c (.int .i64 p1))] [Re.c (.int .i64 (Qe5 p0 p1))]:=by
 refine en Tryz.func76 Tryz.ntmps76 fun w hG hgd=>?_
 obtain⟨hg_p0,_⟩:=hgd
 have hl_p0:p0.length≤9223372036854775807:=hg_p0.1
 have hM:=Qe5.eq_1 p0 p1
 refine ad 18 ?_
 refine cd (fun h1=>?_) (fun h1=>?_)
 ·
  have hM:=hM.trans (bt h1)
  refine ad 4 ?_
  exact rz (rs:=[.tmp 4]) (rzI hM)
 ·
  have hM:=hM.trans (bf h1)
  refine ad 7 ?_
  refine Run.loopM (ι:=Int×Nat) (fun s=>Qfk p0 p1 (p0.length - s.2) s.1 s.2) (fun s=>⟨27,1,[(0,.sl 0 p0.length),(1,.v (.int .i64 s.1)),(5,.v (.int .i64 (s.2:Int)))],[(0,.ros Slot instDatSlot p0)]⟩) (fun s=>s.2≤p0.length) (fun s=>p0.length - s.2) (i64.wrap (p1 - (p0.length:Int)),0) [0] [0] hM lv0 su (by decide) ?_
  rintro ⟨v1,i⟩ hv hE
  try dsimp only at hE
  have hi:=hv
  try dsimp only at hi
  refine ad 8 ?_
  refine cd (fun h2=>?_) (fun h2=>?_)
  ·
   have h2l:i<p0.length:=dtl h2
   have hM:=hE.trans ((congrArg (fun n=>Qfk p0 p1 n v1 i) (sb1 h2l)).trans (Qfk.eq_2 _ _ _ _ _))
   refine ad 7 ?_
   have hg4:=Qai (k:=i) hg_p0 om
   refine op (ix (xs:=p0) i om) ?_
   refine ad 2 ?_
   have hg5:Dat.good (nth p0 i:Slot):=hg4
   refine op (cl (Q3t (nth p0 i) v1) Ykn) ?_
   refine ad 7 ?_
   refine cd (fun h6=>?_) (fun h6=>?_)
   ·
    have hM:=hM.trans (bt h6)
    refine ad 4 ?_
    exact rz (rs:=[.tmp 4]) (rzI hM)
   ·
    have hM:=hM.trans (bf h6)
    refine ad 5 ?_
    rw[Qb3 (i:=i) om]
    refine ad 2 ?_
    exact Run.again ((Qgy (nth p0 i) v1),(i+1)) [0] [2] ⟨by first | omega | exact trivial | (dsimp only;omega) | (refine⟨by omega,?_⟩;simp_all;try omega),hM⟩ rfl lv1 su (by decide)
  ·
   have h2l: ¬ (i<p0.length):=dfl h2
   have hM:=hE.trans ((congrArg (fun n=>Qfk p0 p1 n v1 i) (sb0 h2l)).trans (Qfk.eq_1 _ _ _ _))
   refine ad 6 ?_
   exact rz (rs:=[.tmp 4]) (rzI hM)
def Qf4 (p0:Journal) (p1:Int):Int:=bif decide ((i64.wrap (p1 - (p0.Text.size:Int)))<0) then(-1) else(i64.wrap (p1 - (p0.Text.size:Int)))
theorem Qw7 (p0:Journal) (p1:Int):CTs 77 [.o (.st Journal _ inferInstance p0),.o (.c (.int .i64 p1))] [Re.c (.int .i64 (Qf4 p0 p1))]:=by
 refine en Tryz.func77 Tryz.ntmps77 fun w hG hgd=>?_
 obtain⟨hg_p0,_⟩:=hgd
 have hM:=Qf4.eq_1 p0 p1
 refine ad 20 ?_
 refine cd (fun h1=>?_) (fun h1=>?_)
 ·
  have hM:=hM.trans (bt h1)
  refine ad 4 ?_
  exact rz (rs:=[.tmp 4]) (rzI hM)
 ·
  have hM:=hM.trans (bf h1)
  refine ad 6 ?_
  exact rz (rs:=[.tmp 4]) (rzI hM)
def Qdw (p0:Disk) (p1:Int):Int:=bif decide ((Qe5 p0.Slots p1)<0) then(-1) else(bif decide ((Qf4 p0.Journal (Qe5 p0.Slots p1))<0) then(-1) else(Qf4 p0.Journal (Qe5 p0.Slots p1)))
theorem Q3v (p0:Disk) (p1:Int):CTs 33 [.o (.st Disk _ inferInstance p0),.o (.c (.int .i64 p1))] [Re.c (.int .i64 (Qdw p0 p1))]:=by
 refine en Tryz.func33 Tryz.ntmps33 fun w hG hgd=>?_
 obtain⟨hg_p0,_⟩:=hgd
 have hM:=Qdw.eq_1 p0 p1
 refine ad 10 ?_
 refine op (cl (Q0n p0.Slots p1) Ym9) ?_
 refine ad 8 ?_
 refine cd (fun h1=>?_) (fun h1=>?_)
 ·
  have hM:=hM.trans (bt h1)
  refine ad 4 ?_
  exact rz (rs:=[.tmp 4]) (rzI hM)
 ·
  have hM:=hM.trans (bf h1)
  refine ad 6 ?_
  have hg2:Dat.good (p0.Journal:Journal):=hg_p0.2
  refine op (cl (Qw7 p0.Journal (Qe5 p0.Slots p1)) Ym8) ?_
  refine ad 8 ?_
  refine cd (fun h3=>?_) (fun h3=>?_)
  ·
   have hM:=hM.trans (bt h3)
   refine ad 4 ?_
   exact rz (rs:=[.tmp 4]) (rzI hM)
  ·
   have hM:=hM.trans (bf h3)
   refine ad 6 ?_
   exact rz (rs:=[.tmp 4]) (rzI hM)
def Qgx (p0:Step) (p1:Int):Int:=bif decide ((Qfn p0.Call p1)<0) then(-1) else(Qfn p0.Call p1)
theorem Q3s (p0:Step) (p1:Int):CTs 208 [.o (.st Step _ inferInstance p0),.o (.c (.int .i64 p1))] [Re.c (.int .i64 (Qgx p0 p1))]:=by
 refine en Tryz.func208 Tryz.ntmps208 fun w hG hgd=>?_
 obtain⟨hg_p0,_⟩:=hgd
 have hM:=Qgx.eq_1 p0 p1
 refine ad 10 ?_
 have hg1:Dat.good (p0.Call:Call):=hg_p0.2
 refine op (cl (Qto p0.Call p1) Yfk) ?_
 refine ad 8 ?_
 refine cd (fun h2=>?_) (fun h2=>?_)
 ·
  have hM:=hM.trans (bt h2)
  refine ad 4 ?_
  exact rz (rs:=[.tmp 4]) (rzI hM)
 ·
  have hM:=hM.trans (bf h2)
  refine ad 6 ?_
  exact rz (rs:=[.tmp 4]) (rzI hM)
def Qfj (p0:List Step) (p1:Int):Nat→Int→Nat→Int
 | 0,v1,i=>v1
 | n+1,v1,i=>bif decide ((Qgx (nth p0 i) v1)<0) then(-1) else(Qfj p0 p1 n (Qgx (nth p0 i) v1) (i+1))
def Qe4 (p0:List Step) (p1:Int):Int:=bif decide ((i64.wrap (p1 - (p0.length:Int)))<0) then(-1) else(Qfj p0 p1 (p0.length - 0) (i64.wrap (p1 - (p0.length:Int))) 0)
theorem Q0m (p0:List Step) (p1:Int):CTs 145 [.o (.sl Step instDatStep p0),.o (.c (.int .i64 p1))] [Re.c (.int .i64 (Qe4 p0 p1))]:=by
 refine en Tryz.func145 Tryz.ntmps145 fun w hG hgd=>?_
 obtain⟨hg_p0,_⟩:=hgd
 have hl_p0:p0.length≤9223372036854775807:=hg_p0.1
 have hM:=Qe4.eq_1 p0 p1
 refine ad 18 ?_
 refine cd (fun h1=>?_) (fun h1=>?_)
 ·
  have hM:=hM.trans (bt h1)
  refine ad 4 ?_
  exact rz (rs:=[.tmp 4]) (rzI hM)
 ·
  have hM:=hM.trans (bf h1)
  refine ad 7 ?_
  refine Run.loopM (ι:=Int×Nat) (fun s=>Qfj p0 p1 (p0.length - s.2) s.1 s.2) (fun s=>⟨27,1,[(0,.sl 0 p0.length),(1,.v (.int .i64 s.1)),(5,.v (.int .i64 (s.2:Int)))],[(0,.ros Step instDatStep p0)]⟩) (fun s=>s.2≤p0.length) (fun s=>p0.length - s.2) (i64.wrap (p1 - (p0.length:Int)),0) [0] [0] hM lv0 su (by decide) ?_
  rintro ⟨v1,i⟩ hv hE
  try dsimp only at hE
  have hi:=hv
  try dsimp only at hi
  refine ad 8 ?_
  refine cd (fun h2=>?_) (fun h2=>?_)
  ·
   have h2l:i<p0.length:=dtl h2
   have hM:=hE.trans ((congrArg (fun n=>Qfj p0 p1 n v1 i) (sb1 h2l)).trans (Qfj.eq_2 _ _ _ _ _))
   refine ad 7 ?_
   have hg4:=Qai (k:=i) hg_p0 om
   refine op (ix (xs:=p0) i om) ?_
   refine ad 2 ?_
   have hg5:Dat.good (nth p0 i:Step):=hg4
   refine op (cl (Q3s (nth p0 i) v1) Yjj) ?_
   refine ad 7 ?_
   refine cd (fun h6=>?_) (fun h6=>?_)
   ·
    have hM:=hM.trans (bt h6)
    refine ad 4 ?_
    exact rz (rs:=[.tmp 4]) (rzI hM)
   ·
    have hM:=hM.trans (bf h6)
    refine ad 5 ?_
    rw[Qb3 (i:=i) om]
    refine ad 2 ?_
    exact Run.again ((Qgx (nth p0 i) v1),(i+1)) [0] [1] ⟨by first | omega | exact trivial | (dsimp only;omega) | (refine⟨by omega,?_⟩;simp_all;try omega),hM⟩ rfl lv1 su (by decide)
  ·
   have h2l: ¬ (i<p0.length):=dfl h2
   have hM:=hE.trans ((congrArg (fun n=>Qfj p0 p1 n v1 i) (sb0 h2l)).trans (Qfj.eq_1 _ _ _ _))
   refine ad 6 ?_
   exact rz (rs:=[.tmp 4]) (rzI hM)
def Qf9 (p0:Entry) (p1:Int):Int:=bif decide ((Qe4 p0.Steps p1)<0) then(-1) else(bif decide ((Qbp p0.Answers (Qe4 p0.Steps p1))<0) then(-1) else(Qbp p0.Answers (Qe4 p0.Steps p1)))
theorem Q0o (p0:Entry) (p1:Int):CTs 78 [.o (.st Entry _ inferInstance p0),.o (.c (.int .i64 p1))] [Re.c (.int .i64 (Qf9 p0 p1))]:=by
 refine en Tryz.func78 Tryz.ntmps78 fun w hG hgd=>?_
 obtain⟨hg_p0,_⟩:=hgd
 have hM:=Qf9.eq_1 p0 p1
 refine ad 10 ?_
 refine op (cl (Q0m p0.Steps p1) Ykm) ?_
 refine ad 8 ?_
 refine cd (fun h1=>?_) (fun h1=>?_)
 ·
  have hM:=hM.trans (bt h1)
  refine ad 4 ?_
  exact rz (rs:=[.tmp 4]) (rzI hM)
 ·
  have hM:=hM.trans (bf h1)
  refine ad 6 ?_
  refine op (cl (Qo7 p0.Answers (Qe4 p0.Steps p1)) Yfy) ?_
  refine ad 8 ?_
  refine cd (fun h2=>?_) (fun h2=>?_)
  ·
   have hM:=hM.trans (bt h2)
   refine ad 4 ?_
   exact rz (rs:=[.tmp 4]) (rzI hM)
  ·
   have hM:=hM.trans (bf h2)
   refine ad 6 ?_
   exact rz (rs:=[.tmp 4]) (rzI hM)
def Qet (p0:List Entry) (p1:Int):Nat→Int→Nat→Int
 | 0,v1,i=>v1
 | n+1,v1,i=>bif decide ((Qf9 (nth p0 i) v1)<0) then(-1) else(Qet p0 p1 n (Qf9 (nth p0 i) v1) (i+1))
def Qd9 (p0:List Entry) (p1:Int):Int:=bif decide ((i64.wrap (p1 - (p0.length:Int)))<0) then(-1) else(Qet p0 p1 (p0.length - 0) (i64.wrap (p1 - (p0.length:Int))) 0)
theorem Qy7 (p0:List Entry) (p1:Int):CTs 34 [.o (.sl Entry instDatEntry p0),.o (.c (.int .i64 p1))] [Re.c (.int .i64 (Qd9 p0 p1))]:=by
 refine en Tryz.func34 Tryz.ntmps34 fun w hG hgd=>?_
 obtain⟨hg_p0,_⟩:=hgd
 have hl_p0:p0.length≤9223372036854775807:=hg_p0.1
 have hM:=Qd9.eq_1 p0 p1
 refine ad 18 ?_
 refine cd (fun h1=>?_) (fun h1=>?_)
 ·
  have hM:=hM.trans (bt h1)
  refine ad 4 ?_
  exact rz (rs:=[.tmp 4]) (rzI hM)
 ·
  have hM:=hM.trans (bf h1)
  refine ad 7 ?_
  refine Run.loopM (ι:=Int×Nat) (fun s=>Qet p0 p1 (p0.length - s.2) s.1 s.2) (fun s=>⟨27,1,[(0,.sl 0 p0.length),(1,.v (.int .i64 s.1)),(5,.v (.int .i64 (s.2:Int)))],[(0,.ros Entry instDatEntry p0)]⟩) (fun s=>s.2≤p0.length) (fun s=>p0.length - s.2) (i64.wrap (p1 - (p0.length:Int)),0) [0] [0] hM lv0 su (by decide) ?_
  rintro ⟨v1,i⟩ hv hE
  try dsimp only at hE
  have hi:=hv
  try dsimp only at hi
  refine ad 8 ?_
  refine cd (fun h2=>?_) (fun h2=>?_)
  ·
   have h2l:i<p0.length:=dtl h2
   have hM:=hE.trans ((congrArg (fun n=>Qet p0 p1 n v1 i) (sb1 h2l)).trans (Qet.eq_2 _ _ _ _ _))
   refine ad 7 ?_
   have hg4:=Qai (k:=i) hg_p0 om
   refine op (ix (xs:=p0) i om) ?_
   refine ad 2 ?_
   have hg5:Dat.good (nth p0 i:Entry):=hg4
   refine op (cl (Q0o (nth p0 i) v1) Ym7) ?_
   refine ad 7 ?_
   refine cd (fun h6=>?_) (fun h6=>?_)
   ·
    have hM:=hM.trans (bt h6)
    refine ad 4 ?_
    exact rz (rs:=[.tmp 4]) (rzI hM)
   ·
    have hM:=hM.trans (bf h6)
    refine ad 5 ?_
    rw[Qb3 (i:=i) om]
    refine ad 2 ?_
    exact Run.again ((Qf9 (nth p0 i) v1),(i+1)) [0] [3] ⟨by first | omega | exact trivial | (dsimp only;omega) | (refine⟨by omega,?_⟩;simp_all;try omega),hM⟩ rfl lv1 su (by decide)
  ·
   have h2l: ¬ (i<p0.length):=dfl h2
   have hM:=hE.trans ((congrArg (fun n=>Qet p0 p1 n v1 i) (sb0 h2l)).trans (Qet.eq_1 _ _ _ _))
   refine ad 6 ?_
   exact rz (rs:=[.tmp 4]) (rzI hM)
def Qg9 (p0:Kernel) (p1:Int):Int:=bif decide ((Qbh p0.Store p1)<0) then(-1) else(bif decide ((Qdn p0.Txs (Qbh p0.Store p1))<0) then(-1) else(bif decide ((Qdw p0.Disk (Qdn p0.Txs (Qbh p0.Store p1)))<0) then(-1) else(bif decide ((Qd9 p0.History (Qdw p0.Disk (Qdn p0.Txs (Qbh p0.Store p1))))<0) then(-1) else(bif decide ((Qbu p0.Seen (Qd9 p0.History (Qdw p0.Disk (Qdn p0.Txs (Qbh p0.Store p1)))))<0) then(-1) else(Qbu p0.Seen (Qd9 p0.History (Qdw p0.Disk (Qdn p0.Txs (Qbh p0.Store p1)))))))))
theorem Qy6 (p0:Kernel) (p1:Int):CTs 9 [.o (.st Kernel _ inferInstance p0),.o (.c (.int .i64 p1))] [Re.c (.int .i64 (Qg9 p0 p1))]:=by
 refine en Tryz.func9 Tryz.ntmps9 fun w hG hgd=>?_
 obtain⟨hg_p0,_⟩:=hgd
 have hM:=Qg9.eq_1 p0 p1
 refine ad 10 ?_
 refine op (cl (Qra p0.Store p1) Yik) ?_
 refine ad 8 ?_
 refine cd (fun h1=>?_) (fun h1=>?_)
 ·
  have hM:=hM.trans (bt h1)
  refine ad 4 ?_
  exact rz (rs:=[.tmp 4]) (rzI hM)
 ·
  have hM:=hM.trans (bf h1)
  refine ad 6 ?_
  refine op (cl (Q6d p0.Txs (Qbh p0.Store p1)) Ynt) ?_
  refine ad 8 ?_
  refine cd (fun h2=>?_) (fun h2=>?_)
  ·
   have hM:=hM.trans (bt h2)
   refine ad 4 ?_
   exact rz (rs:=[.tmp 4]) (rzI hM)
  ·
   have hM:=hM.trans (bf h2)
   refine ad 6 ?_
   have hg3:Dat.good (p0.Disk:Disk):=hg_p0.2.2.1
   refine op (cl (Q3v p0.Disk (Qdn p0.Txs (Qbh p0.Store p1))) Yns) ?_
   refine ad 8 ?_
   refine cd (fun h4=>?_) (fun h4=>?_)
   ·
    have hM:=hM.trans (bt h4)
    refine ad 4 ?_
    exact rz (rs:=[.tmp 4]) (rzI hM)
   ·
    have hM:=hM.trans (bf h4)
    refine ad 6 ?_
    refine op (cl (Qy7 p0.History (Qdw p0.Disk (Qdn p0.Txs (Qbh p0.Store p1)))) Ynr) ?_
    refine ad 8 ?_
    refine cd (fun h5=>?_) (fun h5=>?_)
    ·
     have hM:=hM.trans (bt h5)
     refine ad 4 ?_
     exact rz (rs:=[.tmp 4]) (rzI hM)
    ·
     have hM:=hM.trans (bf h5)
     refine ad 6 ?_
     refine op (cl (Qll p0.Seen (Qd9 p0.History (Qdw p0.Disk (Qdn p0.Txs (Qbh p0.Store p1))))) Yha) ?_
     refine ad 8 ?_
     refine cd (fun h6=>?_) (fun h6=>?_)
     ·
      have hM:=hM.trans (bt h6)
      refine ad 4 ?_
      exact rz (rs:=[.tmp 4]) (rzI hM)
     ·
      have hM:=hM.trans (bf h6)
      refine ad 6 ?_
      exact rz (rs:=[.tmp 4]) (rzI hM)
end
section
theorem Ye5 {α:Type} [Inhabited α] {xs:List α} {i:Nat} {x:α} (h:xs[i]?=some x):nth xs i=x:=by
 simp[nth,List.getD_eq_getElem?_getD,h]
def szL {α:Type} [Inhabited α] (f:α→Int→Int) (xs:List α):Nat→Int→Nat→Int
 | 0,s,_=>s
 | n+1,s,i=>bif decide (f (nth xs i) s<0) then(-1) else szL f xs n (f (nth xs i) s) (i+1)
theorem Qk1 {α:Type} [Inhabited α] [Dat α] {f:α→Int→Int} {xs:List α} (hf: ∀ x s,0≤s→s≤1048576→Dat.good x→ ¬ f x s<0→Dat.small 1048576 x∧0≤f x s∧f x s≤1048576) (hg: ∀ x∈xs,Dat.good x):
  ∀ (n:Nat) (s:Int) (i:Nat),n=xs.length - i→0≤s→s≤1048576→ ¬ szL f xs n s i<0→(∀ j x,i≤j→xs[j]?=some x→Dat.small 1048576 x)∧0≤szL f xs n s i∧szL f xs n s i≤1048576:=by
 intro n
 induction n with
 | zero =>
  intro s i hn h0 h1 _
  refine⟨fun j x hj hx=>?_,h0,h1⟩
  have:=(List.getElem?_eq_some_iff.1 hx).1
  omega
 | succ n ih =>
  intro s i hn h0 h1 h
  unfold szL at h ⊢
  by_cases hc:f (nth xs i) s<0
  ·rw[decide_eq_true hc] at h
   exact absurd (show((-1:Int))<0 by decide) h
  ·rw[decide_eq_false hc] at h ⊢
   have hi:i<xs.length:=by omega
   have hx:xs[i]?=some xs[i]:=List.getElem?_eq_getElem hi
   have hgi:Dat.good (nth xs i):=by rw[Ye5 hx];exact hg _ (List.getElem_mem hi)
   obtain⟨h2,h3,h4⟩:=hf _ _ h0 h1 hgi hc
   obtain⟨h5,h6,h7⟩:=ih _ (i+1) (by omega) h3 h4 h
   refine⟨fun j x hj hjx=>?_,h6,h7⟩
   by_cases e:j=i
   ·subst e
    rw[←Ye5 hjx]
    exact h2
   ·exact h5 j x (by omega) hjx
theorem Qm7 {s:ByteArray} (h:Dat.good s):s.size≤9223372036854775807:=by
 have h':s.size≤maxLen:=h
 unfold maxLen at h'
 omega
theorem Qg3 {a:Int} {n:Nat} (h0:0≤a) (h1:a≤1048576) (hn:n≤9223372036854775807):i64.wrap (a - (n:Int))=a - n:=IntWalk.i64_in _ (by omega)
def Qix (x:ByteArray) (s:Int):Int:=i64.wrap (s - (x.size:Int))
theorem Qru (p0:ByteArray) (p1:Int) (h0:0≤p1) (h1:p1≤1048576) (hg:Dat.good p0) (h: ¬ Qix p0 p1<0):Dat.small 1048576 p0∧0≤Qix p0 p1∧Qix p0 p1≤1048576:=by
 unfold Qix at h ⊢
 rw[Qg3 h0 h1 (Qm7 hg)] at h ⊢
 have e:p0.size≤1048576:=by omega
 exact⟨e,by omega,by omega⟩
theorem Qge {a:Int} {x:Int} (h: ¬ (bif decide (a<0) then(-1:Int) else x)<0): ¬ a<0:=fun hc=>h (by rw[decide_eq_true hc];show(-1:Int)<0;decide)
theorem Quc (p0:Cell) (p1:Int) (h0:0≤p1) (h1:p1≤1048576) (hg:Dat.good p0) (h: ¬ Qgz p0 p1<0):Dat.small 1048576 p0∧0≤Qgz p0 p1∧Qgz p0 p1≤1048576:=by
 unfold Qgz at h ⊢
 obtain⟨g0,g1⟩:=hg
 rw[Qg3 (a:=p1) h0 h1 (n:=p0.Key.size) (Qm7 g0)] at h ⊢
 have c1: ¬ (p1 - (p0.Key.size:Int))<0:=Qge h
 rw[decide_eq_false c1,cond_false] at h ⊢
 have b1:0≤(p1 - (p0.Key.size:Int)):=by omega
 have e1:(p1 - (p0.Key.size:Int))≤1048576:=by omega
 have s0:p0.Key.size≤1048576:=by omega
 rw[Qg3 (a:=(p1 - (p0.Key.size:Int))) b1 e1 (n:=p0.Val.size) (Qm7 g1)] at h ⊢
 have c2: ¬ ((p1 - (p0.Key.size:Int)) - (p0.Val.size:Int))<0:=Qge h
 rw[decide_eq_false c2,cond_false] at h ⊢
 have b2:0≤((p1 - (p0.Key.size:Int)) - (p0.Val.size:Int)):=by omega
 have e2:((p1 - (p0.Key.size:Int)) - (p0.Val.size:Int))≤1048576:=by omega
 have s1:p0.Val.size≤1048576:=by omega
 exact⟨⟨s0,s1⟩,b2,e2⟩
theorem Qsz (p0:List Cell) (p1:Int): ∀ n s i,Qfl p0 p1 n s i=szL Qgz p0 n s i:=by
 intro n
 induction n with
 | zero=>intro s i;rfl
 | succ n ih=>intro s i;rw[Qfl,szL,ih]
theorem Qm4 (p0:List Cell) (p1:Int) (h0:0≤p1) (h1:p1≤1048576) (hg:Dat.good p0) (h: ¬ Qbh p0 p1<0):Dat.small 1048576 p0∧0≤Qbh p0 p1∧Qbh p0 p1≤1048576:=by
 unfold Qbh at h ⊢
 rw[Qg3 h0 h1 hg.1] at h ⊢
 have hc:=Qge h
 rw[decide_eq_false hc,cond_false,Qsz] at h ⊢
 obtain⟨h2,h3,h4⟩:=Qk1 (f:=Qgz) (xs:=p0) Quc hg.2 _ _ 0 rfl (by omega) (by omega) h
 refine⟨⟨by omega,fun x hx=>?_⟩,h3,h4⟩
 obtain⟨j,hj⟩:=List.getElem?_of_mem hx
 exact h2 j x (Nat.zero_le _) hj
theorem Qn4 (p0:Call) (p1:Int) (h0:0≤p1) (h1:p1≤1048576) (hg:Dat.good p0) (h: ¬ Qfn p0 p1<0):Dat.small 1048576 p0∧0≤Qfn p0 p1∧Qfn p0 p1≤1048576:=by
 unfold Qfn at h ⊢
 obtain⟨g0,g1,g2,g3,g4,g5⟩:=hg
 rw[Qg3 (a:=p1) h0 h1 (n:=p0.Name.size) (Qm7 g1)] at h ⊢
 have c1: ¬ (p1 - (p0.Name.size:Int))<0:=Qge h
 rw[decide_eq_false c1,cond_false] at h ⊢
 have b1:0≤(p1 - (p0.Name.size:Int)):=by omega
 have e1:(p1 - (p0.Name.size:Int))≤1048576:=by omega
 have s1:p0.Name.size≤1048576:=by omega
 rw[Qg3 (a:=(p1 - (p0.Name.size:Int))) b1 e1 (n:=p0.To.size) (Qm7 g2)] at h ⊢
 have c2: ¬ ((p1 - (p0.Name.size:Int)) - (p0.To.size:Int))<0:=Qge h
 rw[decide_eq_false c2,cond_false] at h ⊢
 have b2:0≤((p1 - (p0.Name.size:Int)) - (p0.To.size:Int)):=by omega
 have e2:((p1 - (p0.Name.size:Int)) - (p0.To.size:Int))≤1048576:=by omega
 have s2:p0.To.size≤1048576:=by omega
 rw[Qg3 (a:=((p1 - (p0.Name.size:Int)) - (p0.To.size:Int))) b2 e2 (n:=p0.Text.size) (Qm7 g5)] at h ⊢
 have c3: ¬ (((p1 - (p0.Name.size:Int)) - (p0.To.size:Int)) - (p0.Text.size:Int))<0:=Qge h
 rw[decide_eq_false c3,cond_false] at h ⊢
 have b3:0≤(((p1 - (p0.Name.size:Int)) - (p0.To.size:Int)) - (p0.Text.size:Int)):=by omega
 have e3:(((p1 - (p0.Name.size:Int)) - (p0.To.size:Int)) - (p0.Text.size:Int))≤1048576:=by omega
 have s5:p0.Text.size≤1048576:=by omega
 exact⟨⟨trivial,s1,s2,trivial,trivial,s5⟩,b3,e3⟩
theorem Qs1 (p0:List Call) (p1:Int): ∀ n s i,Qfm p0 p1 n s i=szL Qfn p0 n s i:=by
 intro n
 induction n with
 | zero=>intro s i;rfl
 | succ n ih=>intro s i;rw[Qfm,szL,ih]
theorem Qs0 (p0:List Call) (p1:Int) (h0:0≤p1) (h1:p1≤1048576) (hg:Dat.good p0) (h: ¬ Qb6 p0 p1<0):Dat.small 1048576 p0∧0≤Qb6 p0 p1∧Qb6 p0 p1≤1048576:=by
 unfold Qb6 at h ⊢
 rw[Qg3 h0 h1 hg.1] at h ⊢
 have hc:=Qge h
 rw[decide_eq_false hc,cond_false,Qs1] at h ⊢
 obtain⟨h2,h3,h4⟩:=Qk1 (f:=Qfn) (xs:=p0) Qn4 hg.2 _ _ 0 rfl (by omega) (by omega) h
 refine⟨⟨by omega,fun x hx=>?_⟩,h3,h4⟩
 obtain⟨j,hj⟩:=List.getElem?_of_mem hx
 exact h2 j x (Nat.zero_le _) hj
theorem Qry (p0:Answer) (p1:Int) (h0:0≤p1) (h1:p1≤1048576) (hg:Dat.good p0) (h: ¬ Qfo p0 p1<0):Dat.small 1048576 p0∧0≤Qfo p0 p1∧Qfo p0 p1≤1048576:=by
 unfold Qfo at h ⊢
 obtain⟨g0,g1,g2⟩:=hg
 rw[Qg3 (a:=p1) h0 h1 (n:=p0.Text.size) (Qm7 g2)] at h ⊢
 have c1: ¬ (p1 - (p0.Text.size:Int))<0:=Qge h
 rw[decide_eq_false c1,cond_false] at h ⊢
 have b1:0≤(p1 - (p0.Text.size:Int)):=by omega
 have e1:(p1 - (p0.Text.size:Int))≤1048576:=by omega
 have s2:p0.Text.size≤1048576:=by omega
 exact⟨⟨trivial,trivial,s2⟩,b1,e1⟩
theorem Qqs (p0:List Answer) (p1:Int): ∀ n s i,Qea p0 p1 n s i=szL Qfo p0 n s i:=by
 intro n
 induction n with
 | zero=>intro s i;rfl
 | succ n ih=>intro s i;rw[Qea,szL,ih]
theorem Qln (p0:List Answer) (p1:Int) (h0:0≤p1) (h1:p1≤1048576) (hg:Dat.good p0) (h: ¬ Qbp p0 p1<0):Dat.small 1048576 p0∧0≤Qbp p0 p1∧Qbp p0 p1≤1048576:=by
 unfold Qbp at h ⊢
 rw[Qg3 h0 h1 hg.1] at h ⊢
 have hc:=Qge h
 rw[decide_eq_false hc,cond_false,Qqs] at h ⊢
 obtain⟨h2,h3,h4⟩:=Qk1 (f:=Qfo) (xs:=p0) Qry hg.2 _ _ 0 rfl (by omega) (by omega) h
 refine⟨⟨by omega,fun x hx=>?_⟩,h3,h4⟩
 obtain⟨j,hj⟩:=List.getElem?_of_mem hx
 exact h2 j x (Nat.zero_le _) hj
theorem Qqq (p0:List ByteArray) (p1:Int): ∀ n s i,Qd8 p0 p1 n s i=szL Qix p0 n s i:=by
 intro n
 induction n with
 | zero=>intro s i;rfl
 | succ n ih=>intro s i;rw[Qd8,szL,ih];rfl
theorem Qi2 (p0:List ByteArray) (p1:Int) (h0:0≤p1) (h1:p1≤1048576) (hg:Dat.good p0) (h: ¬ Qbu p0 p1<0):Dat.small 1048576 p0∧0≤Qbu p0 p1∧Qbu p0 p1≤1048576:=by
 unfold Qbu at h ⊢
 rw[Qg3 h0 h1 hg.1] at h ⊢
 have hc:=Qge h
 rw[decide_eq_false hc,cond_false,Qqq] at h ⊢
 obtain⟨h2,h3,h4⟩:=Qk1 (f:=Qix) (xs:=p0) Qru hg.2 _ _ 0 rfl (by omega) (by omega) h
 refine⟨⟨by omega,fun x hx=>?_⟩,h3,h4⟩
 obtain⟨j,hj⟩:=List.getElem?_of_mem hx
 exact h2 j x (Nat.zero_le _) hj
theorem Qst (p0:Touch) (p1:Int) (h0:0≤p1) (h1:p1≤1048576) (hg:Dat.good p0) (h: ¬ Qe3 p0 p1<0):Dat.small 1048576 p0∧0≤Qe3 p0 p1∧Qe3 p0 p1≤1048576:=by
 unfold Qe3 at h ⊢
 obtain⟨g0,g1⟩:=hg
 have c1: ¬ (Qbu p0.Reads p1)<0:=Qge h
 rw[decide_eq_false c1,cond_false] at h ⊢
 obtain⟨s0,b1,e1⟩:=Qi2 p0.Reads p1 h0 h1 g0 c1
 have c2: ¬ (Qbu p0.Writes (Qbu p0.Reads p1))<0:=Qge h
 rw[decide_eq_false c2,cond_false] at h ⊢
 obtain⟨s1,b2,e2⟩:=Qi2 p0.Writes (Qbu p0.Reads p1) b1 e1 g1 c2
 exact⟨⟨s0,s1⟩,b2,e2⟩
theorem Qua (p0:List Int) (p1:Int) (h0:0≤p1) (h1:p1≤1048576) (hg:Dat.good p0) (h: ¬ Qhx p0 p1<0):Dat.small 1048576 p0∧0≤Qhx p0 p1∧Qhx p0 p1≤1048576:=by
 unfold Qhx at h ⊢
 rw[Qg3 h0 h1 hg.1] at h ⊢
 have hc:=Qge h
 rw[decide_eq_false hc] at h ⊢
 exact⟨⟨by omega,fun _ _=>trivial⟩,by show 0≤p1 - (p0.length:Int);omega,by show p1 - (p0.length:Int)≤1048576;omega⟩
theorem Qyg (p0:Tx) (p1:Int) (h0:0≤p1) (h1:p1≤1048576) (hg:Dat.good p0) (h: ¬ Qih p0 p1<0):Dat.small 1048576 p0∧0≤Qih p0 p1∧Qih p0 p1≤1048576:=by
 unfold Qih at h ⊢
 obtain⟨g0,g1,g2,g3,g4,g5,g6,g7,g8⟩:=hg
 have c1: ¬ (Qb6 p0.Calls p1)<0:=Qge h
 rw[decide_eq_false c1,cond_false] at h ⊢
 obtain⟨s4,b1,e1⟩:=Qs0 p0.Calls p1 h0 h1 g4 c1
 have c2: ¬ (Qbp p0.Answers (Qb6 p0.Calls p1))<0:=Qge h
 rw[decide_eq_false c2,cond_false] at h ⊢
 obtain⟨s5,b2,e2⟩:=Qln p0.Answers (Qb6 p0.Calls p1) b1 e1 g5 c2
 have c3: ¬ (Qe3 p0.Touch (Qbp p0.Answers (Qb6 p0.Calls p1)))<0:=Qge h
 rw[decide_eq_false c3,cond_false] at h ⊢
 obtain⟨s6,b3,e3⟩:=Qst p0.Touch (Qbp p0.Answers (Qb6 p0.Calls p1)) b2 e2 g6 c3
 have c4: ¬ (Qhx p0.Marks (Qe3 p0.Touch (Qbp p0.Answers (Qb6 p0.Calls p1))))<0:=Qge h
 rw[decide_eq_false c4,cond_false] at h ⊢
 obtain⟨s7,b4,e4⟩:=Qua p0.Marks (Qe3 p0.Touch (Qbp p0.Answers (Qb6 p0.Calls p1))) b3 e3 g7 c4
 exact⟨⟨trivial,trivial,trivial,trivial,s4,s5,s6,s7,trivial⟩,b4,e4⟩
theorem Qws (p0:List Tx) (p1:Int): ∀ n s i,Qgl p0 p1 n s i=szL Qih p0 n s i:=by
 intro n
 induction n with
 | zero=>intro s i;rfl
 | succ n ih=>intro s i;rw[Qgl,szL,ih]
theorem Qwr (p0:List Tx) (p1:Int) (h0:0≤p1) (h1:p1≤1048576) (hg:Dat.good p0) (h: ¬ Qdn p0 p1<0):Dat.small 1048576 p0∧0≤Qdn p0 p1∧Qdn p0 p1≤1048576:=by
 unfold Qdn at h ⊢
 rw[Qg3 h0 h1 hg.1] at h ⊢
 have hc:=Qge h
 rw[decide_eq_false hc,cond_false,Qws] at h ⊢
 obtain⟨h2,h3,h4⟩:=Qk1 (f:=Qih) (xs:=p0) Qyg hg.2 _ _ 0 rfl (by omega) (by omega) h
 refine⟨⟨by omega,fun x hx=>?_⟩,h3,h4⟩
 obtain⟨j,hj⟩:=List.getElem?_of_mem hx
 exact h2 j x (Nat.zero_le _) hj
theorem Qt9 (p0:Slot) (p1:Int) (h0:0≤p1) (h1:p1≤1048576) (hg:Dat.good p0) (h: ¬ Qgy p0 p1<0):Dat.small 1048576 p0∧0≤Qgy p0 p1∧Qgy p0 p1≤1048576:=by
 unfold Qgy at h ⊢
 obtain⟨g0,g1,g2⟩:=hg
 have c1: ¬ (Qbh p0.Cells p1)<0:=Qge h
 rw[decide_eq_false c1,cond_false] at h ⊢
 obtain⟨s1,b1,e1⟩:=Qm4 p0.Cells p1 h0 h1 g1 c1
 exact⟨⟨trivial,s1,trivial⟩,b1,e1⟩
theorem Qsx (p0:List Slot) (p1:Int): ∀ n s i,Qfk p0 p1 n s i=szL Qgy p0 n s i:=by
 intro n
 induction n with
 | zero=>intro s i;rfl
 | succ n ih=>intro s i;rw[Qfk,szL,ih]
theorem Qsw (p0:List Slot) (p1:Int) (h0:0≤p1) (h1:p1≤1048576) (hg:Dat.good p0) (h: ¬ Qe5 p0 p1<0):Dat.small 1048576 p0∧0≤Qe5 p0 p1∧Qe5 p0 p1≤1048576:=by
 unfold Qe5 at h ⊢
 rw[Qg3 h0 h1 hg.1] at h ⊢
 have hc:=Qge h
 rw[decide_eq_false hc,cond_false,Qsx] at h ⊢
 obtain⟨h2,h3,h4⟩:=Qk1 (f:=Qgy) (xs:=p0) Qt9 hg.2 _ _ 0 rfl (by omega) (by omega) h
 refine⟨⟨by omega,fun x hx=>?_⟩,h3,h4⟩
 obtain⟨j,hj⟩:=List.getElem?_of_mem hx
 exact h2 j x (Nat.zero_le _) hj
theorem Qqr (p0:Journal) (p1:Int) (h0:0≤p1) (h1:p1≤1048576) (hg:Dat.good p0) (h: ¬ Qf4 p0 p1<0):Dat.small 1048576 p0∧0≤Qf4 p0 p1∧Qf4 p0 p1≤1048576:=by
 unfold Qf4 at h ⊢
 obtain⟨g0,g1⟩:=hg
 rw[Qg3 (a:=p1) h0 h1 (n:=p0.Text.size) (Qm7 g0)] at h ⊢
 have c1: ¬ (p1 - (p0.Text.size:Int))<0:=Qge h
 rw[decide_eq_false c1,cond_false] at h ⊢
 have b1:0≤(p1 - (p0.Text.size:Int)):=by omega
 have e1:(p1 - (p0.Text.size:Int))≤1048576:=by omega
 have s0:p0.Text.size≤1048576:=by omega
 exact⟨⟨s0,trivial⟩,b1,e1⟩
theorem Qub (p0:Disk) (p1:Int) (h0:0≤p1) (h1:p1≤1048576) (hg:Dat.good p0) (h: ¬ Qdw p0 p1<0):Dat.small 1048576 p0∧0≤Qdw p0 p1∧Qdw p0 p1≤1048576:=by
 unfold Qdw at h ⊢
 obtain⟨g0,g1⟩:=hg
 have c1: ¬ (Qe5 p0.Slots p1)<0:=Qge h
 rw[decide_eq_false c1,cond_false] at h ⊢
 obtain⟨s0,b1,e1⟩:=Qsw p0.Slots p1 h0 h1 g0 c1
 have c2: ¬ (Qf4 p0.Journal (Qe5 p0.Slots p1))<0:=Qge h
 rw[decide_eq_false c2,cond_false] at h ⊢
 obtain⟨s1,b2,e2⟩:=Qqr p0.Journal (Qe5 p0.Slots p1) b1 e1 g1 c2
 exact⟨⟨s0,s1⟩,b2,e2⟩
theorem Qt8 (p0:Step) (p1:Int) (h0:0≤p1) (h1:p1≤1048576) (hg:Dat.good p0) (h: ¬ Qgx p0 p1<0):Dat.small 1048576 p0∧0≤Qgx p0 p1∧Qgx p0 p1≤1048576:=by
 unfold Qgx at h ⊢
 obtain⟨g0,g1⟩:=hg
 have c1: ¬ (Qfn p0.Call p1)<0:=Qge h
 rw[decide_eq_false c1,cond_false] at h ⊢
 obtain⟨s1,b1,e1⟩:=Qn4 p0.Call p1 h0 h1 g1 c1
 exact⟨⟨trivial,s1⟩,b1,e1⟩
theorem Qsv (p0:List Step) (p1:Int): ∀ n s i,Qfj p0 p1 n s i=szL Qgx p0 n s i:=by
 intro n
 induction n with
 | zero=>intro s i;rfl
 | succ n ih=>intro s i;rw[Qfj,szL,ih]
theorem Qsu (p0:List Step) (p1:Int) (h0:0≤p1) (h1:p1≤1048576) (hg:Dat.good p0) (h: ¬ Qe4 p0 p1<0):Dat.small 1048576 p0∧0≤Qe4 p0 p1∧Qe4 p0 p1≤1048576:=by
 unfold Qe4 at h ⊢
 rw[Qg3 h0 h1 hg.1] at h ⊢
 have hc:=Qge h
 rw[decide_eq_false hc,cond_false,Qsv] at h ⊢
 obtain⟨h2,h3,h4⟩:=Qk1 (f:=Qgx) (xs:=p0) Qt8 hg.2 _ _ 0 rfl (by omega) (by omega) h
 refine⟨⟨by omega,fun x hx=>?_⟩,h3,h4⟩
 obtain⟨j,hj⟩:=List.getElem?_of_mem hx
 exact h2 j x (Nat.zero_le _) hj
theorem Qsy (p0:Entry) (p1:Int) (h0:0≤p1) (h1:p1≤1048576) (hg:Dat.good p0) (h: ¬ Qf9 p0 p1<0):Dat.small 1048576 p0∧0≤Qf9 p0 p1∧Qf9 p0 p1≤1048576:=by
 unfold Qf9 at h ⊢
 obtain⟨g0,g1,g2,g3,g4,g5,g6,g7⟩:=hg
 have c1: ¬ (Qe4 p0.Steps p1)<0:=Qge h
 rw[decide_eq_false c1,cond_false] at h ⊢
 obtain⟨s3,b1,e1⟩:=Qsu p0.Steps p1 h0 h1 g3 c1
 have c2: ¬ (Qbp p0.Answers (Qe4 p0.Steps p1))<0:=Qge h
 rw[decide_eq_false c2,cond_false] at h ⊢
 obtain⟨s4,b2,e2⟩:=Qln p0.Answers (Qe4 p0.Steps p1) b1 e1 g4 c2
 exact⟨⟨trivial,trivial,trivial,s3,s4,trivial,trivial,trivial⟩,b2,e2⟩
theorem Qrx (p0:List Entry) (p1:Int): ∀ n s i,Qet p0 p1 n s i=szL Qf9 p0 n s i:=by
 intro n
 induction n with
 | zero=>intro s i;rfl
 | succ n ih=>intro s i;rw[Qet,szL,ih]
theorem Qrw (p0:List Entry) (p1:Int) (h0:0≤p1) (h1:p1≤1048576) (hg:Dat.good p0) (h: ¬ Qd9 p0 p1<0):Dat.small 1048576 p0∧0≤Qd9 p0 p1∧Qd9 p0 p1≤1048576:=by
 unfold Qd9 at h ⊢
 rw[Qg3 h0 h1 hg.1] at h ⊢
 have hc:=Qge h
 rw[decide_eq_false hc,cond_false,Qrx] at h ⊢
 obtain⟨h2,h3,h4⟩:=Qk1 (f:=Qf9) (xs:=p0) Qsy hg.2 _ _ 0 rfl (by omega) (by omega) h
 refine⟨⟨by omega,fun x hx=>?_⟩,h3,h4⟩
 obtain⟨j,hj⟩:=List.getElem?_of_mem hx
 exact h2 j x (Nat.zero_le _) hj
theorem Qrv (p0:Kernel) (p1:Int) (h0:0≤p1) (h1:p1≤1048576) (hg:Dat.good p0) (h: ¬ Qg9 p0 p1<0):Dat.small 1048576 p0∧0≤Qg9 p0 p1∧Qg9 p0 p1≤1048576:=by
 unfold Qg9 at h ⊢
 obtain⟨g0,g1,g2,g3,g4,g5,g6,g7,g8⟩:=hg
 have c1: ¬ (Qbh p0.Store p1)<0:=Qge h
 rw[decide_eq_false c1,cond_false] at h ⊢
 obtain⟨s0,b1,e1⟩:=Qm4 p0.Store p1 h0 h1 g0 c1
 have c2: ¬ (Qdn p0.Txs (Qbh p0.Store p1))<0:=Qge h
 rw[decide_eq_false c2,cond_false] at h ⊢
 obtain⟨s1,b2,e2⟩:=Qwr p0.Txs (Qbh p0.Store p1) b1 e1 g1 c2
 have c3: ¬ (Qdw p0.Disk (Qdn p0.Txs (Qbh p0.Store p1)))<0:=Qge h
 rw[decide_eq_false c3,cond_false] at h ⊢
 obtain⟨s2,b3,e3⟩:=Qub p0.Disk (Qdn p0.Txs (Qbh p0.Store p1)) b2 e2 g2 c3
 have c4: ¬ (Qd9 p0.History (Qdw p0.Disk (Qdn p0.Txs (Qbh p0.Store p1))))<0:=Qge h
 rw[decide_eq_false c4,cond_false] at h ⊢
 obtain⟨s6,b4,e4⟩:=Qrw p0.History (Qdw p0.Disk (Qdn p0.Txs (Qbh p0.Store p1))) b3 e3 g6 c4
 have c5: ¬ (Qbu p0.Seen (Qd9 p0.History (Qdw p0.Disk (Qdn p0.Txs (Qbh p0.Store p1)))))<0:=Qge h
 rw[decide_eq_false c5,cond_false] at h ⊢
 obtain⟨s7,b5,e5⟩:=Qi2 p0.Seen (Qd9 p0.History (Qdw p0.Disk (Qdn p0.Txs (Qbh p0.Store p1)))) b4 e4 g7 c5
 exact⟨⟨s0,s1,s2,trivial,trivial,trivial,s6,s7,trivial⟩,b5,e5⟩
end
end Go.Proofs.YtppialklomgajaaGreatDoor.Fw
