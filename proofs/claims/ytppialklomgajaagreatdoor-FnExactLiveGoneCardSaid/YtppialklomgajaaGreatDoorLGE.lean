/-
  The texts X5, X6, VP, VR, PS, PT, X1, Sy11, X2, X3, X4, X8, X9, XB, XC, XA, HZ, HP of this proof, one behind the other: what each proves stands at its head. No condition.
-/
import Derived.Lib.ShelfFacts
import Derived.Test.YtppialklomgajaaGreatDoorLGA
import Derived.Test.YtppialklomgajaaGreatDoorLGB
import Derived.Test.YtppialklomgajaaGreatDoorLGC
import Derived.Test.YtppialklomgajaaGreatDoorLGD
set_option linter.unusedVariables false
set_option linter.unusedSimpArgs false
set_option maxRecDepth 100000
namespace Go.Proofs.YtppialklomgajaaGreatDoor.Fw
open Go.RowKit
open IntKind (i64)
section
theorem Yga:FnOk Tryz.prog 189:=⟨_,Tryz.func189,rfl,by kernel_rfl⟩
theorem Ylh:FnOk Tryz.prog 190:=⟨_,Tryz.func190,rfl,by kernel_rfl⟩
theorem Yru:FnOk Tryz.prog 232:=⟨_,Tryz.func232,rfl,by kernel_rfl⟩
theorem Qyq:FnOk Tryz.prog 258:=⟨_,Tryz.func258,rfl,by kernel_rfl⟩
theorem Yoc:FnOk Tryz.prog 259:=⟨_,Tryz.func259,rfl,by kernel_rfl⟩
theorem Yrh:FnOk Tryz.prog 260:=⟨_,Tryz.func260,rfl,by kernel_rfl⟩
def Qbg (p0:List Call):(List Call):=(([]:List Call)++p0)
theorem Qdi (p0:List Call) (hb:p0.length≤1073741824):CTs 258 [.o (.sl Call instDatCall p0)] [Re.sl Call instDatCall (Qbg p0)]:=by
 refine en Tryz.func258 Tryz.ntmps258 fun w hG hgd=>?_
 obtain⟨hg_p0,_⟩:=hgd
 have hl_p0:p0.length≤9223372036854775807:=hg_p0.1
 have hM:=Qbg.eq_1 p0
 refine ad 8 ?_
 refine ox nl fun nb1 hnb1=>?_
 refine ad 1 ?_
 refine cd (fun h2=>?_) (fun h2=>?_)
 ·
  obtain rfl:p0=[]:=hnb1 h2
  have hM:Qbg []=[]:=rfl
  refine ad 4 ?_
  exact rz (rs:=[.tmp 2]) (congrArg (fun x=>[Re.sl Call instDatCall x]) hM)
 ·
  refine ad 3 ?_
  refine op (l0) ?_
  refine ad 1 ?_
  refine li 1 (d:=instDatCall) ([]:List Call) ?_
  refine op (aS (dα:=instDatCall) (e:=149) (by':=72) ([]:List Call) p0 [1] (hb:=by(try simp only[List.length_append,List.length_cons,List.length_nil]);first | omega | exact om) (hm:=by(try simp only[List.length_append,List.length_cons,List.length_nil]);first | omega | exact om)) ?_
  refine ad 2 ?_
  exact rz (rs:=[.tmp 2]) (congrArg (fun x=>[Re.sl Call instDatCall x]) hM)
def Qfe (p0:List Int):(List Int):=(([]:List Int)++p0)
theorem Qlu (p0:List Int) (hb:p0.length≤1073741824):CTs 259 [.o (.sl Int instDatInt p0)] [Re.sl Int instDatInt (Qfe p0)]:=by
 refine en Tryz.func259 Tryz.ntmps259 fun w hG hgd=>?_
 obtain⟨hg_p0,_⟩:=hgd
 have hl_p0:p0.length≤9223372036854775807:=hg_p0.1
 have hM:=Qfe.eq_1 p0
 refine ad 8 ?_
 refine ox nl fun nb1 hnb1=>?_
 refine ad 1 ?_
 refine cd (fun h2=>?_) (fun h2=>?_)
 ·
  obtain rfl:p0=[]:=hnb1 h2
  have hM:Qfe []=[]:=rfl
  refine ad 4 ?_
  exact rz (rs:=[.tmp 2]) (congrArg (fun x=>[Re.sl Int instDatInt x]) hM)
 ·
  refine ad 3 ?_
  refine op (l0) ?_
  refine ad 1 ?_
  refine li 1 (d:=instDatInt) ([]:List Int) ?_
  refine op (aS (dα:=instDatInt) (e:=3) (by':=8) ([]:List Int) p0 [1] (hb:=by(try simp only[List.length_append,List.length_cons,List.length_nil]);first | omega | exact om) (hm:=by(try simp only[List.length_append,List.length_cons,List.length_nil]);first | omega | exact om)) ?_
  refine ad 2 ?_
  exact rz (rs:=[.tmp 2]) (congrArg (fun x=>[Re.sl Int instDatInt x]) hM)
def Qc5 (p0:List ByteArray):(List ByteArray):=(([]:List ByteArray)++p0)
theorem Qhp (p0:List ByteArray) (hb:p0.length≤1073741824):CTs 190 [.o (.sl ByteArray instDatByteArray p0)] [Re.sl ByteArray instDatByteArray (Qc5 p0)]:=by
 refine en Tryz.func190 Tryz.ntmps190 fun w hG hgd=>?_
 obtain⟨hg_p0,_⟩:=hgd
 have hl_p0:p0.length≤9223372036854775807:=hg_p0.1
 have hM:=Qc5.eq_1 p0
 refine ad 8 ?_
 refine ox nl fun nb1 hnb1=>?_
 refine ad 1 ?_
 refine cd (fun h2=>?_) (fun h2=>?_)
 ·
  obtain rfl:p0=[]:=hnb1 h2
  have hM:Qc5 []=[]:=rfl
  refine ad 4 ?_
  exact rz (rs:=[.tmp 2]) (congrArg (fun x=>[Re.sl ByteArray instDatByteArray x]) hM)
 ·
  refine ad 3 ?_
  refine op (l0) ?_
  refine ad 1 ?_
  refine li 1 (d:=instDatByteArray) ([]:List ByteArray) ?_
  refine op (aS (dα:=instDatByteArray) (e:=9) (by':=16) ([]:List ByteArray) p0 [1] (hb:=by(try simp only[List.length_append,List.length_cons,List.length_nil]);first | omega | exact om) (hm:=by(try simp only[List.length_append,List.length_cons,List.length_nil]);first | omega | exact om)) ?_
  refine ad 2 ?_
  exact rz (rs:=[.tmp 2]) (congrArg (fun x=>[Re.sl ByteArray instDatByteArray x]) hM)
def Qh5 (p0:Touch):Touch:=(Touch.mk (Qc5 p0.Reads) (Qc5 p0.Writes))
theorem Qrx (p0:Touch) (hs:Dat.small 1048576 p0):CTs 260 [.o (.st Touch _ inferInstance p0)] [Re.st Touch _ inferInstance (Qh5 p0)]:=by
 refine en Tryz.func260 Tryz.ntmps260 fun w hG hgd=>?_
 obtain⟨hg_p0,_⟩:=hgd
 have hM:=Qh5.eq_1 p0
 have hx0:p0.Reads.length≤1048576:=hs.1.1
 have hx1:p0.Writes.length≤1048576:=hs.2.1
 refine ad 6 ?_
 refine ds 8 [1,2,3] fun _ _ _ _ _ hb=>?_
 refine tk [0,1,3,4] ?_
 refine ong 2 [2,3,4] (clg (Qhp p0.Reads lv2) Ylh) fun hgq=>?_
 obtain⟨hg1,_⟩:=hgq
 refine ong 5 [3,4,5] (clg (Qhp p0.Writes lv2) Ylh) fun hgq=>?_
 obtain⟨hg2,_⟩:=hgq
 refine tk [6] ?_
 refine onS 7 [3,4,5] (OpS.st rfl) ?_
 refine dn hb ?_
 have hg3:Dat.good (Touch.mk (Qc5 p0.Reads) (Qc5 p0.Writes):Touch):=⟨hg1,hg2⟩
 exact rz (rs:=[.cell 2 117]) (congrArg (fun x=>[Re.st Touch _ inferInstance x]) hM)
def Qhz (p0:Tx):Tx:=(Tx.mk p0.Id p0.Age p0.Proc p0.Began (Qbg p0.Calls) (Qaz p0.Answers) (Qh5 p0.Touch) (Qfe p0.Marks) p0.State)
def zT0 (p0:Tx):Nat×En:=(5,.var [.v (.int .i64 p0.Id),.v (.int .i64 p0.Age),.v (.int .i64 p0.Proc),.v (.int .i64 p0.Began),.sl 0 p0.Calls.length,.sl 1 p0.Answers.length,.sl 2 p0.Touch.Reads.length,.sl 3 p0.Touch.Writes.length,.sl 4 p0.Marks.length,.v (.int .i64 p0.State)] 119)
def zT1 (p0:Tx):Nat×En:=(6,.var [.v (.int .i64 0),.v (.int .i64 0),.v (.int .i64 0),.v (.int .i64 0),.v (.slice none 0 0),.v (.slice none 0 0),.v (.slice none 0 0),.v (.slice none 0 0),.v (.slice none 0 0),.v (.int .i64 0)] 119)
def zT2 (p0:Tx):Nat×En:=(3,.ros ByteArray instDatByteArray p0.Touch.Writes)
def zT3 (p0:Tx):Nat×En:=(2,.ros ByteArray instDatByteArray p0.Touch.Reads)
def zT4 (p0:Tx):Nat×V:=(13,.ag [.sl 2 p0.Touch.Reads.length,.sl 3 p0.Touch.Writes.length])
def zT5 (p0:Tx):Nat×En:=(1,.ros Answer instDatAnswer p0.Answers)
def zT6 (p0:Tx):Nat×En:=(0,.ros Call instDatCall p0.Calls)
def zT7 (p0:Tx):Nat×En:=(4,.ros Int instDatInt p0.Marks)
def zT8 (p0:Tx):Nat×En:=(7,.own Call instDatCall (Qbg p0.Calls))
def zT9 (p0:Tx):Nat×V:=(5,.sl 7 ((Qbg p0.Calls).length))
def zT10 (p0:Tx):Nat×En:=(8,.own Answer instDatAnswer (Qaz p0.Answers))
def zT11 (p0:Tx):Nat×V:=(8,.sl 8 ((Qaz p0.Answers).length))
theorem Q1h (p0:Tx) (hs:Dat.small 1048576 p0):CTs 232 [.o (.st Tx _ inferInstance p0)] [Re.st Tx _ inferInstance (Qhz p0)]:=by
 refine en Tryz.func232 Tryz.ntmps232 fun w hG hgd=>?_
 obtain⟨hg_p0,_⟩:=hgd
 have hM:=Qhz.eq_1 p0
 have hx0:p0.Calls.length≤1048576:=hs.2.2.2.2.1.1
 have hx1:p0.Answers.length≤1048576:=hs.2.2.2.2.2.1.1
 have hx2:p0.Touch.Reads.length≤1048576:=hs.2.2.2.2.2.2.1.1.1
 have hx3:p0.Touch.Writes.length≤1048576:=hs.2.2.2.2.2.2.1.2.1
 have hx4:p0.Marks.length≤1048576:=hs.2.2.2.2.2.2.2.1.1
 have hstT:Dat.small 1048576 p0.Touch:=hs.2.2.2.2.2.2.1
 refine ad 6 ?_
 refine ds 20 [0,2,3,4,5,6] fun _ _ _ _ _ hb=>?_
 refine tk [0,3,6,9] ?_
 refine Qfb (P:=Dat.good (Qbg p0.Calls:List Call)∧Dat.good (Qaz p0.Answers:List Answer)∧Dat.good (Qfe p0.Marks:List Int)) 20 8 [0,1,2,3,4,5,6,7,8,9,10,12] ⟨20,10,[(1,.pt 5 0),(2,.pt 6 0),zT9 p0,zT11 p0,(11,.sl 9 ((Qfe p0.Marks).length)),zT4 p0,(15,.pt 5 4)],[(9,.own Int instDatInt (Qfe p0.Marks)),zT10 p0,zT8 p0,zT1 p0,zT0 p0,zT6 p0,zT5 p0,zT3 p0,zT2 p0,zT7 p0]⟩ (by dsimp only[zT9,zT11,zT4,zT10,zT8,zT1,zT0,zT6,zT5,zT3,zT2,zT7]) ?_ fun r1=>?_
 ·
  rintro ⟨hg2,hg3,hg4⟩
  have hg5:Dat.good (p0.Touch:Touch):=hg_p0.2.2.2.2.2.2.1
  refine ong 11 [5,7,8,9,10,11] (clg (Qrx p0.Touch (by first | assumption | exact hstT)) Yrh) fun hgq=>?_
  obtain⟨hg6,_⟩:=hgq
  refine on 13 [5,7,8,9,10,11] (OpS.st rfl) ?_
  refine tk [14] ?_
  refine on 15 [5,7,8,9,10,11] (OpS.st rfl) ?_
  refine tk [16] ?_
  refine on 17 [5,7,8,9,10,11] (OpS.st rfl) ?_
  refine tk [18] ?_
  refine on 19 [5,7,8,9,10,11] (OpS.st rfl) ?_
  refine dn hb ?_
  refine ad 5 ?_
  have hg7:Dat.good (Tx.mk p0.Id p0.Age p0.Proc p0.Began (Qbg p0.Calls) (Qaz p0.Answers) (Qh5 p0.Touch) (Qfe p0.Marks) p0.State:Tx):=⟨hg_p0.1,hg_p0.2.1,hg_p0.2.2.1,hg_p0.2.2.2.1,hg2,hg3,hg6,hg4,hg_p0.2.2.2.2.2.2.2.2⟩
  exact rz (rs:=[.cell 2 119]) (congrArg (fun x=>[Re.st Tx _ inferInstance x]) hM)
 refine Qfb (P:=Dat.good (Qbg p0.Calls:List Call)∧Dat.good (Qaz p0.Answers:List Answer)) 20 9 [0,1,2,3,4,5,6,7,9,10,12] ⟨20,9,[(1,.pt 5 0),(2,.pt 6 0),zT9 p0,zT11 p0,(10,.sl 4 p0.Marks.length),zT4 p0,(15,.pt 5 4)],[zT10 p0,zT8 p0,zT1 p0,zT0 p0,zT6 p0,zT5 p0,zT3 p0,zT2 p0,zT7 p0]⟩ (by dsimp only[zT9,zT11,zT4,zT10,zT8,zT1,zT0,zT6,zT5,zT3,zT2,zT7]) ?_ fun r8=>?_
 ·
  rintro ⟨hg9,hg10⟩
  refine ong 8 [3,5,6,7,8,9] (clg (Qlu p0.Marks lv2) Yoc) fun hgq=>?_
  obtain⟨hg11,_⟩:=hgq
  exact dAt [0,1,2,3,4,5,6,7,8,9] [0,1,2,3,4,5,6,7,8,9] [] (r1 ⟨hg9,hg10,hg11⟩) (hs:=su) (hM:=trivial)
 refine Qfb (P:=Dat.good (Qbg p0.Calls:List Call)) 20 10 [0,1,2,3,4,6,7,9,10,12] ⟨20,8,[(1,.pt 5 0),(2,.pt 6 0),zT9 p0,(7,.sl 1 p0.Answers.length),(10,.sl 4 p0.Marks.length),zT4 p0,(15,.pt 5 4)],[zT8 p0,zT1 p0,zT0 p0,zT6 p0,zT5 p0,zT3 p0,zT2 p0,zT7 p0]⟩ (by dsimp only[zT9,zT4,zT8,zT1,zT0,zT6,zT5,zT3,zT2,zT7]) ?_ fun r12=>?_
 ·
  intro hg13
  refine ong 5 [2,4,5,6,7,8] (clg (Qbf p0.Answers lv2) Qlt) fun hgq=>?_
  obtain⟨hg14,_⟩:=hgq
  exact dAt [0,1,2,3,4,5,6,7,8] [0,1,2,3,4,5,6,7,8] [] (r8 ⟨hg13,hg14⟩) (hs:=su) (hM:=trivial)
 refine Qfb (P:=Dat.good (Qbg p0.Calls:List Call)∧Dat.good (Qaz p0.Answers:List Answer)) 20 11 [0,1,2,3,4,5,6,7,9] ⟨20,9,[(1,.pt 5 0),(2,.pt 6 0),zT9 p0,zT11 p0,(10,.sl 4 p0.Marks.length),(12,.pt 5 6)],[zT10 p0,zT8 p0,zT1 p0,zT0 p0,zT6 p0,zT5 p0,zT3 p0,zT2 p0,zT7 p0]⟩ (by dsimp only[zT9,zT11,zT10,zT8,zT1,zT0,zT6,zT5,zT3,zT2,zT7]) ?_ fun r15=>?_
 ·
  rintro ⟨hg16,hg17⟩
  refine oL [8,10] (d2 ?_ (d2 ?_ d0))
  ·
   refine ong1 8 [3,5,6,7,8,9] (clg (Qlu p0.Marks lv2) Yoc) fun hgq=>?_
   obtain⟨hg18,_⟩:=hgq
   refine on 10 [3,5,6,7,8,9] (OpS.st rfl) ?_
   refine tk [12] ?_
   exact dAt [0,1,2,3,4,5,6,7,8,9] [0,1,2,3,4,5,6,7,8,9] [] (r1 ⟨hg16,hg17,hg18⟩) (hs:=su) (hM:=trivial)
  ·
   refine on1 10 [2,4,5,6,7,8] (OpS.st rfl) ?_
   refine tk [12] ?_
   exact dAt [0,1,2,3,4,5,6,7,8] [0,1,2,3,4,5,6,7,8] [] (r8 ⟨hg16,hg17⟩) (hs:=su) (hM:=trivial)
 refine Qfb (P:=Dat.good (Qbg p0.Calls:List Call)∧Dat.good (Qaz p0.Answers:List Answer)) 20 11 [0,1,2,3,4,5,6,9,10] ⟨20,9,[(1,.pt 5 0),(2,.pt 6 0),zT9 p0,zT11 p0,(9,.pt 5 8),zT4 p0],[zT10 p0,zT8 p0,zT1 p0,zT0 p0,zT6 p0,zT5 p0,zT3 p0,zT2 p0,zT7 p0]⟩ (by dsimp only[zT9,zT11,zT4,zT10,zT8,zT1,zT0,zT6,zT5,zT3,zT2,zT7]) ?_ fun r19=>?_
 ·
  rintro ⟨hg20,hg21⟩
  refine on 7 [2,4,5,6,7,8] (OpS.st rfl) ?_
  refine tk [12] ?_
  exact dAt [0,1,2,3,4,5,6,7,8] [0,1,2,3,4,5,6,7,8] [] (r8 ⟨hg20,hg21⟩) (hs:=su) (hM:=trivial)
 refine Qfb (P:=Dat.good (Qbg p0.Calls:List Call)) 20 12 [0,1,2,3,4,6,7,9] ⟨20,8,[(1,.pt 5 0),(2,.pt 6 0),zT9 p0,(7,.sl 1 p0.Answers.length),(10,.sl 4 p0.Marks.length),(12,.pt 5 6)],[zT8 p0,zT1 p0,zT0 p0,zT6 p0,zT5 p0,zT3 p0,zT2 p0,zT7 p0]⟩ (by dsimp only[zT9,zT8,zT1,zT0,zT6,zT5,zT3,zT2,zT7]) ?_ fun r22=>?_
 ·
  intro hg23
  refine oL [5,10] (d2 ?_ (d2 ?_ d0))
  ·
   refine ong1 5 [2,4,5,6,7,8] (clg (Qbf p0.Answers lv2) Qlt) fun hgq=>?_
   obtain⟨hg24,_⟩:=hgq
   exact dAt [0,1,2,3,4,5,6,7,8] [0,1,2,3,4,5,6,7,8] [] (r15 ⟨hg23,hg24⟩) (hs:=su) (hM:=trivial)
  ·
   refine on1 10 [1,3,4,5,6,7] (OpS.st rfl) ?_
   refine tk [12] ?_
   exact dAt [0,1,2,3,4,5,6,7] [0,1,2,3,4,5,6,7] [] (r12 hg23) (hs:=su) (hM:=trivial)
 refine Qfb (P:=Dat.good (Qbg p0.Calls:List Call)) 20 12 [0,1,2,3,4,6,9,10] ⟨20,8,[(1,.pt 5 0),(2,.pt 6 0),zT9 p0,(7,.sl 1 p0.Answers.length),(9,.pt 5 8),zT4 p0],[zT8 p0,zT1 p0,zT0 p0,zT6 p0,zT5 p0,zT3 p0,zT2 p0,zT7 p0]⟩ (by dsimp only[zT9,zT4,zT8,zT1,zT0,zT6,zT5,zT3,zT2,zT7]) ?_ fun r25=>?_
 ·
  intro hg26
  refine oL [5,7] (d2 ?_ (d2 ?_ d0))
  ·
   refine ong1 5 [2,4,5,6,7,8] (clg (Qbf p0.Answers lv2) Qlt) fun hgq=>?_
   obtain⟨hg27,_⟩:=hgq
   exact dAt [0,1,2,3,4,5,6,7,8] [0,1,2,3,4,5,6,7,8] [] (r19 ⟨hg26,hg27⟩) (hs:=su) (hM:=trivial)
  ·
   refine on1 7 [1,3,4,5,6,7] (OpS.st rfl) ?_
   refine tk [12] ?_
   exact dAt [0,1,2,3,4,5,6,7] [0,1,2,3,4,5,6,7] [] (r12 hg26) (hs:=su) (hM:=trivial)
 refine Qfb (P:=Dat.good (Qbg p0.Calls:List Call)) 20 12 [0,1,2,3,6,7,9,10] ⟨20,8,[(1,.pt 5 0),(2,.pt 6 0),zT9 p0,(6,.pt 5 5),(10,.sl 4 p0.Marks.length),zT4 p0],[zT8 p0,zT1 p0,zT0 p0,zT6 p0,zT5 p0,zT3 p0,zT2 p0,zT7 p0]⟩ (by dsimp only[zT9,zT4,zT8,zT1,zT0,zT6,zT5,zT3,zT2,zT7]) ?_ fun r28=>?_
 ·
  intro hg29
  refine on 4 [1,3,4,5,6,7] (OpS.st rfl) ?_
  refine tk [12] ?_
  exact dAt [0,1,2,3,4,5,6,7] [0,1,2,3,4,5,6,7] [] (r12 hg29) (hs:=su) (hM:=trivial)
 refine Qfb (P:=True) 20 12 [0,1,3,4,6,7,9,10] ⟨20,7,[(1,.pt 5 0),(2,.pt 6 0),(4,.sl 0 p0.Calls.length),(7,.sl 1 p0.Answers.length),(10,.sl 4 p0.Marks.length),zT4 p0],[zT1 p0,zT0 p0,zT6 p0,zT5 p0,zT3 p0,zT2 p0,zT7 p0]⟩ (by dsimp only[zT4,zT1,zT0,zT6,zT5,zT3,zT2,zT7]) ?_ fun r30=>?_
 ·
  intro _
  refine ong 2 [1,3,4,5,6,7] (clg (Qdi p0.Calls lv2) Qyq) fun hgq=>?_
  obtain⟨hg31,_⟩:=hgq
  refine tk [12] ?_
  exact dAt [0,1,2,3,4,5,6,7] [0,1,2,3,4,5,6,7] [] (r12 hg31) (hs:=su) (hM:=trivial)
 refine Qfb (P:=Dat.good (Qbg p0.Calls:List Call)) 20 13 [0,1,2,3,4,6,9] ⟨20,8,[(1,.pt 5 0),(2,.pt 6 0),zT9 p0,(7,.sl 1 p0.Answers.length),(9,.pt 5 8),(12,.pt 5 6)],[zT8 p0,zT1 p0,zT0 p0,zT6 p0,zT5 p0,zT3 p0,zT2 p0,zT7 p0]⟩ (by dsimp only[zT9,zT8,zT1,zT0,zT6,zT5,zT3,zT2,zT7]) ?_ fun r32=>?_
 ·
  intro hg33
  refine oL [5,7,10] (d2 ?_ (d2 ?_ (d2 ?_ d0)))
  ·
   refine ong1 5 [2,4,5,6,7,8] (clg (Qbf p0.Answers lv2) Qlt) fun hgq=>?_
   obtain⟨hg34,_⟩:=hgq
   refine oL [7,10] (d2 ?_ (d2 ?_ d0))
   ·
    refine on1 7 [2,4,5,6,7,8] (OpS.st rfl) ?_
    exact dAt [0,1,2,3,4,5,6,7,8] [0,1,2,3,4,5,6,7,8] [] (r15 ⟨hg33,hg34⟩) (hs:=su) (hM:=trivial)
   ·
    refine on1 10 [2,4,5,6,7,8] (OpS.st rfl) ?_
    exact dAt [0,1,2,3,4,5,6,7,8] [0,1,2,3,4,5,6,7,8] [] (r19 ⟨hg33,hg34⟩) (hs:=su) (hM:=trivial)
  ·
   refine on1 7 [1,3,4,5,6,7] (OpS.st rfl) ?_
   exact dAt [0,1,2,3,4,5,6,7] [0,1,2,3,4,5,6,7] [] (r22 hg33) (hs:=su) (hM:=trivial)
  ·
   refine on1 10 [1,3,4,5,6,7] (OpS.st rfl) ?_
   exact dAt [0,1,2,3,4,5,6,7] [0,1,2,3,4,5,6,7] [] (r25 hg33) (hs:=su) (hM:=trivial)
 refine Qfb (P:=Dat.good (Qbg p0.Calls:List Call)) 20 13 [0,1,2,3,6,7,9] ⟨20,8,[(1,.pt 5 0),(2,.pt 6 0),zT9 p0,(6,.pt 5 5),(10,.sl 4 p0.Marks.length),(12,.pt 5 6)],[zT8 p0,zT1 p0,zT0 p0,zT6 p0,zT5 p0,zT3 p0,zT2 p0,zT7 p0]⟩ (by dsimp only[zT9,zT8,zT1,zT0,zT6,zT5,zT3,zT2,zT7]) ?_ fun r35=>?_
 ·
  intro hg36
  refine oL [4,10] (d2 ?_ (d2 ?_ d0))
  ·
   refine on1 4 [1,3,4,5,6,7] (OpS.st rfl) ?_
   exact dAt [0,1,2,3,4,5,6,7] [0,1,2,3,4,5,6,7] [] (r22 hg36) (hs:=su) (hM:=trivial)
  ·
   refine on1 10 [1,3,4,5,6,7] (OpS.st rfl) ?_
   exact dAt [0,1,2,3,4,5,6,7] [0,1,2,3,4,5,6,7] [] (r28 hg36) (hs:=su) (hM:=trivial)
 refine Qfb (P:=Dat.good (Qbg p0.Calls:List Call)) 20 13 [0,1,2,3,6,9,10] ⟨20,8,[(1,.pt 5 0),(2,.pt 6 0),zT9 p0,(6,.pt 5 5),(9,.pt 5 8),zT4 p0],[zT8 p0,zT1 p0,zT0 p0,zT6 p0,zT5 p0,zT3 p0,zT2 p0,zT7 p0]⟩ (by dsimp only[zT9,zT4,zT8,zT1,zT0,zT6,zT5,zT3,zT2,zT7]) ?_ fun r37=>?_
 ·
  intro hg38
  refine oL [4,7] (d2 ?_ (d2 ?_ d0))
  ·
   refine on1 4 [1,3,4,5,6,7] (OpS.st rfl) ?_
   exact dAt [0,1,2,3,4,5,6,7] [0,1,2,3,4,5,6,7] [] (r25 hg38) (hs:=su) (hM:=trivial)
  ·
   refine on1 7 [1,3,4,5,6,7] (OpS.st rfl) ?_
   exact dAt [0,1,2,3,4,5,6,7] [0,1,2,3,4,5,6,7] [] (r28 hg38) (hs:=su) (hM:=trivial)
 refine Qfb (P:=True) 20 13 [0,1,3,4,6,7,9] ⟨20,7,[(1,.pt 5 0),(2,.pt 6 0),(4,.sl 0 p0.Calls.length),(7,.sl 1 p0.Answers.length),(10,.sl 4 p0.Marks.length),(12,.pt 5 6)],[zT1 p0,zT0 p0,zT6 p0,zT5 p0,zT3 p0,zT2 p0,zT7 p0]⟩ (by dsimp only[zT1,zT0,zT6,zT5,zT3,zT2,zT7]) ?_ fun r39=>?_
 ·
  intro _
  refine oL [2,10] (d2 ?_ (d2 ?_ d0))
  ·
   refine ong1 2 [1,3,4,5,6,7] (clg (Qdi p0.Calls lv2) Qyq) fun hgq=>?_
   obtain⟨hg40,_⟩:=hgq
   exact dAt [0,1,2,3,4,5,6,7] [0,1,2,3,4,5,6,7] [] (r22 hg40) (hs:=su) (hM:=trivial)
  ·
   refine on1 10 [0,2,3,4,5,6] (OpS.st rfl) ?_
   exact dAt [0,1,2,3,4,5,6] [0,1,2,3,4,5,6] [] (r30 trivial) (hs:=su) (hM:=trivial)
 refine Qfb (P:=True) 20 13 [0,1,3,4,6,9,10] ⟨20,7,[(1,.pt 5 0),(2,.pt 6 0),(4,.sl 0 p0.Calls.length),(7,.sl 1 p0.Answers.length),(9,.pt 5 8),zT4 p0],[zT1 p0,zT0 p0,zT6 p0,zT5 p0,zT3 p0,zT2 p0,zT7 p0]⟩ (by dsimp only[zT4,zT1,zT0,zT6,zT5,zT3,zT2,zT7]) ?_ fun r41=>?_
 ·
  intro _
  refine oL [2,7] (d2 ?_ (d2 ?_ d0))
  ·
   refine ong1 2 [1,3,4,5,6,7] (clg (Qdi p0.Calls lv2) Qyq) fun hgq=>?_
   obtain⟨hg42,_⟩:=hgq
   exact dAt [0,1,2,3,4,5,6,7] [0,1,2,3,4,5,6,7] [] (r25 hg42) (hs:=su) (hM:=trivial)
  ·
   refine on1 7 [0,2,3,4,5,6] (OpS.st rfl) ?_
   exact dAt [0,1,2,3,4,5,6] [0,1,2,3,4,5,6] [] (r30 trivial) (hs:=su) (hM:=trivial)
 refine Qfb (P:=True) 20 13 [0,1,3,6,7,9,10] ⟨20,7,[(1,.pt 5 0),(2,.pt 6 0),(4,.sl 0 p0.Calls.length),(6,.pt 5 5),(10,.sl 4 p0.Marks.length),zT4 p0],[zT1 p0,zT0 p0,zT6 p0,zT5 p0,zT3 p0,zT2 p0,zT7 p0]⟩ (by dsimp only[zT4,zT1,zT0,zT6,zT5,zT3,zT2,zT7]) ?_ fun r43=>?_
 ·
  intro _
  refine oL [2,4] (d2 ?_ (d2 ?_ d0))
  ·
   refine ong1 2 [1,3,4,5,6,7] (clg (Qdi p0.Calls lv2) Qyq) fun hgq=>?_
   obtain⟨hg44,_⟩:=hgq
   exact dAt [0,1,2,3,4,5,6,7] [0,1,2,3,4,5,6,7] [] (r28 hg44) (hs:=su) (hM:=trivial)
  ·
   refine on1 4 [0,2,3,4,5,6] (OpS.st rfl) ?_
   exact dAt [0,1,2,3,4,5,6] [0,1,2,3,4,5,6] [] (r30 trivial) (hs:=su) (hM:=trivial)
 refine Qfb (P:=True) 20 13 [0,3,4,6,7,9,10] ⟨20,7,[(1,.pt 5 0),(2,.pt 6 0),(3,.pt 5 4),(7,.sl 1 p0.Answers.length),(10,.sl 4 p0.Marks.length),zT4 p0],[zT1 p0,zT0 p0,zT6 p0,zT5 p0,zT3 p0,zT2 p0,zT7 p0]⟩ (by dsimp only[zT4,zT1,zT0,zT6,zT5,zT3,zT2,zT7]) ?_ fun r45=>?_
 ·
  intro _
  refine on 1 [0,2,3,4,5,6] (OpS.st rfl) ?_
  exact dAt [0,1,2,3,4,5,6] [0,1,2,3,4,5,6] [] (r30 trivial) (hs:=su) (hM:=trivial)
 refine Qfb (P:=True) 20 14 [0,1,3,4,6,9] ⟨20,7,[(1,.pt 5 0),(2,.pt 6 0),(4,.sl 0 p0.Calls.length),(7,.sl 1 p0.Answers.length),(9,.pt 5 8),(12,.pt 5 6)],[zT1 p0,zT0 p0,zT6 p0,zT5 p0,zT3 p0,zT2 p0,zT7 p0]⟩ (by dsimp only[zT1,zT0,zT6,zT5,zT3,zT2,zT7]) ?_ fun r46=>?_
 ·
  intro _
  refine oL [2,7,10] (d2 ?_ (d2 ?_ (d2 ?_ d0)))
  ·
   refine ong1 2 [1,3,4,5,6,7] (clg (Qdi p0.Calls lv2) Qyq) fun hgq=>?_
   obtain⟨hg47,_⟩:=hgq
   exact dAt [0,1,2,3,4,5,6,7] [0,1,2,3,4,5,6,7] [] (r32 hg47) (hs:=su) (hM:=trivial)
  ·
   refine on1 7 [0,2,3,4,5,6] (OpS.st rfl) ?_
   exact dAt [0,1,2,3,4,5,6] [0,1,2,3,4,5,6] [] (r39 trivial) (hs:=su) (hM:=trivial)
  ·
   refine on1 10 [0,2,3,4,5,6] (OpS.st rfl) ?_
   exact dAt [0,1,2,3,4,5,6] [0,1,2,3,4,5,6] [] (r41 trivial) (hs:=su) (hM:=trivial)
 refine Qfb (P:=True) 20 14 [0,1,3,6,7,9] ⟨20,7,[(1,.pt 5 0),(2,.pt 6 0),(4,.sl 0 p0.Calls.length),(6,.pt 5 5),(10,.sl 4 p0.Marks.length),(12,.pt 5 6)],[zT1 p0,zT0 p0,zT6 p0,zT5 p0,zT3 p0,zT2 p0,zT7 p0]⟩ (by dsimp only[zT1,zT0,zT6,zT5,zT3,zT2,zT7]) ?_ fun r48=>?_
 ·
  intro _
  refine oL [2,4,10] (d2 ?_ (d2 ?_ (d2 ?_ d0)))
  ·
   refine ong1 2 [1,3,4,5,6,7] (clg (Qdi p0.Calls lv2) Qyq) fun hgq=>?_
   obtain⟨hg49,_⟩:=hgq
   exact dAt [0,1,2,3,4,5,6,7] [0,1,2,3,4,5,6,7] [] (r35 hg49) (hs:=su) (hM:=trivial)
  ·
   refine on1 4 [0,2,3,4,5,6] (OpS.st rfl) ?_
   exact dAt [0,1,2,3,4,5,6] [0,1,2,3,4,5,6] [] (r39 trivial) (hs:=su) (hM:=trivial)
  ·
   refine on1 10 [0,2,3,4,5,6] (OpS.st rfl) ?_
   exact dAt [0,1,2,3,4,5,6] [0,1,2,3,4,5,6] [] (r43 trivial) (hs:=su) (hM:=trivial)
 refine Qfb (P:=True) 20 14 [0,1,3,6,9,10] ⟨20,7,[(1,.pt 5 0),(2,.pt 6 0),(4,.sl 0 p0.Calls.length),(6,.pt 5 5),(9,.pt 5 8),zT4 p0],[zT1 p0,zT0 p0,zT6 p0,zT5 p0,zT3 p0,zT2 p0,zT7 p0]⟩ (by dsimp only[zT4,zT1,zT0,zT6,zT5,zT3,zT2,zT7]) ?_ fun r50=>?_
 ·
  intro _
  refine oL [2,4,7] (d2 ?_ (d2 ?_ (d2 ?_ d0)))
  ·
   refine ong1 2 [1,3,4,5,6,7] (clg (Qdi p0.Calls lv2) Qyq) fun hgq=>?_
   obtain⟨hg51,_⟩:=hgq
   exact dAt [0,1,2,3,4,5,6,7] [0,1,2,3,4,5,6,7] [] (r37 hg51) (hs:=su) (hM:=trivial)
  ·
   refine on1 4 [0,2,3,4,5,6] (OpS.st rfl) ?_
   exact dAt [0,1,2,3,4,5,6] [0,1,2,3,4,5,6] [] (r41 trivial) (hs:=su) (hM:=trivial)
  ·
   refine on1 7 [0,2,3,4,5,6] (OpS.st rfl) ?_
   exact dAt [0,1,2,3,4,5,6] [0,1,2,3,4,5,6] [] (r43 trivial) (hs:=su) (hM:=trivial)
 refine Qfb (P:=True) 20 14 [0,3,4,6,7,9] ⟨20,7,[(1,.pt 5 0),(2,.pt 6 0),(3,.pt 5 4),(7,.sl 1 p0.Answers.length),(10,.sl 4 p0.Marks.length),(12,.pt 5 6)],[zT1 p0,zT0 p0,zT6 p0,zT5 p0,zT3 p0,zT2 p0,zT7 p0]⟩ (by dsimp only[zT1,zT0,zT6,zT5,zT3,zT2,zT7]) ?_ fun r52=>?_
 ·
  intro _
  refine oL [1,10] (d2 ?_ (d2 ?_ d0))
  ·
   refine on1 1 [0,2,3,4,5,6] (OpS.st rfl) ?_
   exact dAt [0,1,2,3,4,5,6] [0,1,2,3,4,5,6] [] (r39 trivial) (hs:=su) (hM:=trivial)
  ·
   refine on1 10 [0,2,3,4,5,6] (OpS.st rfl) ?_
   exact dAt [0,1,2,3,4,5,6] [0,1,2,3,4,5,6] [] (r45 trivial) (hs:=su) (hM:=trivial)
 refine Qfb (P:=True) 20 14 [0,3,4,6,9,10] ⟨20,7,[(1,.pt 5 0),(2,.pt 6 0),(3,.pt 5 4),(7,.sl 1 p0.Answers.length),(9,.pt 5 8),zT4 p0],[zT1 p0,zT0 p0,zT6 p0,zT5 p0,zT3 p0,zT2 p0,zT7 p0]⟩ (by dsimp only[zT4,zT1,zT0,zT6,zT5,zT3,zT2,zT7]) ?_ fun r53=>?_
 ·
  intro _
  refine oL [1,7] (d2 ?_ (d2 ?_ d0))
  ·
   refine on1 1 [0,2,3,4,5,6] (OpS.st rfl) ?_
   exact dAt [0,1,2,3,4,5,6] [0,1,2,3,4,5,6] [] (r41 trivial) (hs:=su) (hM:=trivial)
  ·
   refine on1 7 [0,2,3,4,5,6] (OpS.st rfl) ?_
   exact dAt [0,1,2,3,4,5,6] [0,1,2,3,4,5,6] [] (r45 trivial) (hs:=su) (hM:=trivial)
 refine Qfb (P:=True) 20 14 [0,3,6,7,9,10] ⟨20,7,[(1,.pt 5 0),(2,.pt 6 0),(3,.pt 5 4),(6,.pt 5 5),(10,.sl 4 p0.Marks.length),zT4 p0],[zT1 p0,zT0 p0,zT6 p0,zT5 p0,zT3 p0,zT2 p0,zT7 p0]⟩ (by dsimp only[zT4,zT1,zT0,zT6,zT5,zT3,zT2,zT7]) ?_ fun r54=>?_
 ·
  intro _
  refine oL [1,4] (d2 ?_ (d2 ?_ d0))
  ·
   refine on1 1 [0,2,3,4,5,6] (OpS.st rfl) ?_
   exact dAt [0,1,2,3,4,5,6] [0,1,2,3,4,5,6] [] (r43 trivial) (hs:=su) (hM:=trivial)
  ·
   refine on1 4 [0,2,3,4,5,6] (OpS.st rfl) ?_
   exact dAt [0,1,2,3,4,5,6] [0,1,2,3,4,5,6] [] (r45 trivial) (hs:=su) (hM:=trivial)
 refine oL [1,4,7,10] (d2 ?_ (d2 ?_ (d2 ?_ (d2 ?_ d0))))
 ·
  refine on1 1 [0,2,3,4,5,6] (OpS.st rfl) ?_
  refine oL [2,4,7,10] (d2 ?_ (d2 ?_ (d2 ?_ (d2 ?_ d0))))
  ·
   refine ong1 2 [1,3,4,5,6,7] (clg (Qdi p0.Calls lv2) Qyq) fun hgq=>?_
   obtain⟨hg55,_⟩:=hgq
   refine oL [4,7,10] (d2 ?_ (d2 ?_ (d2 ?_ d0)))
   ·
    refine on1 4 [1,3,4,5,6,7] (OpS.st rfl) ?_
    exact dAt [0,1,2,3,4,5,6,7] [0,1,2,3,4,5,6,7] [] (r32 hg55) (hs:=su) (hM:=trivial)
   ·
    refine on1 7 [1,3,4,5,6,7] (OpS.st rfl) ?_
    exact dAt [0,1,2,3,4,5,6,7] [0,1,2,3,4,5,6,7] [] (r35 hg55) (hs:=su) (hM:=trivial)
   ·
    refine on1 10 [1,3,4,5,6,7] (OpS.st rfl) ?_
    exact dAt [0,1,2,3,4,5,6,7] [0,1,2,3,4,5,6,7] [] (r37 hg55) (hs:=su) (hM:=trivial)
  ·
   refine on1 4 [0,2,3,4,5,6] (OpS.st rfl) ?_
   exact dAt [0,1,2,3,4,5,6] [0,1,2,3,4,5,6] [] (r46 trivial) (hs:=su) (hM:=trivial)
  ·
   refine on1 7 [0,2,3,4,5,6] (OpS.st rfl) ?_
   exact dAt [0,1,2,3,4,5,6] [0,1,2,3,4,5,6] [] (r48 trivial) (hs:=su) (hM:=trivial)
  ·
   refine on1 10 [0,2,3,4,5,6] (OpS.st rfl) ?_
   exact dAt [0,1,2,3,4,5,6] [0,1,2,3,4,5,6] [] (r50 trivial) (hs:=su) (hM:=trivial)
 ·
  refine on1 4 [0,2,3,4,5,6] (OpS.st rfl) ?_
  refine oL [1,7,10] (d2 ?_ (d2 ?_ (d2 ?_ d0)))
  ·
   refine on1 1 [0,2,3,4,5,6] (OpS.st rfl) ?_
   exact dAt [0,1,2,3,4,5,6] [0,1,2,3,4,5,6] [] (r46 trivial) (hs:=su) (hM:=trivial)
  ·
   refine on1 7 [0,2,3,4,5,6] (OpS.st rfl) ?_
   exact dAt [0,1,2,3,4,5,6] [0,1,2,3,4,5,6] [] (r52 trivial) (hs:=su) (hM:=trivial)
  ·
   refine on1 10 [0,2,3,4,5,6] (OpS.st rfl) ?_
   exact dAt [0,1,2,3,4,5,6] [0,1,2,3,4,5,6] [] (r53 trivial) (hs:=su) (hM:=trivial)
 ·
  refine on1 7 [0,2,3,4,5,6] (OpS.st rfl) ?_
  refine oL [1,4,10] (d2 ?_ (d2 ?_ (d2 ?_ d0)))
  ·
   refine on1 1 [0,2,3,4,5,6] (OpS.st rfl) ?_
   exact dAt [0,1,2,3,4,5,6] [0,1,2,3,4,5,6] [] (r48 trivial) (hs:=su) (hM:=trivial)
  ·
   refine on1 4 [0,2,3,4,5,6] (OpS.st rfl) ?_
   exact dAt [0,1,2,3,4,5,6] [0,1,2,3,4,5,6] [] (r52 trivial) (hs:=su) (hM:=trivial)
  ·
   refine on1 10 [0,2,3,4,5,6] (OpS.st rfl) ?_
   exact dAt [0,1,2,3,4,5,6] [0,1,2,3,4,5,6] [] (r54 trivial) (hs:=su) (hM:=trivial)
 ·
  refine on1 10 [0,2,3,4,5,6] (OpS.st rfl) ?_
  refine oL [1,4,7] (d2 ?_ (d2 ?_ (d2 ?_ d0)))
  ·
   refine on1 1 [0,2,3,4,5,6] (OpS.st rfl) ?_
   exact dAt [0,1,2,3,4,5,6] [0,1,2,3,4,5,6] [] (r50 trivial) (hs:=su) (hM:=trivial)
  ·
   refine on1 4 [0,2,3,4,5,6] (OpS.st rfl) ?_
   exact dAt [0,1,2,3,4,5,6] [0,1,2,3,4,5,6] [] (r53 trivial) (hs:=su) (hM:=trivial)
  ·
   refine on1 7 [0,2,3,4,5,6] (OpS.st rfl) ?_
   exact dAt [0,1,2,3,4,5,6] [0,1,2,3,4,5,6] [] (r54 trivial) (hs:=su) (hM:=trivial)
def Qd6 (p0:List Tx):Nat→(List Tx)→Nat→(List Tx)
 | 0,v3,i=>v3
 | n+1,v3,i=>Qd6 p0 n (v3++[(Qhz (nth p0 i))]) (i+1)
def Qfs (p0:List Tx):(List Tx):=Qd6 p0 (p0.length - 0) [] 0
theorem Qjm (p0:List Tx) (hs:Dat.small 1048576 p0):CTs 189 [.o (.sl Tx instDatTx p0)] [Re.sl Tx instDatTx (Qfs p0)]:=by
 refine en Tryz.func189 Tryz.ntmps189 fun w hG hgd=>?_
 obtain⟨hg_p0,_⟩:=hgd
 have hl_p0:p0.length≤9223372036854775807:=hg_p0.1
 have hM:=Qfs.eq_1 p0
 have hs1:p0.length≤1048576:=hs.1
 refine ad 16 ?_
 refine Run.nil 3 (α:=Tx) (d:=instDatTx) rfl ?_
 refine Run.loopM (ι:=(List Tx)×Nat) (fun s=>Qd6 p0 (p0.length - s.2) s.1 s.2) (fun s=>⟨19,2,[(3,.sl 1 s.1.length),(6,.sl 0 p0.length),(7,.v (.int .i64 (p0.length:Int))),(8,.v (.int .i64 (s.2:Int)))],[(0,.ros Tx instDatTx p0),(1,.own Tx instDatTx s.1)]⟩) (fun s=>s.2≤p0.length∧s.1.length≤s.2) (fun s=>p0.length - s.2) ([],0) [0,1] [1,0] hM (by exact⟨by(try dsimp only);omega,by simp⟩) su (by decide) ?_
 rintro ⟨v3,i⟩ hv hE
 try dsimp only at hE
 obtain⟨hi,hv0⟩:=hv
 try dsimp only at hi hv0
 refine ad 5 ?_
 refine cd (fun h1=>?_) (fun h1=>?_)
 ·
  have h1l:i<p0.length:=by have:=of_decide_eq_true h1;omega
  have hM:=hE.trans ((congrArg (fun n=>Qd6 p0 n v3 i) (show p0.length - i=(p0.length - (i+1))+1 by omega)).trans (Qd6.eq_2 _ _ _ _))
  have hstX:=Qcs hs (k:=i) (by omega)
  refine ad 5 ?_
  have hg3:=Qan (k:=i) hg_p0 om
  refine op (ix (xs:=p0) i om) ?_
  refine ad 7 ?_
  have hg4:Dat.good (nth p0 i:Tx):=hg3
  refine og (clg (Q1h (nth p0 i) (by first | assumption | exact hstX)) Yru) fun hgq=>?_
  obtain⟨hg5,_⟩:=hgq
  refine ad 1 ?_
  refine op (aN (e:=119) (by':=160) v3 (Qhz (nth p0 i)) [1] (hg:=hg5) (hb:=by(try simp only[List.length_cons,List.length_nil]);first | omega | exact om) (hm:=by(try simp only[List.length_cons,List.length_nil]);first | omega | exact om)) ?_
  refine ad 5 ?_
  rw[Qcv (i:=i) om]
  refine ad 2 ?_
  exact Run.again ((v3++[(Qhz (nth p0 i))]),(i+1)) [0,15] [9,0] ⟨by exact⟨by(try dsimp only);omega,by(try dsimp only);(try simp only[List.length_append,List.length_cons,List.length_nil]);omega⟩,hM⟩ rfl lv1 su (by decide)
 ·
  have h1l: ¬ (i<p0.length):=by have:=of_decide_eq_false h1;omega
  have hM:=hE.trans ((congrArg (fun n=>Qd6 p0 n v3 i) (show p0.length - i=0 by omega)).trans (Qd6.eq_1 _ _ _))
  refine ad 6 ?_
  exact rz (rs:=[.tmp 2]) (congrArg (fun x=>[Re.sl Tx instDatTx x]) hM)
def Qae (p0:Kernel):Kernel:=(Kernel.mk (Qas p0.Store) (Qfs p0.Txs) (Qal p0.Disk) p0.Seq p0.Next p0.Time (Qg8 p0.History) (Qc5 p0.Seen) p0.Room)
def zK0 (p0:Kernel):Nat×En:=(5,.var [.sl 0 p0.Store.length,.sl 1 p0.Txs.length,.sl 2 p0.Disk.Slots.length,.v (.string p0.Disk.Journal.Text),.v (.int .i64 p0.Disk.Journal.Sure),.v (.int .i64 p0.Seq),.v (.int .i64 p0.Next),.v (.int .i64 p0.Time),.sl 3 p0.History.length,.sl 4 p0.Seen.length,.v (.bool p0.Room)] 43)
def zK1 (p0:Kernel):Nat×En:=(6,.var [.v (.slice none 0 0),.v (.slice none 0 0),.v (.slice none 0 0),.v (.string ⟨#[]⟩),.v (.int .i64 0),.v (.int .i64 0),.v (.int .i64 0),.v (.int .i64 0),.v (.slice none 0 0),.v (.slice none 0 0),.v (.bool false)] 43)
def zK2 (p0:Kernel):Nat×V:=(10,.ag [.sl 2 p0.Disk.Slots.length,.v (.string p0.Disk.Journal.Text),.v (.int .i64 p0.Disk.Journal.Sure)])
def zK3 (p0:Kernel):Nat×En:=(4,.ros ByteArray instDatByteArray p0.Seen)
def zK4 (p0:Kernel):Nat×En:=(2,.ros Slot instDatSlot p0.Disk.Slots)
def zK5 (p0:Kernel):Nat×En:=(3,.ros Entry instDatEntry p0.History)
def zK6 (p0:Kernel):Nat×En:=(0,.ros Cell instDatCell p0.Store)
def zK7 (p0:Kernel):Nat×En:=(7,.own Cell instDatCell (Qas p0.Store))
def zK8 (p0:Kernel):Nat×V:=(5,.sl 7 ((Qas p0.Store).length))
def zK9 (p0:Kernel):Nat×En:=(8,.own Tx instDatTx (Qfs p0.Txs))
def zK10 (p0:Kernel):Nat×V:=(8,.sl 8 ((Qfs p0.Txs).length))
theorem Qqj (p0:Kernel) (hs:KSm p0):CTs 130 [.o (.st Kernel _ inferInstance p0)] [Re.st Kernel _ inferInstance (Qae p0)]:=by
 refine en Tryz.func130 Tryz.ntmps130 fun w hG hgd=>?_
 obtain⟨hg_p0,_⟩:=hgd
 have hM:=Qae.eq_1 p0
 have hk0:p0.Store.length≤1073741824:=hs.1
 have hk1:p0.Seen.length≤1048576:=hs.2.2.2.2
 have hsmX:Dat.small 1048576 p0.Txs:=hs.2.1
 have hsmH:Dat.small 1048576 p0.History:=hs.2.2.2.1
 have hk2:p0.History.length≤1048576:=hsmH.1
 have hsmD:Dat.small 1048576 p0.Disk:=hs.2.2.1
 refine ad 6 ?_
 refine ds 20 [0,2,3,4,5,6] fun _ _ _ _ _ hb=>?_
 refine tk [0,3,6,9] ?_
 refine Qfb (P:=Dat.good (Qas p0.Store:List Cell)∧Dat.good (Qfs p0.Txs:List Tx)∧Dat.good (p0.Disk:Disk)∧Dat.good (Qal p0.Disk:Disk)) 20 8 [0,1,2,3,4,5,6,7,8,9,10,12] ⟨24,10,[(1,.pt 5 0),(2,.pt 6 0),zK8 p0,zK10 p0,(11,.ag [.sl 9 ((Qal p0.Disk).Slots.length),.v (.string ((Qal p0.Disk).Journal.Text)),.v (.int .i64 ((Qal p0.Disk).Journal.Sure))]),(13,.sl 4 p0.Seen.length),(15,.pt 5 0)],[(9,.own Slot instDatSlot ((Qal p0.Disk).Slots)),zK9 p0,zK7 p0,zK1 p0,zK0 p0,zK6 p0,(1,.ros Tx instDatTx p0.Txs),zK4 p0,zK5 p0,zK3 p0]⟩ (by dsimp only[zK8,zK10,zK9,zK7,zK1,zK0,zK6,zK4,zK5,zK3]) ?_ fun r1=>?_
 ·
  rintro ⟨hg2,hg3,hg4,hg5⟩
  refine ong 11 [4,6,7,8,9,10] (clg (Qhp p0.Seen lv2) Ylh) fun hgq=>?_
  obtain⟨hg6,_⟩:=hgq
  refine on 13 [4,6,7,8,9,10] (OpS.st rfl) ?_
  refine tk [14] ?_
  refine on 15 [4,6,7,8,9,10] (OpS.st rfl) ?_
  refine tk [16] ?_
  refine on 17 [4,6,7,8,9,10] (OpS.st rfl) ?_
  refine tk [18] ?_
  refine on 19 [4,6,7,8,9,10] (OpS.st rfl) ?_
  refine dn hb ?_
  refine ad 4 ?_
  refine og (clg (Qrw p0.History (by first | assumption | exact hsmH)) Yve) fun hgq=>?_
  obtain⟨hg7,_⟩:=hgq
  refine ad 8 ?_
  have hg8:Dat.good (Kernel.mk (Qas p0.Store) (Qfs p0.Txs) (Qal p0.Disk) p0.Seq p0.Next p0.Time (Qg8 p0.History) (Qc5 p0.Seen) p0.Room:Kernel):=⟨hg2,hg3,hg5,hg_p0.2.2.2.1,hg_p0.2.2.2.2.1,hg_p0.2.2.2.2.2.1,hg7,hg6,hg_p0.2.2.2.2.2.2.2.2⟩
  exact rz (rs:=[.cell 2 43]) (congrArg (fun x=>[Re.st Kernel _ inferInstance x]) hM)
 refine Qfb (P:=Dat.good (Qas p0.Store:List Cell)∧Dat.good (Qfs p0.Txs:List Tx)) 20 9 [0,1,2,3,4,5,6,7,9,10,12] ⟨24,9,[(1,.pt 5 0),(2,.pt 6 0),zK8 p0,zK10 p0,zK2 p0,(13,.sl 4 p0.Seen.length),(15,.pt 5 0)],[zK9 p0,zK7 p0,zK1 p0,zK0 p0,zK6 p0,(1,.ros Tx instDatTx p0.Txs),zK4 p0,zK5 p0,zK3 p0]⟩ (by dsimp only[zK8,zK10,zK2,zK9,zK7,zK1,zK0,zK6,zK4,zK5,zK3]) ?_ fun r9=>?_
 ·
  rintro ⟨hg10,hg11⟩
  have hg12:Dat.good (p0.Disk:Disk):=hg_p0.2.2.1
  refine ong 8 [3,5,6,7,8,9] (clg (Qh1 p0.Disk (by first | assumption | exact hsmD)) Ygb) fun hgq=>?_
  obtain⟨hg13,_⟩:=hgq
  exact dAt [0,1,2,3,4,5,6,7,8,9] [0,1,2,3,4,5,6,7,8,9] [] (r1 ⟨hg10,hg11,hg12,hg13⟩) (hs:=su) (hM:=trivial)
 refine Qfb (P:=Dat.good (Qas p0.Store:List Cell)) 20 10 [0,1,2,3,4,6,7,9,10,12] ⟨24,8,[(1,.pt 5 0),(2,.pt 6 0),zK8 p0,(7,.sl 1 p0.Txs.length),zK2 p0,(13,.sl 4 p0.Seen.length),(15,.pt 5 0)],[zK7 p0,zK1 p0,zK0 p0,zK6 p0,(1,.ros Tx instDatTx p0.Txs),zK4 p0,zK5 p0,zK3 p0]⟩ (by dsimp only[zK8,zK2,zK7,zK1,zK0,zK6,zK4,zK5,zK3]) ?_ fun r14=>?_
 ·
  intro hg15
  refine ong 5 [2,4,5,6,7,8] (clg (Qjm p0.Txs (by first | assumption | exact hsmX)) Yga) fun hgq=>?_
  obtain⟨hg16,_⟩:=hgq
  exact dAt [0,1,2,3,4,5,6,7,8] [0,1,2,3,4,5,6,7,8] [] (r9 ⟨hg15,hg16⟩) (hs:=su) (hM:=trivial)
 refine Qfb (P:=Dat.good (Qas p0.Store:List Cell)∧Dat.good (Qfs p0.Txs:List Tx)) 20 11 [0,1,2,3,4,5,6,7,9] ⟨24,9,[(1,.pt 5 0),(2,.pt 6 0),zK8 p0,zK10 p0,zK2 p0,(12,.pt 5 9)],[zK9 p0,zK7 p0,zK1 p0,zK0 p0,zK6 p0,(1,.ros Tx instDatTx p0.Txs),zK4 p0,zK5 p0,zK3 p0]⟩ (by dsimp only[zK8,zK10,zK2,zK9,zK7,zK1,zK0,zK6,zK4,zK5,zK3]) ?_ fun r17=>?_
 ·
  rintro ⟨hg18,hg19⟩
  refine oL [8,10] (d2 ?_ (d2 ?_ d0))
  ·
   have hg20:Dat.good (p0.Disk:Disk):=hg_p0.2.2.1
   refine ong1 8 [3,5,6,7,8,9] (clg (Qh1 p0.Disk (by first | assumption | exact hsmD)) Ygb) fun hgq=>?_
   obtain⟨hg21,_⟩:=hgq
   refine on 10 [3,5,6,7,8,9] (OpS.st rfl) ?_
   refine tk [12] ?_
   exact dAt [0,1,2,3,4,5,6,7,8,9] [0,1,2,3,4,5,6,7,8,9] [] (r1 ⟨hg18,hg19,hg20,hg21⟩) (hs:=su) (hM:=trivial)
  ·
   refine on1 10 [2,4,5,6,7,8] (OpS.st rfl) ?_
   refine tk [12] ?_
   exact dAt [0,1,2,3,4,5,6,7,8] [0,1,2,3,4,5,6,7,8] [] (r9 ⟨hg18,hg19⟩) (hs:=su) (hM:=trivial)
 refine Qfb (P:=Dat.good (Qas p0.Store:List Cell)∧Dat.good (Qfs p0.Txs:List Tx)) 20 11 [0,1,2,3,4,5,6,9,10] ⟨24,9,[(1,.pt 5 0),(2,.pt 6 0),zK8 p0,zK10 p0,(9,.pt 5 2),(13,.sl 4 p0.Seen.length)],[zK9 p0,zK7 p0,zK1 p0,zK0 p0,zK6 p0,(1,.ros Tx instDatTx p0.Txs),zK4 p0,zK5 p0,zK3 p0]⟩ (by dsimp only[zK8,zK10,zK9,zK7,zK1,zK0,zK6,zK4,zK5,zK3]) ?_ fun r22=>?_
 ·
  rintro ⟨hg23,hg24⟩
  refine on 7 [2,4,5,6,7,8] (OpS.st rfl) ?_
  refine tk [12] ?_
  exact dAt [0,1,2,3,4,5,6,7,8] [0,1,2,3,4,5,6,7,8] [] (r9 ⟨hg23,hg24⟩) (hs:=su) (hM:=trivial)
 refine Qfb (P:=Dat.good (Qas p0.Store:List Cell)) 20 12 [0,1,2,3,4,6,7,9] ⟨24,8,[(1,.pt 5 0),(2,.pt 6 0),zK8 p0,(7,.sl 1 p0.Txs.length),zK2 p0,(12,.pt 5 9)],[zK7 p0,zK1 p0,zK0 p0,zK6 p0,(1,.ros Tx instDatTx p0.Txs),zK4 p0,zK5 p0,zK3 p0]⟩ (by dsimp only[zK8,zK2,zK7,zK1,zK0,zK6,zK4,zK5,zK3]) ?_ fun r25=>?_
 ·
  intro hg26
  refine oL [5,10] (d2 ?_ (d2 ?_ d0))
  ·
   refine ong1 5 [2,4,5,6,7,8] (clg (Qjm p0.Txs (by first | assumption | exact hsmX)) Yga) fun hgq=>?_
   obtain⟨hg27,_⟩:=hgq
   exact dAt [0,1,2,3,4,5,6,7,8] [0,1,2,3,4,5,6,7,8] [] (r17 ⟨hg26,hg27⟩) (hs:=su) (hM:=trivial)
  ·
   refine on1 10 [1,3,4,5,6,7] (OpS.st rfl) ?_
   refine tk [12] ?_
   exact dAt [0,1,2,3,4,5,6,7] [0,1,2,3,4,5,6,7] [] (r14 hg26) (hs:=su) (hM:=trivial)
 refine Qfb (P:=Dat.good (Qas p0.Store:List Cell)) 20 12 [0,1,2,3,4,6,9,10] ⟨24,8,[(1,.pt 5 0),(2,.pt 6 0),zK8 p0,(7,.sl 1 p0.Txs.length),(9,.pt 5 2),(13,.sl 4 p0.Seen.length)],[zK7 p0,zK1 p0,zK0 p0,zK6 p0,(1,.ros Tx instDatTx p0.Txs),zK4 p0,zK5 p0,zK3 p0]⟩ (by dsimp only[zK8,zK7,zK1,zK0,zK6,zK4,zK5,zK3]) ?_ fun r28=>?_
 ·
  intro hg29
  refine oL [5,7] (d2 ?_ (d2 ?_ d0))
  ·
   refine ong1 5 [2,4,5,6,7,8] (clg (Qjm p0.Txs (by first | assumption | exact hsmX)) Yga) fun hgq=>?_
   obtain⟨hg30,_⟩:=hgq
   exact dAt [0,1,2,3,4,5,6,7,8] [0,1,2,3,4,5,6,7,8] [] (r22 ⟨hg29,hg30⟩) (hs:=su) (hM:=trivial)
  ·
   refine on1 7 [1,3,4,5,6,7] (OpS.st rfl) ?_
   refine tk [12] ?_
   exact dAt [0,1,2,3,4,5,6,7] [0,1,2,3,4,5,6,7] [] (r14 hg29) (hs:=su) (hM:=trivial)
 refine Qfb (P:=Dat.good (Qas p0.Store:List Cell)) 20 12 [0,1,2,3,6,7,9,10] ⟨24,8,[(1,.pt 5 0),(2,.pt 6 0),zK8 p0,(6,.pt 5 1),zK2 p0,(13,.sl 4 p0.Seen.length)],[zK7 p0,zK1 p0,zK0 p0,zK6 p0,(1,.ros Tx instDatTx p0.Txs),zK4 p0,zK5 p0,zK3 p0]⟩ (by dsimp only[zK8,zK2,zK7,zK1,zK0,zK6,zK4,zK5,zK3]) ?_ fun r31=>?_
 ·
  intro hg32
  refine on 4 [1,3,4,5,6,7] (OpS.st rfl) ?_
  refine tk [12] ?_
  exact dAt [0,1,2,3,4,5,6,7] [0,1,2,3,4,5,6,7] [] (r14 hg32) (hs:=su) (hM:=trivial)
 refine Qfb (P:=True) 20 12 [0,1,3,4,6,7,9,10] ⟨24,7,[(1,.pt 5 0),(2,.pt 6 0),(4,.sl 0 p0.Store.length),(7,.sl 1 p0.Txs.length),zK2 p0,(13,.sl 4 p0.Seen.length)],[zK1 p0,zK0 p0,zK6 p0,(1,.ros Tx instDatTx p0.Txs),zK4 p0,zK5 p0,zK3 p0]⟩ (by dsimp only[zK2,zK1,zK0,zK6,zK4,zK5,zK3]) ?_ fun r33=>?_
 ·
  intro _
  refine ong 2 [1,3,4,5,6,7] (clg (Qbm p0.Store lv2) Qrl) fun hgq=>?_
  obtain⟨hg34,_⟩:=hgq
  refine tk [12] ?_
  exact dAt [0,1,2,3,4,5,6,7] [0,1,2,3,4,5,6,7] [] (r14 hg34) (hs:=su) (hM:=trivial)
 refine Qfb (P:=Dat.good (Qas p0.Store:List Cell)) 20 13 [0,1,2,3,4,6,9] ⟨24,8,[(1,.pt 5 0),(2,.pt 6 0),zK8 p0,(7,.sl 1 p0.Txs.length),(9,.pt 5 2),(12,.pt 5 9)],[zK7 p0,zK1 p0,zK0 p0,zK6 p0,(1,.ros Tx instDatTx p0.Txs),zK4 p0,zK5 p0,zK3 p0]⟩ (by dsimp only[zK8,zK7,zK1,zK0,zK6,zK4,zK5,zK3]) ?_ fun r35=>?_
 ·
  intro hg36
  refine oL [5,7,10] (d2 ?_ (d2 ?_ (d2 ?_ d0)))
  ·
   refine ong1 5 [2,4,5,6,7,8] (clg (Qjm p0.Txs (by first | assumption | exact hsmX)) Yga) fun hgq=>?_
   obtain⟨hg37,_⟩:=hgq
   refine oL [7,10] (d2 ?_ (d2 ?_ d0))
   ·
    refine on1 7 [2,4,5,6,7,8] (OpS.st rfl) ?_
    exact dAt [0,1,2,3,4,5,6,7,8] [0,1,2,3,4,5,6,7,8] [] (r17 ⟨hg36,hg37⟩) (hs:=su) (hM:=trivial)
   ·
    refine on1 10 [2,4,5,6,7,8] (OpS.st rfl) ?_
    exact dAt [0,1,2,3,4,5,6,7,8] [0,1,2,3,4,5,6,7,8] [] (r22 ⟨hg36,hg37⟩) (hs:=su) (hM:=trivial)
  ·
   refine on1 7 [1,3,4,5,6,7] (OpS.st rfl) ?_
   exact dAt [0,1,2,3,4,5,6,7] [0,1,2,3,4,5,6,7] [] (r25 hg36) (hs:=su) (hM:=trivial)
  ·
   refine on1 10 [1,3,4,5,6,7] (OpS.st rfl) ?_
   exact dAt [0,1,2,3,4,5,6,7] [0,1,2,3,4,5,6,7] [] (r28 hg36) (hs:=su) (hM:=trivial)
 refine Qfb (P:=Dat.good (Qas p0.Store:List Cell)) 20 13 [0,1,2,3,6,7,9] ⟨24,8,[(1,.pt 5 0),(2,.pt 6 0),zK8 p0,(6,.pt 5 1),zK2 p0,(12,.pt 5 9)],[zK7 p0,zK1 p0,zK0 p0,zK6 p0,(1,.ros Tx instDatTx p0.Txs),zK4 p0,zK5 p0,zK3 p0]⟩ (by dsimp only[zK8,zK2,zK7,zK1,zK0,zK6,zK4,zK5,zK3]) ?_ fun r38=>?_
 ·
  intro hg39
  refine oL [4,10] (d2 ?_ (d2 ?_ d0))
  ·
   refine on1 4 [1,3,4,5,6,7] (OpS.st rfl) ?_
   exact dAt [0,1,2,3,4,5,6,7] [0,1,2,3,4,5,6,7] [] (r25 hg39) (hs:=su) (hM:=trivial)
  ·
   refine on1 10 [1,3,4,5,6,7] (OpS.st rfl) ?_
   exact dAt [0,1,2,3,4,5,6,7] [0,1,2,3,4,5,6,7] [] (r31 hg39) (hs:=su) (hM:=trivial)
 refine Qfb (P:=Dat.good (Qas p0.Store:List Cell)) 20 13 [0,1,2,3,6,9,10] ⟨24,8,[(1,.pt 5 0),(2,.pt 6 0),zK8 p0,(6,.pt 5 1),(9,.pt 5 2),(13,.sl 4 p0.Seen.length)],[zK7 p0,zK1 p0,zK0 p0,zK6 p0,(1,.ros Tx instDatTx p0.Txs),zK4 p0,zK5 p0,zK3 p0]⟩ (by dsimp only[zK8,zK7,zK1,zK0,zK6,zK4,zK5,zK3]) ?_ fun r40=>?_
 ·
  intro hg41
  refine oL [4,7] (d2 ?_ (d2 ?_ d0))
  ·
   refine on1 4 [1,3,4,5,6,7] (OpS.st rfl) ?_
   exact dAt [0,1,2,3,4,5,6,7] [0,1,2,3,4,5,6,7] [] (r28 hg41) (hs:=su) (hM:=trivial)
  ·
   refine on1 7 [1,3,4,5,6,7] (OpS.st rfl) ?_
   exact dAt [0,1,2,3,4,5,6,7] [0,1,2,3,4,5,6,7] [] (r31 hg41) (hs:=su) (hM:=trivial)
 refine Qfb (P:=True) 20 13 [0,1,3,4,6,7,9] ⟨24,7,[(1,.pt 5 0),(2,.pt 6 0),(4,.sl 0 p0.Store.length),(7,.sl 1 p0.Txs.length),zK2 p0,(12,.pt 5 9)],[zK1 p0,zK0 p0,zK6 p0,(1,.ros Tx instDatTx p0.Txs),zK4 p0,zK5 p0,zK3 p0]⟩ (by dsimp only[zK2,zK1,zK0,zK6,zK4,zK5,zK3]) ?_ fun r42=>?_
 ·
  intro _
  refine oL [2,10] (d2 ?_ (d2 ?_ d0))
  ·
   refine ong1 2 [1,3,4,5,6,7] (clg (Qbm p0.Store lv2) Qrl) fun hgq=>?_
   obtain⟨hg43,_⟩:=hgq
   exact dAt [0,1,2,3,4,5,6,7] [0,1,2,3,4,5,6,7] [] (r25 hg43) (hs:=su) (hM:=trivial)
  ·
   refine on1 10 [0,2,3,4,5,6] (OpS.st rfl) ?_
   exact dAt [0,1,2,3,4,5,6] [0,1,2,3,4,5,6] [] (r33 trivial) (hs:=su) (hM:=trivial)
 refine Qfb (P:=True) 20 13 [0,1,3,4,6,9,10] ⟨24,7,[(1,.pt 5 0),(2,.pt 6 0),(4,.sl 0 p0.Store.length),(7,.sl 1 p0.Txs.length),(9,.pt 5 2),(13,.sl 4 p0.Seen.length)],[zK1 p0,zK0 p0,zK6 p0,(1,.ros Tx instDatTx p0.Txs),zK4 p0,zK5 p0,zK3 p0]⟩ (by dsimp only[zK1,zK0,zK6,zK4,zK5,zK3]) ?_ fun r44=>?_
 ·
  intro _
  refine oL [2,7] (d2 ?_ (d2 ?_ d0))
  ·
   refine ong1 2 [1,3,4,5,6,7] (clg (Qbm p0.Store lv2) Qrl) fun hgq=>?_
   obtain⟨hg45,_⟩:=hgq
   exact dAt [0,1,2,3,4,5,6,7] [0,1,2,3,4,5,6,7] [] (r28 hg45) (hs:=su) (hM:=trivial)
  ·
   refine on1 7 [0,2,3,4,5,6] (OpS.st rfl) ?_
   exact dAt [0,1,2,3,4,5,6] [0,1,2,3,4,5,6] [] (r33 trivial) (hs:=su) (hM:=trivial)
 refine Qfb (P:=True) 20 13 [0,1,3,6,7,9,10] ⟨24,7,[(1,.pt 5 0),(2,.pt 6 0),(4,.sl 0 p0.Store.length),(6,.pt 5 1),zK2 p0,(13,.sl 4 p0.Seen.length)],[zK1 p0,zK0 p0,zK6 p0,(1,.ros Tx instDatTx p0.Txs),zK4 p0,zK5 p0,zK3 p0]⟩ (by dsimp only[zK2,zK1,zK0,zK6,zK4,zK5,zK3]) ?_ fun r46=>?_
 ·
  intro _
  refine oL [2,4] (d2 ?_ (d2 ?_ d0))
  ·
   refine ong1 2 [1,3,4,5,6,7] (clg (Qbm p0.Store lv2) Qrl) fun hgq=>?_
   obtain⟨hg47,_⟩:=hgq
   exact dAt [0,1,2,3,4,5,6,7] [0,1,2,3,4,5,6,7] [] (r31 hg47) (hs:=su) (hM:=trivial)
  ·
   refine on1 4 [0,2,3,4,5,6] (OpS.st rfl) ?_
   exact dAt [0,1,2,3,4,5,6] [0,1,2,3,4,5,6] [] (r33 trivial) (hs:=su) (hM:=trivial)
 refine Qfb (P:=True) 20 13 [0,3,4,6,7,9,10] ⟨24,7,[(1,.pt 5 0),(2,.pt 6 0),(3,.pt 5 0),(7,.sl 1 p0.Txs.length),zK2 p0,(13,.sl 4 p0.Seen.length)],[zK1 p0,zK0 p0,zK6 p0,(1,.ros Tx instDatTx p0.Txs),zK4 p0,zK5 p0,zK3 p0]⟩ (by dsimp only[zK2,zK1,zK0,zK6,zK4,zK5,zK3]) ?_ fun r48=>?_
 ·
  intro _
  refine on 1 [0,2,3,4,5,6] (OpS.st rfl) ?_
  exact dAt [0,1,2,3,4,5,6] [0,1,2,3,4,5,6] [] (r33 trivial) (hs:=su) (hM:=trivial)
 refine Qfb (P:=True) 20 14 [0,1,3,4,6,9] ⟨24,7,[(1,.pt 5 0),(2,.pt 6 0),(4,.sl 0 p0.Store.length),(7,.sl 1 p0.Txs.length),(9,.pt 5 2),(12,.pt 5 9)],[zK1 p0,zK0 p0,zK6 p0,(1,.ros Tx instDatTx p0.Txs),zK4 p0,zK5 p0,zK3 p0]⟩ (by dsimp only[zK1,zK0,zK6,zK4,zK5,zK3]) ?_ fun r49=>?_
 ·
  intro _
  refine oL [2,7,10] (d2 ?_ (d2 ?_ (d2 ?_ d0)))
  ·
   refine ong1 2 [1,3,4,5,6,7] (clg (Qbm p0.Store lv2) Qrl) fun hgq=>?_
   obtain⟨hg50,_⟩:=hgq
   exact dAt [0,1,2,3,4,5,6,7] [0,1,2,3,4,5,6,7] [] (r35 hg50) (hs:=su) (hM:=trivial)
  ·
   refine on1 7 [0,2,3,4,5,6] (OpS.st rfl) ?_
   exact dAt [0,1,2,3,4,5,6] [0,1,2,3,4,5,6] [] (r42 trivial) (hs:=su) (hM:=trivial)
  ·
   refine on1 10 [0,2,3,4,5,6] (OpS.st rfl) ?_
   exact dAt [0,1,2,3,4,5,6] [0,1,2,3,4,5,6] [] (r44 trivial) (hs:=su) (hM:=trivial)
 refine Qfb (P:=True) 20 14 [0,1,3,6,7,9] ⟨24,7,[(1,.pt 5 0),(2,.pt 6 0),(4,.sl 0 p0.Store.length),(6,.pt 5 1),zK2 p0,(12,.pt 5 9)],[zK1 p0,zK0 p0,zK6 p0,(1,.ros Tx instDatTx p0.Txs),zK4 p0,zK5 p0,zK3 p0]⟩ (by dsimp only[zK2,zK1,zK0,zK6,zK4,zK5,zK3]) ?_ fun r51=>?_
 ·
  intro _
  refine oL [2,4,10] (d2 ?_ (d2 ?_ (d2 ?_ d0)))
  ·
   refine ong1 2 [1,3,4,5,6,7] (clg (Qbm p0.Store lv2) Qrl) fun hgq=>?_
   obtain⟨hg52,_⟩:=hgq
   exact dAt [0,1,2,3,4,5,6,7] [0,1,2,3,4,5,6,7] [] (r38 hg52) (hs:=su) (hM:=trivial)
  ·
   refine on1 4 [0,2,3,4,5,6] (OpS.st rfl) ?_
   exact dAt [0,1,2,3,4,5,6] [0,1,2,3,4,5,6] [] (r42 trivial) (hs:=su) (hM:=trivial)
  ·
   refine on1 10 [0,2,3,4,5,6] (OpS.st rfl) ?_
   exact dAt [0,1,2,3,4,5,6] [0,1,2,3,4,5,6] [] (r46 trivial) (hs:=su) (hM:=trivial)
 refine Qfb (P:=True) 20 14 [0,1,3,6,9,10] ⟨24,7,[(1,.pt 5 0),(2,.pt 6 0),(4,.sl 0 p0.Store.length),(6,.pt 5 1),(9,.pt 5 2),(13,.sl 4 p0.Seen.length)],[zK1 p0,zK0 p0,zK6 p0,(1,.ros Tx instDatTx p0.Txs),zK4 p0,zK5 p0,zK3 p0]⟩ (by dsimp only[zK1,zK0,zK6,zK4,zK5,zK3]) ?_ fun r53=>?_
 ·
  intro _
  refine oL [2,4,7] (d2 ?_ (d2 ?_ (d2 ?_ d0)))
  ·
   refine ong1 2 [1,3,4,5,6,7] (clg (Qbm p0.Store lv2) Qrl) fun hgq=>?_
   obtain⟨hg54,_⟩:=hgq
   exact dAt [0,1,2,3,4,5,6,7] [0,1,2,3,4,5,6,7] [] (r40 hg54) (hs:=su) (hM:=trivial)
  ·
   refine on1 4 [0,2,3,4,5,6] (OpS.st rfl) ?_
   exact dAt [0,1,2,3,4,5,6] [0,1,2,3,4,5,6] [] (r44 trivial) (hs:=su) (hM:=trivial)
  ·
   refine on1 7 [0,2,3,4,5,6] (OpS.st rfl) ?_
   exact dAt [0,1,2,3,4,5,6] [0,1,2,3,4,5,6] [] (r46 trivial) (hs:=su) (hM:=trivial)
 refine Qfb (P:=True) 20 14 [0,3,4,6,7,9] ⟨24,7,[(1,.pt 5 0),(2,.pt 6 0),(3,.pt 5 0),(7,.sl 1 p0.Txs.length),zK2 p0,(12,.pt 5 9)],[zK1 p0,zK0 p0,zK6 p0,(1,.ros Tx instDatTx p0.Txs),zK4 p0,zK5 p0,zK3 p0]⟩ (by dsimp only[zK2,zK1,zK0,zK6,zK4,zK5,zK3]) ?_ fun r55=>?_
 ·
  intro _
  refine oL [1,10] (d2 ?_ (d2 ?_ d0))
  ·
   refine on1 1 [0,2,3,4,5,6] (OpS.st rfl) ?_
   exact dAt [0,1,2,3,4,5,6] [0,1,2,3,4,5,6] [] (r42 trivial) (hs:=su) (hM:=trivial)
  ·
   refine on1 10 [0,2,3,4,5,6] (OpS.st rfl) ?_
   exact dAt [0,1,2,3,4,5,6] [0,1,2,3,4,5,6] [] (r48 trivial) (hs:=su) (hM:=trivial)
 refine Qfb (P:=True) 20 14 [0,3,4,6,9,10] ⟨24,7,[(1,.pt 5 0),(2,.pt 6 0),(3,.pt 5 0),(7,.sl 1 p0.Txs.length),(9,.pt 5 2),(13,.sl 4 p0.Seen.length)],[zK1 p0,zK0 p0,zK6 p0,(1,.ros Tx instDatTx p0.Txs),zK4 p0,zK5 p0,zK3 p0]⟩ (by dsimp only[zK1,zK0,zK6,zK4,zK5,zK3]) ?_ fun r56=>?_
 ·
  intro _
  refine oL [1,7] (d2 ?_ (d2 ?_ d0))
  ·
   refine on1 1 [0,2,3,4,5,6] (OpS.st rfl) ?_
   exact dAt [0,1,2,3,4,5,6] [0,1,2,3,4,5,6] [] (r44 trivial) (hs:=su) (hM:=trivial)
  ·
   refine on1 7 [0,2,3,4,5,6] (OpS.st rfl) ?_
   exact dAt [0,1,2,3,4,5,6] [0,1,2,3,4,5,6] [] (r48 trivial) (hs:=su) (hM:=trivial)
 refine Qfb (P:=True) 20 14 [0,3,6,7,9,10] ⟨24,7,[(1,.pt 5 0),(2,.pt 6 0),(3,.pt 5 0),(6,.pt 5 1),zK2 p0,(13,.sl 4 p0.Seen.length)],[zK1 p0,zK0 p0,zK6 p0,(1,.ros Tx instDatTx p0.Txs),zK4 p0,zK5 p0,zK3 p0]⟩ (by dsimp only[zK2,zK1,zK0,zK6,zK4,zK5,zK3]) ?_ fun r57=>?_
 ·
  intro _
  refine oL [1,4] (d2 ?_ (d2 ?_ d0))
  ·
   refine on1 1 [0,2,3,4,5,6] (OpS.st rfl) ?_
   exact dAt [0,1,2,3,4,5,6] [0,1,2,3,4,5,6] [] (r46 trivial) (hs:=su) (hM:=trivial)
  ·
   refine on1 4 [0,2,3,4,5,6] (OpS.st rfl) ?_
   exact dAt [0,1,2,3,4,5,6] [0,1,2,3,4,5,6] [] (r48 trivial) (hs:=su) (hM:=trivial)
 refine oL [1,4,7,10] (d2 ?_ (d2 ?_ (d2 ?_ (d2 ?_ d0))))
 ·
  refine on1 1 [0,2,3,4,5,6] (OpS.st rfl) ?_
  refine oL [2,4,7,10] (d2 ?_ (d2 ?_ (d2 ?_ (d2 ?_ d0))))
  ·
   refine ong1 2 [1,3,4,5,6,7] (clg (Qbm p0.Store lv2) Qrl) fun hgq=>?_
   obtain⟨hg58,_⟩:=hgq
   refine oL [4,7,10] (d2 ?_ (d2 ?_ (d2 ?_ d0)))
   ·
    refine on1 4 [1,3,4,5,6,7] (OpS.st rfl) ?_
    exact dAt [0,1,2,3,4,5,6,7] [0,1,2,3,4,5,6,7] [] (r35 hg58) (hs:=su) (hM:=trivial)
   ·
    refine on1 7 [1,3,4,5,6,7] (OpS.st rfl) ?_
    exact dAt [0,1,2,3,4,5,6,7] [0,1,2,3,4,5,6,7] [] (r38 hg58) (hs:=su) (hM:=trivial)
   ·
    refine on1 10 [1,3,4,5,6,7] (OpS.st rfl) ?_
    exact dAt [0,1,2,3,4,5,6,7] [0,1,2,3,4,5,6,7] [] (r40 hg58) (hs:=su) (hM:=trivial)
  ·
   refine on1 4 [0,2,3,4,5,6] (OpS.st rfl) ?_
   exact dAt [0,1,2,3,4,5,6] [0,1,2,3,4,5,6] [] (r49 trivial) (hs:=su) (hM:=trivial)
  ·
   refine on1 7 [0,2,3,4,5,6] (OpS.st rfl) ?_
   exact dAt [0,1,2,3,4,5,6] [0,1,2,3,4,5,6] [] (r51 trivial) (hs:=su) (hM:=trivial)
  ·
   refine on1 10 [0,2,3,4,5,6] (OpS.st rfl) ?_
   exact dAt [0,1,2,3,4,5,6] [0,1,2,3,4,5,6] [] (r53 trivial) (hs:=su) (hM:=trivial)
 ·
  refine on1 4 [0,2,3,4,5,6] (OpS.st rfl) ?_
  refine oL [1,7,10] (d2 ?_ (d2 ?_ (d2 ?_ d0)))
  ·
   refine on1 1 [0,2,3,4,5,6] (OpS.st rfl) ?_
   exact dAt [0,1,2,3,4,5,6] [0,1,2,3,4,5,6] [] (r49 trivial) (hs:=su) (hM:=trivial)
  ·
   refine on1 7 [0,2,3,4,5,6] (OpS.st rfl) ?_
   exact dAt [0,1,2,3,4,5,6] [0,1,2,3,4,5,6] [] (r55 trivial) (hs:=su) (hM:=trivial)
  ·
   refine on1 10 [0,2,3,4,5,6] (OpS.st rfl) ?_
   exact dAt [0,1,2,3,4,5,6] [0,1,2,3,4,5,6] [] (r56 trivial) (hs:=su) (hM:=trivial)
 ·
  refine on1 7 [0,2,3,4,5,6] (OpS.st rfl) ?_
  refine oL [1,4,10] (d2 ?_ (d2 ?_ (d2 ?_ d0)))
  ·
   refine on1 1 [0,2,3,4,5,6] (OpS.st rfl) ?_
   exact dAt [0,1,2,3,4,5,6] [0,1,2,3,4,5,6] [] (r51 trivial) (hs:=su) (hM:=trivial)
  ·
   refine on1 4 [0,2,3,4,5,6] (OpS.st rfl) ?_
   exact dAt [0,1,2,3,4,5,6] [0,1,2,3,4,5,6] [] (r55 trivial) (hs:=su) (hM:=trivial)
  ·
   refine on1 10 [0,2,3,4,5,6] (OpS.st rfl) ?_
   exact dAt [0,1,2,3,4,5,6] [0,1,2,3,4,5,6] [] (r57 trivial) (hs:=su) (hM:=trivial)
 ·
  refine on1 10 [0,2,3,4,5,6] (OpS.st rfl) ?_
  refine oL [1,4,7] (d2 ?_ (d2 ?_ (d2 ?_ d0)))
  ·
   refine on1 1 [0,2,3,4,5,6] (OpS.st rfl) ?_
   exact dAt [0,1,2,3,4,5,6] [0,1,2,3,4,5,6] [] (r53 trivial) (hs:=su) (hM:=trivial)
  ·
   refine on1 4 [0,2,3,4,5,6] (OpS.st rfl) ?_
   exact dAt [0,1,2,3,4,5,6] [0,1,2,3,4,5,6] [] (r56 trivial) (hs:=su) (hM:=trivial)
  ·
   refine on1 7 [0,2,3,4,5,6] (OpS.st rfl) ?_
   exact dAt [0,1,2,3,4,5,6] [0,1,2,3,4,5,6] [] (r57 trivial) (hs:=su) (hM:=trivial)
end
section
theorem Yon:FnOk Tryz.prog 185:=⟨_,Tryz.func185,rfl,by kernel_rfl⟩
theorem Yrv:FnOk Tryz.prog 230:=⟨_,Tryz.func230,rfl,by kernel_rfl⟩
def Qic (p0:Tx):Tx:=(Tx.mk p0.Id p0.Age p0.Proc p0.Began (([]:List Call)++p0.Calls) (([]:List Answer)++p0.Answers) (Touch.mk (([]:List ByteArray)++p0.Touch.Reads) (([]:List ByteArray)++p0.Touch.Writes)) (([]:List Int)++p0.Marks) p0.State)
def zL0 (p0:Tx):Nat×En:=(5,.var [.v (.int .i64 p0.Id),.v (.int .i64 p0.Age),.v (.int .i64 p0.Proc),.v (.int .i64 p0.Began),.sl 8 ((([]:List Call)++p0.Calls).length),.sl 10 ((([]:List Answer)++p0.Answers).length),.sl 2 p0.Touch.Reads.length,.sl 3 p0.Touch.Writes.length,.sl 4 p0.Marks.length,.v (.int .i64 p0.State)] 119)
def zL1 (p0:Tx):Nat×En:=(6,.var [.v (.int .i64 0),.v (.int .i64 0),.v (.int .i64 0),.v (.int .i64 0),.v (.slice none 0 0),.v (.slice none 0 0),.v (.slice none 0 0),.v (.slice none 0 0),.v (.slice none 0 0),.v (.int .i64 0)] 119)
def zL2 (p0:Tx):Nat×En:=(10,.own Answer instDatAnswer (([]:List Answer)++p0.Answers))
def zL3 (p0:Tx):Nat×En:=(8,.own Call instDatCall (([]:List Call)++p0.Calls))
def zL4 (p0:Tx):Nat×En:=(3,.ros ByteArray instDatByteArray p0.Touch.Writes)
def zL5 (p0:Tx):Nat×En:=(2,.ros ByteArray instDatByteArray p0.Touch.Reads)
def zL6 (p0:Tx):Nat×En:=(11,.own ByteArray instDatByteArray ([]:List ByteArray))
def zL7 (p0:Tx):Nat×En:=(1,.ros Answer instDatAnswer p0.Answers)
def zL8 (p0:Tx):Nat×En:=(0,.ros Call instDatCall p0.Calls)
def zL9 (p0:Tx):Nat×En:=(4,.ros Int instDatInt p0.Marks)
def zL10 (p0:Tx):Nat×V:=(21,.sl 3 p0.Touch.Writes.length)
def zL11 (p0:Tx):Nat×En:=(12,.own ByteArray instDatByteArray (([]:List ByteArray)++p0.Touch.Reads))
def zL12 (p0:Tx):Nat×En:=(12,.own ByteArray instDatByteArray ([]:List ByteArray))
def zL13 (p0:Tx):Nat×V:=(16,.sl 2 p0.Touch.Reads.length)
def zL14 (p0:Tx):Nat×V:=(17,.sl 12 ((([]:List ByteArray)++p0.Touch.Reads).length))
theorem Q2d (p0:Tx) (hs:Dat.small 1048576 p0):CTs 230 [.o (.st Tx _ inferInstance p0)] [Re.st Tx _ inferInstance (Qic p0)]:=by
 refine en Tryz.func230 Tryz.ntmps230 fun w hG hgd=>?_
 obtain⟨hg_p0,_⟩:=hgd
 have hM:=Qic.eq_1 p0
 have hx0:p0.Calls.length≤1048576:=hs.2.2.2.2.1.1
 have hx1:p0.Answers.length≤1048576:=hs.2.2.2.2.2.1.1
 have hx2:p0.Touch.Reads.length≤1048576:=hs.2.2.2.2.2.2.1.1.1
 have hx3:p0.Touch.Writes.length≤1048576:=hs.2.2.2.2.2.2.1.2.1
 have hx4:p0.Marks.length≤1048576:=hs.2.2.2.2.2.2.2.1.1
 refine ad 7 ?_
 refine op (l0) ?_
 refine ad 2 ?_
 refine li 7 (d:=instDatCall) ([]:List Call) ?_
 refine op (aS (dα:=instDatCall) (e:=149) (by':=72) ([]:List Call) p0.Calls [7] (hb:=by(try simp only[List.length_append,List.length_cons,List.length_nil]);first | omega | exact om) (hm:=by(try simp only[List.length_append,List.length_cons,List.length_nil]);first | omega | exact om)) ?_
 refine ad 5 ?_
 refine op (l0) ?_
 refine ad 2 ?_
 refine li 9 (d:=instDatAnswer) ([]:List Answer) ?_
 refine op (aS (dα:=instDatAnswer) (e:=154) (by':=32) ([]:List Answer) p0.Answers [9] (hb:=by(try simp only[List.length_append,List.length_cons,List.length_nil]);first | omega | exact om) (hm:=by(try simp only[List.length_append,List.length_cons,List.length_nil]);first | omega | exact om)) ?_
 refine ad 4 ?_
 refine ds 13 [0,1,2,4,5,6,7,8] fun _ _ _ _ _ hb=>?_
 refine tk [1,2,6,7] ?_
 refine Qfb (P:=True) 13 4 [0,1,2,3,4,5,6,7,8] ⟨31,14,[(1,.pt 5 0),(2,.pt 6 0),zL14 p0,(18,.sl 13 0),zL10 p0],[(13,.own ByteArray instDatByteArray ([]:List ByteArray)),zL11 p0,zL2 p0,zL3 p0,zL1 p0,zL0 p0,zL8 p0,zL7 p0,zL5 p0,zL4 p0,zL9 p0]⟩ (by dsimp only[zL14,zL10,zL11,zL2,zL3,zL1,zL0,zL8,zL7,zL5,zL4,zL9]) ?_ fun r1=>?_
 ·
  intro _
  refine on 9 [2,3,4,6,7,8,9,10] (aS (dα:=instDatByteArray) (e:=9) (by':=16) ([]:List ByteArray) p0.Touch.Writes [13] (hb:=by(try simp only[List.length_append,List.length_cons,List.length_nil]);first | omega | exact om) (hm:=by(try simp only[List.length_append,List.length_cons,List.length_nil]);first | omega | exact om)) ?_
  refine tk [10,11] ?_
  refine on 12 [2,3,4,6,7,8,9,10] (OpS.st rfl) ?_
  refine dn hb ?_
  refine ad 2 ?_
  refine op (l0) ?_
  refine ad 2 ?_
  refine li 15 (d:=instDatInt) ([]:List Int) ?_
  refine op (aS (dα:=instDatInt) (e:=3) (by':=8) ([]:List Int) p0.Marks [15] (hb:=by(try simp only[List.length_append,List.length_cons,List.length_nil]);first | omega | exact om) (hm:=by(try simp only[List.length_append,List.length_cons,List.length_nil]);first | omega | exact om)) ?_
  refine ad 8 ?_
  refine gd 16 fun hg2=>?_
  refine gd 14 fun hg3=>?_
  refine gd 12 fun hg4=>?_
  refine gd 10 fun hg5=>?_
  refine gd 8 fun hg6=>?_
  refine gd 0 fun hg7=>?_
  refine gd 1 fun hg8=>?_
  refine gd 2 fun hg9=>?_
  refine gd 3 fun hg10=>?_
  refine gd 4 fun hg11=>?_
  have hg12:Dat.good (Tx.mk p0.Id p0.Age p0.Proc p0.Began (([]:List Call)++p0.Calls) (([]:List Answer)++p0.Answers) (Touch.mk (([]:List ByteArray)++p0.Touch.Reads) (([]:List ByteArray)++p0.Touch.Writes)) (([]:List Int)++p0.Marks) p0.State:Tx):=⟨hg_p0.1,hg_p0.2.1,hg_p0.2.2.1,hg_p0.2.2.2.1,hg6,hg5,⟨hg4,hg3⟩,hg2,hg_p0.2.2.2.2.2.2.2.2⟩
  exact rz (rs:=[.cell 2 119]) (congrArg (fun x=>[Re.st Tx _ inferInstance x]) hM)
 refine Qfb (P:=True) 13 5 [0,1,2,3,4,5,6,7] ⟨31,14,[(1,.pt 5 0),(2,.pt 6 0),zL14 p0,(18,.sl 13 0),(20,.pt 5 7)],[(13,.own ByteArray instDatByteArray ([]:List ByteArray)),zL11 p0,zL2 p0,zL3 p0,zL1 p0,zL0 p0,zL8 p0,zL7 p0,zL5 p0,zL4 p0,zL9 p0]⟩ (by dsimp only[zL14,zL11,zL2,zL3,zL1,zL0,zL8,zL7,zL5,zL4,zL9]) ?_ fun r13=>?_
 ·
  intro _
  refine on 8 [2,3,4,6,7,8,9,10] (OpS.st rfl) ?_
  exact dAt [0,1,2,3,4,5,6,7,8,9,10,0,12,13] [0,1,2,3,4,5,6,7,8,9,10] [] (r1 trivial) (hs:=su) (hM:=trivial)
 refine Qfb (P:=True) 13 5 [0,1,2,3,4,6,7,8] ⟨31,13,[(1,.pt 5 0),(2,.pt 6 0),zL14 p0,zL10 p0],[zL11 p0,zL2 p0,zL3 p0,zL1 p0,zL0 p0,zL8 p0,zL7 p0,zL5 p0,zL4 p0,zL9 p0]⟩ (by dsimp only[zL14,zL10,zL11,zL2,zL3,zL1,zL0,zL8,zL7,zL5,zL4,zL9]) ?_ fun r14=>?_
 ·
  intro _
  refine on 5 [2,3,4,6,7,8,9,10] (l0) ?_
  refine liD 13 (d:=instDatByteArray) ([]:List ByteArray) ?_
  exact dAt [0,1,2,3,4,5,6,7,8,9,10,0,12,13] [0,1,2,3,4,5,6,7,8,9,10] [] (r1 trivial) (hs:=su) (hM:=trivial)
 refine Qfb (P:=True) 13 5 [0,1,2,3,5,6,7,8] ⟨31,13,[(1,.pt 5 0),(2,.pt 6 0),(13,.sl 11 0),zL13 p0,(18,.sl 12 0),zL10 p0],[zL12 p0,zL6 p0,zL2 p0,zL3 p0,zL1 p0,zL0 p0,zL8 p0,zL7 p0,zL5 p0,zL4 p0,zL9 p0]⟩ (by dsimp only[zL13,zL10,zL12,zL6,zL2,zL3,zL1,zL0,zL8,zL7,zL5,zL4,zL9]) ?_ fun r15=>?_
 ·
  intro _
  refine on 4 [2,3,4,6,7,8,9,10] (aS (dα:=instDatByteArray) (e:=9) (by':=16) ([]:List ByteArray) p0.Touch.Reads [11] (hb:=by(try simp only[List.length_append,List.length_cons,List.length_nil]);first | omega | exact om) (hm:=by(try simp only[List.length_append,List.length_cons,List.length_nil]);first | omega | exact om)) ?_
  exact dAt [0,1,2,3,4,5,6,7,8,9,10,0,13,12] [1,0,2,3,4,5,6,7,8,9,10] [] (r1 trivial) (hs:=su) (hM:=trivial)
 refine Qfb (P:=True) 13 6 [0,1,2,3,5,6,7] ⟨31,13,[(1,.pt 5 0),(2,.pt 6 0),(13,.sl 11 0),zL13 p0,(18,.sl 12 0),(20,.pt 5 7)],[zL12 p0,zL6 p0,zL2 p0,zL3 p0,zL1 p0,zL0 p0,zL8 p0,zL7 p0,zL5 p0,zL4 p0,zL9 p0]⟩ (by dsimp only[zL13,zL12,zL6,zL2,zL3,zL1,zL0,zL8,zL7,zL5,zL4,zL9]) ?_ fun r16=>?_
 ·
  intro _
  refine oL [4,8] (d2 ?_ (d2 ?_ d0))
  ·
   refine on1 4 [2,3,4,6,7,8,9,10] (aS (dα:=instDatByteArray) (e:=9) (by':=16) ([]:List ByteArray) p0.Touch.Reads [11] (hb:=by(try simp only[List.length_append,List.length_cons,List.length_nil]);first | omega | exact om) (hm:=by(try simp only[List.length_append,List.length_cons,List.length_nil]);first | omega | exact om)) ?_
   exact dAt [0,1,2,3,4,5,6,7,8,9,10,0,13,12] [1,0,2,3,4,5,6,7,8,9,10] [] (r13 trivial) (hs:=su) (hM:=trivial)
  ·
   refine on1 8 [2,3,4,6,7,8,9,10] (OpS.st rfl) ?_
   exact dAt [0,1,2,3,4,5,6,7,8,9,10,11,12] [0,1,2,3,4,5,6,7,8,9,10] [] (r15 trivial) (hs:=su) (hM:=trivial)
 refine Qfb (P:=True) 13 6 [0,1,2,3,6,7,8] ⟨31,12,[(1,.pt 5 0),(2,.pt 6 0),(13,.sl 11 0),zL13 p0,zL10 p0],[zL6 p0,zL2 p0,zL3 p0,zL1 p0,zL0 p0,zL8 p0,zL7 p0,zL5 p0,zL4 p0,zL9 p0]⟩ (by dsimp only[zL13,zL10,zL6,zL2,zL3,zL1,zL0,zL8,zL7,zL5,zL4,zL9]) ?_ fun r17=>?_
 ·
  intro _
  refine oL [4,5] (d2 ?_ (d2 ?_ d0))
  ·
   refine on1 4 [1,2,3,5,6,7,8,9] (aS (dα:=instDatByteArray) (e:=9) (by':=16) ([]:List ByteArray) p0.Touch.Reads [11] (hb:=by(try simp only[List.length_append,List.length_cons,List.length_nil]);first | omega | exact om) (hm:=by(try simp only[List.length_append,List.length_cons,List.length_nil]);first | omega | exact om)) ?_
   exact dAt [0,1,2,3,4,5,6,7,8,9,10,0,12] [0,1,2,3,4,5,6,7,8,9] [] (r14 trivial) (hs:=su) (hM:=trivial)
  ·
   refine on1 5 [2,3,4,6,7,8,9,10] (l0) ?_
   refine liD 12 (d:=instDatByteArray) ([]:List ByteArray) ?_
   exact dAt [0,1,2,3,4,5,6,7,8,9,10,11,12] [0,1,2,3,4,5,6,7,8,9,10] [] (r15 trivial) (hs:=su) (hM:=trivial)
 refine Qfb (P:=True) 13 6 [0,1,2,5,6,7,8] ⟨31,13,[(1,.pt 5 0),(2,.pt 6 0),(13,.sl 11 0),(15,.pt 5 6),(18,.sl 12 0),zL10 p0],[zL12 p0,zL6 p0,zL2 p0,zL3 p0,zL1 p0,zL0 p0,zL8 p0,zL7 p0,zL5 p0,zL4 p0,zL9 p0]⟩ (by dsimp only[zL10,zL12,zL6,zL2,zL3,zL1,zL0,zL8,zL7,zL5,zL4,zL9]) ?_ fun r18=>?_
 ·
  intro _
  refine on 3 [2,3,4,6,7,8,9,10] (OpS.st rfl) ?_
  exact dAt [0,1,2,3,4,5,6,7,8,9,10,11,12] [0,1,2,3,4,5,6,7,8,9,10] [] (r15 trivial) (hs:=su) (hM:=trivial)
 refine Qfb (P:=True) 13 6 [1,2,3,5,6,7,8] ⟨31,12,[(1,.pt 5 0),(2,.pt 6 0),zL13 p0,(18,.sl 11 0),zL10 p0],[zL6 p0,zL2 p0,zL3 p0,zL1 p0,zL0 p0,zL8 p0,zL7 p0,zL5 p0,zL4 p0,zL9 p0]⟩ (by dsimp only[zL13,zL10,zL6,zL2,zL3,zL1,zL0,zL8,zL7,zL5,zL4,zL9]) ?_ fun r19=>?_
 ·
  intro _
  refine on 0 [2,3,4,6,7,8,9,10] (l0) ?_
  refine liD 12 (d:=instDatByteArray) ([]:List ByteArray) ?_
  exact dAt [0,1,2,3,4,5,6,7,8,9,10,12,11] [1,0,2,3,4,5,6,7,8,9,10] [] (r15 trivial) (hs:=su) (hM:=trivial)
 refine Qfb (P:=True) 13 7 [0,1,2,3,6,7] ⟨31,12,[(1,.pt 5 0),(2,.pt 6 0),(13,.sl 11 0),zL13 p0,(20,.pt 5 7)],[zL6 p0,zL2 p0,zL3 p0,zL1 p0,zL0 p0,zL8 p0,zL7 p0,zL5 p0,zL4 p0,zL9 p0]⟩ (by dsimp only[zL13,zL6,zL2,zL3,zL1,zL0,zL8,zL7,zL5,zL4,zL9]) ?_ fun r20=>?_
 ·
  intro _
  refine oL [4,5,8] (d2 ?_ (d2 ?_ (d2 ?_ d0)))
  ·
   refine on1 4 [1,2,3,5,6,7,8,9] (aS (dα:=instDatByteArray) (e:=9) (by':=16) ([]:List ByteArray) p0.Touch.Reads [11] (hb:=by(try simp only[List.length_append,List.length_cons,List.length_nil]);first | omega | exact om) (hm:=by(try simp only[List.length_append,List.length_cons,List.length_nil]);first | omega | exact om)) ?_
   refine oL [5,8] (d2 ?_ (d2 ?_ d0))
   ·
    refine on1 5 [2,3,4,6,7,8,9,10] (l0) ?_
    refine liD 13 (d:=instDatByteArray) ([]:List ByteArray) ?_
    exact dAt [0,1,2,3,4,5,6,7,8,9,10,0,12,13] [0,1,2,3,4,5,6,7,8,9,10] [] (r13 trivial) (hs:=su) (hM:=trivial)
   ·
    refine on1 8 [1,2,3,5,6,7,8,9] (OpS.st rfl) ?_
    exact dAt [0,1,2,3,4,5,6,7,8,9,10,0,12] [0,1,2,3,4,5,6,7,8,9] [] (r14 trivial) (hs:=su) (hM:=trivial)
  ·
   refine on1 5 [2,3,4,6,7,8,9,10] (l0) ?_
   refine liD 12 (d:=instDatByteArray) ([]:List ByteArray) ?_
   exact dAt [0,1,2,3,4,5,6,7,8,9,10,11,12] [0,1,2,3,4,5,6,7,8,9,10] [] (r16 trivial) (hs:=su) (hM:=trivial)
  ·
   refine on1 8 [1,2,3,5,6,7,8,9] (OpS.st rfl) ?_
   exact dAt [0,1,2,3,4,5,6,7,8,9,10,11] [0,1,2,3,4,5,6,7,8,9] [] (r17 trivial) (hs:=su) (hM:=trivial)
 refine Qfb (P:=True) 13 7 [0,1,2,5,6,7] ⟨31,13,[(1,.pt 5 0),(2,.pt 6 0),(13,.sl 11 0),(15,.pt 5 6),(18,.sl 12 0),(20,.pt 5 7)],[zL12 p0,zL6 p0,zL2 p0,zL3 p0,zL1 p0,zL0 p0,zL8 p0,zL7 p0,zL5 p0,zL4 p0,zL9 p0]⟩ (by dsimp only[zL12,zL6,zL2,zL3,zL1,zL0,zL8,zL7,zL5,zL4,zL9]) ?_ fun r21=>?_
 ·
  intro _
  refine oL [3,8] (d2 ?_ (d2 ?_ d0))
  ·
   refine on1 3 [2,3,4,6,7,8,9,10] (OpS.st rfl) ?_
   exact dAt [0,1,2,3,4,5,6,7,8,9,10,11,12] [0,1,2,3,4,5,6,7,8,9,10] [] (r16 trivial) (hs:=su) (hM:=trivial)
  ·
   refine on1 8 [2,3,4,6,7,8,9,10] (OpS.st rfl) ?_
   exact dAt [0,1,2,3,4,5,6,7,8,9,10,11,12] [0,1,2,3,4,5,6,7,8,9,10] [] (r18 trivial) (hs:=su) (hM:=trivial)
 refine Qfb (P:=True) 13 7 [0,1,2,6,7,8] ⟨31,12,[(1,.pt 5 0),(2,.pt 6 0),(13,.sl 11 0),(15,.pt 5 6),zL10 p0],[zL6 p0,zL2 p0,zL3 p0,zL1 p0,zL0 p0,zL8 p0,zL7 p0,zL5 p0,zL4 p0,zL9 p0]⟩ (by dsimp only[zL10,zL6,zL2,zL3,zL1,zL0,zL8,zL7,zL5,zL4,zL9]) ?_ fun r22=>?_
 ·
  intro _
  refine oL [3,5] (d2 ?_ (d2 ?_ d0))
  ·
   refine on1 3 [1,2,3,5,6,7,8,9] (OpS.st rfl) ?_
   exact dAt [0,1,2,3,4,5,6,7,8,9,10,11] [0,1,2,3,4,5,6,7,8,9] [] (r17 trivial) (hs:=su) (hM:=trivial)
  ·
   refine on1 5 [2,3,4,6,7,8,9,10] (l0) ?_
   refine liD 12 (d:=instDatByteArray) ([]:List ByteArray) ?_
   exact dAt [0,1,2,3,4,5,6,7,8,9,10,11,12] [0,1,2,3,4,5,6,7,8,9,10] [] (r18 trivial) (hs:=su) (hM:=trivial)
 refine Qfb (P:=True) 13 7 [1,2,3,5,6,7] ⟨31,12,[(1,.pt 5 0),(2,.pt 6 0),zL13 p0,(18,.sl 11 0),(20,.pt 5 7)],[zL6 p0,zL2 p0,zL3 p0,zL1 p0,zL0 p0,zL8 p0,zL7 p0,zL5 p0,zL4 p0,zL9 p0]⟩ (by dsimp only[zL13,zL6,zL2,zL3,zL1,zL0,zL8,zL7,zL5,zL4,zL9]) ?_ fun r23=>?_
 ·
  intro _
  refine oL [0,8] (d2 ?_ (d2 ?_ d0))
  ·
   refine on1 0 [2,3,4,6,7,8,9,10] (l0) ?_
   refine liD 12 (d:=instDatByteArray) ([]:List ByteArray) ?_
   exact dAt [0,1,2,3,4,5,6,7,8,9,10,12,11] [1,0,2,3,4,5,6,7,8,9,10] [] (r16 trivial) (hs:=su) (hM:=trivial)
  ·
   refine on1 8 [1,2,3,5,6,7,8,9] (OpS.st rfl) ?_
   exact dAt [0,1,2,3,4,5,6,7,8,9,10,11] [0,1,2,3,4,5,6,7,8,9] [] (r19 trivial) (hs:=su) (hM:=trivial)
 refine Qfb (P:=True) 13 7 [1,2,3,6,7,8] ⟨31,11,[(1,.pt 5 0),(2,.pt 6 0),zL13 p0,zL10 p0],[zL2 p0,zL3 p0,zL1 p0,zL0 p0,zL8 p0,zL7 p0,zL5 p0,zL4 p0,zL9 p0]⟩ (by dsimp only[zL13,zL10,zL2,zL3,zL1,zL0,zL8,zL7,zL5,zL4,zL9]) ?_ fun r24=>?_
 ·
  intro _
  refine oL [0,5] (d2 ?_ (d2 ?_ d0))
  ·
   refine on1 0 [1,2,3,5,6,7,8,9] (l0) ?_
   refine liD 11 (d:=instDatByteArray) ([]:List ByteArray) ?_
   exact dAt [0,1,2,3,4,5,6,7,8,9,10,11] [0,1,2,3,4,5,6,7,8,9] [] (r17 trivial) (hs:=su) (hM:=trivial)
  ·
   refine on1 5 [1,2,3,5,6,7,8,9] (l0) ?_
   refine liD 11 (d:=instDatByteArray) ([]:List ByteArray) ?_
   exact dAt [0,1,2,3,4,5,6,7,8,9,10,11] [0,1,2,3,4,5,6,7,8,9] [] (r19 trivial) (hs:=su) (hM:=trivial)
 refine Qfb (P:=True) 13 7 [1,2,5,6,7,8] ⟨31,12,[(1,.pt 5 0),(2,.pt 6 0),(15,.pt 5 6),(18,.sl 11 0),zL10 p0],[zL6 p0,zL2 p0,zL3 p0,zL1 p0,zL0 p0,zL8 p0,zL7 p0,zL5 p0,zL4 p0,zL9 p0]⟩ (by dsimp only[zL10,zL6,zL2,zL3,zL1,zL0,zL8,zL7,zL5,zL4,zL9]) ?_ fun r25=>?_
 ·
  intro _
  refine oL [0,3] (d2 ?_ (d2 ?_ d0))
  ·
   refine on1 0 [2,3,4,6,7,8,9,10] (l0) ?_
   refine liD 12 (d:=instDatByteArray) ([]:List ByteArray) ?_
   exact dAt [0,1,2,3,4,5,6,7,8,9,10,12,11] [1,0,2,3,4,5,6,7,8,9,10] [] (r18 trivial) (hs:=su) (hM:=trivial)
  ·
   refine on1 3 [1,2,3,5,6,7,8,9] (OpS.st rfl) ?_
   exact dAt [0,1,2,3,4,5,6,7,8,9,10,11] [0,1,2,3,4,5,6,7,8,9] [] (r19 trivial) (hs:=su) (hM:=trivial)
 refine oL [0,3,5,8] (d2 ?_ (d2 ?_ (d2 ?_ (d2 ?_ d0))))
 ·
  refine on1 0 [1,2,3,5,6,7,8,9] (l0) ?_
  refine liD 11 (d:=instDatByteArray) ([]:List ByteArray) ?_
  refine oL [3,5,8] (d2 ?_ (d2 ?_ (d2 ?_ d0)))
  ·
   refine on1 3 [1,2,3,5,6,7,8,9] (OpS.st rfl) ?_
   exact dAt [0,1,2,3,4,5,6,7,8,9,10,11] [0,1,2,3,4,5,6,7,8,9] [] (r20 trivial) (hs:=su) (hM:=trivial)
  ·
   refine on1 5 [2,3,4,6,7,8,9,10] (l0) ?_
   refine liD 12 (d:=instDatByteArray) ([]:List ByteArray) ?_
   exact dAt [0,1,2,3,4,5,6,7,8,9,10,11,12] [0,1,2,3,4,5,6,7,8,9,10] [] (r21 trivial) (hs:=su) (hM:=trivial)
  ·
   refine on1 8 [1,2,3,5,6,7,8,9] (OpS.st rfl) ?_
   exact dAt [0,1,2,3,4,5,6,7,8,9,10,11] [0,1,2,3,4,5,6,7,8,9] [] (r22 trivial) (hs:=su) (hM:=trivial)
 ·
  refine on1 3 [0,1,2,4,5,6,7,8] (OpS.st rfl) ?_
  refine oL [0,5,8] (d2 ?_ (d2 ?_ (d2 ?_ d0)))
  ·
   refine on1 0 [1,2,3,5,6,7,8,9] (l0) ?_
   refine liD 11 (d:=instDatByteArray) ([]:List ByteArray) ?_
   exact dAt [0,1,2,3,4,5,6,7,8,9,10,11] [0,1,2,3,4,5,6,7,8,9] [] (r20 trivial) (hs:=su) (hM:=trivial)
  ·
   refine on1 5 [1,2,3,5,6,7,8,9] (l0) ?_
   refine liD 11 (d:=instDatByteArray) ([]:List ByteArray) ?_
   exact dAt [0,1,2,3,4,5,6,7,8,9,10,11] [0,1,2,3,4,5,6,7,8,9] [] (r23 trivial) (hs:=su) (hM:=trivial)
  ·
   refine on1 8 [0,1,2,4,5,6,7,8] (OpS.st rfl) ?_
   exact dAt [0,1,2,3,4,5,6,7,8,9,10] [0,1,2,3,4,5,6,7,8] [] (r24 trivial) (hs:=su) (hM:=trivial)
 ·
  refine on1 5 [1,2,3,5,6,7,8,9] (l0) ?_
  refine liD 11 (d:=instDatByteArray) ([]:List ByteArray) ?_
  refine oL [0,3,8] (d2 ?_ (d2 ?_ (d2 ?_ d0)))
  ·
   refine on1 0 [2,3,4,6,7,8,9,10] (l0) ?_
   refine liD 12 (d:=instDatByteArray) ([]:List ByteArray) ?_
   exact dAt [0,1,2,3,4,5,6,7,8,9,10,12,11] [1,0,2,3,4,5,6,7,8,9,10] [] (r21 trivial) (hs:=su) (hM:=trivial)
  ·
   refine on1 3 [1,2,3,5,6,7,8,9] (OpS.st rfl) ?_
   exact dAt [0,1,2,3,4,5,6,7,8,9,10,11] [0,1,2,3,4,5,6,7,8,9] [] (r23 trivial) (hs:=su) (hM:=trivial)
  ·
   refine on1 8 [1,2,3,5,6,7,8,9] (OpS.st rfl) ?_
   exact dAt [0,1,2,3,4,5,6,7,8,9,10,11] [0,1,2,3,4,5,6,7,8,9] [] (r25 trivial) (hs:=su) (hM:=trivial)
 ·
  refine on1 8 [0,1,2,4,5,6,7,8] (OpS.st rfl) ?_
  refine oL [0,3,5] (d2 ?_ (d2 ?_ (d2 ?_ d0)))
  ·
   refine on1 0 [1,2,3,5,6,7,8,9] (l0) ?_
   refine liD 11 (d:=instDatByteArray) ([]:List ByteArray) ?_
   exact dAt [0,1,2,3,4,5,6,7,8,9,10,11] [0,1,2,3,4,5,6,7,8,9] [] (r22 trivial) (hs:=su) (hM:=trivial)
  ·
   refine on1 3 [0,1,2,4,5,6,7,8] (OpS.st rfl) ?_
   exact dAt [0,1,2,3,4,5,6,7,8,9,10] [0,1,2,3,4,5,6,7,8] [] (r24 trivial) (hs:=su) (hM:=trivial)
  ·
   refine on1 5 [1,2,3,5,6,7,8,9] (l0) ?_
   refine liD 11 (d:=instDatByteArray) ([]:List ByteArray) ?_
   exact dAt [0,1,2,3,4,5,6,7,8,9,10,11] [0,1,2,3,4,5,6,7,8,9] [] (r25 trivial) (hs:=su) (hM:=trivial)
def Qd5 (p0:List Tx):Nat→(List Tx)→Nat→(List Tx)
 | 0,v3,i=>v3
 | n+1,v3,i=>Qd5 p0 n (v3++[(Qic (nth p0 i))]) (i+1)
def Qcc (p0:List Tx):(List Tx):=Qd5 p0 (p0.length - 0) ([]:List Tx) 0
theorem Qpk (p0:List Tx) (hs:Dat.small 1048576 p0):CTs 185 [.o (.sl Tx instDatTx p0)] [Re.sl Tx instDatTx (Qcc p0)]:=by
 refine en Tryz.func185 Tryz.ntmps185 fun w hG hgd=>?_
 obtain⟨hg_p0,_⟩:=hgd
 have hl_p0:p0.length≤9223372036854775807:=hg_p0.1
 have hM:=Qcc.eq_1 p0
 have hs1:p0.length≤1048576:=hs.1
 refine ad 6 ?_
 refine op (l0) ?_
 refine ad 8 ?_
 refine li 1 (d:=instDatTx) ([]:List Tx) ?_
 refine Run.loopM (ι:=(List Tx)×Nat) (fun s=>Qd5 p0 (p0.length - s.2) s.1 s.2) (fun s=>⟨21,2,[(0,.sl 0 p0.length),(3,.sl 1 s.1.length),(4,.v (.int .i64 (s.2:Int)))],[(0,.ros Tx instDatTx p0),(1,.own Tx instDatTx s.1)]⟩) (fun s=>s.2≤p0.length∧s.1.length≤s.2) (fun s=>p0.length - s.2) (([]:List Tx),0) [0,1] [1,0] hM (by exact⟨by(try dsimp only);omega,by simp⟩) su (by decide) ?_
 rintro ⟨v3,i⟩ hv hE
 try dsimp only at hE
 obtain⟨hi,hv0⟩:=hv
 try dsimp only at hi hv0
 refine ad 8 ?_
 refine cd (fun h1=>?_) (fun h1=>?_)
 ·
  have h1l:i<p0.length:=by have:=of_decide_eq_true h1;omega
  have hM:=hE.trans ((congrArg (fun n=>Qd5 p0 n v3 i) (show p0.length - i=(p0.length - (i+1))+1 by omega)).trans (Qd5.eq_2 _ _ _ _))
  have hstX:=Qcs hs (k:=i) (by omega)
  refine ad 7 ?_
  have hg3:=Qan (k:=i) hg_p0 om
  refine op (ix (xs:=p0) i om) ?_
  refine ad 1 ?_
  have hg4:Dat.good (nth p0 i:Tx):=hg3
  refine og (clg (Q2d (nth p0 i) (by first | assumption | exact hstX)) Yrv) fun hgq=>?_
  obtain⟨hg5,_⟩:=hgq
  refine ad 1 ?_
  refine op (aN (e:=119) (by':=160) v3 (Qic (nth p0 i)) [1] (hg:=hg5) (hb:=by(try simp only[List.length_cons,List.length_nil]);first | omega | exact om) (hm:=by(try simp only[List.length_cons,List.length_nil]);first | omega | exact om)) ?_
  refine ad 6 ?_
  rw[Qcv (i:=i) om]
  refine ad 2 ?_
  exact Run.again ((v3++[(Qic (nth p0 i))]),(i+1)) [0,14] [8,0] ⟨by exact⟨by(try dsimp only);omega,by(try dsimp only);(try simp only[List.length_append,List.length_cons,List.length_nil]);omega⟩,hM⟩ rfl lv1 su (by decide)
 ·
  have h1l: ¬ (i<p0.length):=by have:=of_decide_eq_false h1;omega
  have hM:=hE.trans ((congrArg (fun n=>Qd5 p0 n v3 i) (show p0.length - i=0 by omega)).trans (Qd5.eq_1 _ _ _))
  refine ad 6 ?_
  exact rz (rs:=[.tmp 2]) (congrArg (fun x=>[Re.sl Tx instDatTx x]) hM)
def Qd3 (p0:Kernel):Nat→(List Entry)→Nat→Kernel
 | 0,v3,i=>(Kernel.mk (([]:List Cell)++p0.Store) (Qcc p0.Txs) (Qah p0.Disk) p0.Seq p0.Next p0.Time v3 (([]:List ByteArray)++p0.Seen) p0.Room)
 | n+1,v3,i=>Qd3 p0 n (v3++[(Qhq (nth p0.History i))]) (i+1)
def Qaa (p0:Kernel):Kernel:=Qd3 p0 (p0.History.length - 0) ([]:List Entry) 0
theorem Q2c (p0:Kernel) (hs:KSm p0):CTs 124 [.o (.st Kernel _ inferInstance p0)] [Re.st Kernel _ inferInstance (Qaa p0)]:=by
 refine en Tryz.func124 Tryz.ntmps124 fun w hG hgd=>?_
 obtain⟨hg_p0,_⟩:=hgd
 have hM:=Qaa.eq_1 p0
 have hk0:p0.Store.length≤1073741824:=hs.1
 have hk1:p0.Seen.length≤1048576:=hs.2.2.2.2
 have hsmX:Dat.small 1048576 p0.Txs:=hs.2.1
 have hsmH:Dat.small 1048576 p0.History:=hs.2.2.2.1
 have hk2:p0.History.length≤1048576:=hsmH.1
 have hsmD:Dat.small 1048576 p0.Disk:=hs.2.2.1
 refine ad 7 ?_
 refine op (l0) ?_
 refine ad 2 ?_
 refine li 7 (d:=instDatCell) ([]:List Cell) ?_
 refine op (aS (dα:=instDatCell) (e:=114) (by':=32) ([]:List Cell) p0.Store [7] (hb:=by(try simp only[List.length_append,List.length_cons,List.length_nil]);first | omega | exact om) (hm:=by(try simp only[List.length_append,List.length_cons,List.length_nil]);first | omega | exact om)) ?_
 refine ad 7 ?_
 refine og (clg (Qpk p0.Txs (by first | assumption | exact hsmX)) Yon) fun hgq=>?_
 obtain⟨hg1,_⟩:=hgq
 refine ad 7 ?_
 have hg2:Dat.good (p0.Disk:Disk):=hg_p0.2.2.1
 refine og (clg (Ql3 p0.Disk (by first | assumption | exact hsmD)) Yll) fun hgq=>?_
 obtain⟨hg3,_⟩:=hgq
 refine ad 5 ?_
 refine op (l0) ?_
 refine ad 8 ?_
 refine li 11 (d:=instDatEntry) ([]:List Entry) ?_
 refine Run.loopM (ι:=(List Entry)×Nat) (fun s=>Qd3 p0 (p0.History.length - s.2) s.1 s.2) (fun s=>⟨43,8,[(1,.pt 0 0),(2,.pt 6 0),(3,.sl 7 s.1.length),(4,.v (.int .i64 (s.2:Int)))],[(0,.var [.sl 1 ((([]:List Cell)++p0.Store).length),.sl 2 ((Qcc p0.Txs).length),.sl 3 ((Qah p0.Disk).Slots.length),.v (.string ((Qah p0.Disk).Journal.Text)),.v (.int .i64 ((Qah p0.Disk).Journal.Sure)),.v (.int .i64 p0.Seq),.v (.int .i64 p0.Next),.v (.int .i64 p0.Time),.sl 4 p0.History.length,.sl 5 p0.Seen.length,.v (.bool p0.Room)] 43),(1,.own Cell instDatCell (([]:List Cell)++p0.Store)),(2,.own Tx instDatTx (Qcc p0.Txs)),(3,.own Slot instDatSlot ((Qah p0.Disk).Slots)),(4,.ros Entry instDatEntry p0.History),(5,.ros ByteArray instDatByteArray p0.Seen),(6,.var [.v (.slice none 0 0),.v (.slice none 0 0),.v (.slice none 0 0),.v (.string ⟨#[]⟩),.v (.int .i64 0),.v (.int .i64 0),.v (.int .i64 0),.v (.int .i64 0),.v (.slice none 0 0),.v (.slice none 0 0),.v (.bool false)] 43),(7,.own Entry instDatEntry s.1)]⟩) (fun s=>s.2≤p0.History.length∧s.1.length≤s.2) (fun s=>p0.History.length - s.2) (([]:List Entry),0) [5,8,9,10,3,4,6,11] [5,3,2,1,9,10,4,0] hM (by exact⟨by(try dsimp only);omega,by simp⟩) su (by decide) ?_
 rintro ⟨v3,i⟩ hv hE
 try dsimp only at hE
 obtain⟨hi,hv0⟩:=hv
 try dsimp only at hi hv0
 refine ad 9 ?_
 refine cd (fun h4=>?_) (fun h4=>?_)
 ·
  have h4l:i<p0.History.length:=by have:=of_decide_eq_true h4;omega
  have hM:=hE.trans ((congrArg (fun n=>Qd3 p0 n v3 i) (show p0.History.length - i=(p0.History.length - (i+1))+1 by omega)).trans (Qd3.eq_2 _ _ _ _))
  have hgen:=Qan (k:=i) hg_p0.2.2.2.2.2.2.1 om
  have hsE:=Qcs hsmH (k:=i) (by omega)
  refine ad 8 ?_
  refine op (ix (xs:=p0.History) i om) ?_
  refine ad 1 ?_
  refine og (clg (Q04 (nth p0.History i) (by first | assumption | exact hsE)) Yvg) fun hgq=>?_
  obtain⟨hg6,_⟩:=hgq
  refine ad 1 ?_
  refine op (aN (e:=80) (by':=96) v3 (Qhq (nth p0.History i)) [7] (hg:=hg6) (hb:=by(try simp only[List.length_cons,List.length_nil]);first | omega | exact om) (hm:=by(try simp only[List.length_cons,List.length_nil]);first | omega | exact om)) ?_
  refine ad 6 ?_
  rw[Qcv (i:=i) om]
  refine ad 2 ?_
  exact Run.again ((v3++[(Qhq (nth p0.History i))]),(i+1)) [0,1,2,3,4,5,6,14] [5,6,7,8,9,10,11,0] ⟨by exact⟨by(try dsimp only);omega,by(try dsimp only);(try simp only[List.length_append,List.length_cons,List.length_nil]);omega⟩,hM⟩ rfl lv1 su (by decide)
 ·
  have h4l: ¬ (i<p0.History.length):=by have:=of_decide_eq_false h4;omega
  have hM:=hE.trans ((congrArg (fun n=>Qd3 p0 n v3 i) (show p0.History.length - i=0 by omega)).trans (Qd3.eq_1 _ _ _))
  refine ad 9 ?_
  refine op (l0) ?_
  refine ad 2 ?_
  refine li 8 (d:=instDatByteArray) ([]:List ByteArray) ?_
  refine op (aS (dα:=instDatByteArray) (e:=9) (by':=16) ([]:List ByteArray) p0.Seen [8] (hb:=by(try simp only[List.length_append,List.length_cons,List.length_nil]);first | omega | exact om) (hm:=by(try simp only[List.length_append,List.length_cons,List.length_nil]);first | omega | exact om)) ?_
  refine ad 8 ?_
  refine gd 9 fun hg7=>?_
  refine gd 1 fun hg8=>?_
  refine gd 2 fun hg9=>?_
  refine gd 5 fun hg10=>?_
  refine gd 7 fun hg11=>?_
  have hg12:Dat.good (Kernel.mk (([]:List Cell)++p0.Store) (Qcc p0.Txs) (Qah p0.Disk) p0.Seq p0.Next p0.Time v3 (([]:List ByteArray)++p0.Seen) p0.Room:Kernel):=⟨hg8,hg9,hg3,hg_p0.2.2.2.1,hg_p0.2.2.2.2.1,hg_p0.2.2.2.2.2.1,hg11,hg7,hg_p0.2.2.2.2.2.2.2.2⟩
  exact rz (rs:=[.cell 2 43]) (congrArg (fun x=>[Re.st Kernel _ inferInstance x]) hM)
end
section
theorem Ylz (l:List UInt8) (k:Nat):Qav ⟨l.toArray⟩ k=l.getD k 0:=by
 unfold Qav
 simp[Array.getD_eq_getD_getElem?,List.getD_eq_getElem?_getD]
theorem Ye3 (p0:Disk): ∀ n i,Qdf p0 n i=p0:=by
 intro n
 induction n with
 | zero=>intro i;rfl
 | succ n ih=>intro i;rw[Qdf,ih]
theorem Q9q (p0:Disk):Qal p0=p0:=Ye3 p0 _ _
theorem Yjt (p0:Disk): ∀ n v i,i+n=p0.Slots.length→v=p0.Slots.take i→Qd4 p0 n v i=p0:=by
 intro n
 induction n with
 | zero =>
  intro v i hi hv
  rw[Qd4,hv,List.take_of_length_le (by omega)]
 | succ n ih =>
  intro v i hi hv
  rw[Qd4]
  refine ih _ (i+1) (by omega) ?_
  rw[hv,Qgh (by omega),List.nil_append]
theorem Q00 (p0:Disk):Qah p0=p0:=Yjt p0 _ _ 0 (by omega) rfl
theorem Yj6 (a:Int) {c:Int} (h:0≤c):Qd1 a 0 c=Qbu a 0 c:=by
 unfold Qd1 Qbu
 cases h1:(decide (c<0)||decide (a<0)) with
 | true =>
  have h2:c<0∨a<0:=by simpa using h1
  show max 0 (min a c)=0
  omega
 | false =>
  have h2:=of_decide_eq_false (Bool.or_eq_false_iff.1 h1).2
  cases h3:decide (a>c) with
  | true=>have h4:=of_decide_eq_true h3;show max 0 (min a c)=c;omega
  | false=>have h4:=of_decide_eq_false h3;show max 0 (min a c)=a;omega
theorem Q23 (p0:Journal):Qhf p0=Qam p0:=rfl
theorem Qzq (p0:Journal) (p1:Int):Qdn p0 p1=Qcw p0 p1:=by
 unfold Qdn Qcw
 rw[Q23]
 cases h:Qam p0 with
 | false=>rfl
 | true =>
  have hj:=Qj4 h
  have hw1:i64.wrap ((p0.Text.size:Int) - p0.Sure)=(p0.Text.size:Int) - p0.Sure:=IntWalk.i64_in _ (by omega)
  rw[Bool.not_true,cond_false,cond_false,hw1,Yj6 _ (by omega)]
  have hbr:=Qn6 p1 (c:=(p0.Text.size:Int) - p0.Sure) (by omega)
  rw[IntWalk.i64_in (p0.Sure+Qbu p1 0 ((p0.Text.size:Int) - p0.Sure)) (by omega)]
  have hz0:0≤p0.Sure+Qbu p1 0 ((p0.Text.size:Int) - p0.Sure)∧p0.Sure+Qbu p1 0 ((p0.Text.size:Int) - p0.Sure)≤(p0.Text.size:Int):=by omega
  generalize p0.Sure+Qbu p1 0 ((p0.Text.size:Int) - p0.Sure)=z at hz0 ⊢
  have hz:((cutS p0.Text 0 z.toNat).size:Int)=z:=by
   unfold cutS
   rw[ByteArray.size_extract]
   omega
  rw[hz]
theorem Qzr (p0:Disk) (p1:Int): ∀ n v i,Qdo p0 p1 n v i=Qcx p0 p1 n v i:=by
 intro n
 induction n with
 | zero=>intro v i;rw[Qdo,Qcx,Qzq,Q00]
 | succ n ih=>intro v i;rw[Qdo,Qcx,ih]
theorem Qr1 (p0:Disk) (p1:Int):Qar p0 p1=Qao p0 p1:=by
 unfold Qar Qao
 rw[Q9q,Q00,Qlh,Qzr]
end
section
theorem Q9l (p0:List Entry): ∀ n i,Qc6 p0 n i=p0:=by
 intro n
 induction n with
 | zero=>intro i;rfl
 | succ n ih=>intro i;rw[Qc6,ih]
theorem Yjs (p0:List Entry):Qg8 p0=p0:=Q9l p0 _ _
end
section
def sumS (xs:List ByteArray):Nat:=(xs.map ByteArray.size).sum
theorem Qnz (x:ByteArray) (xs:List ByteArray):sumS (x::xs)=x.size+sumS xs:=rfl
theorem Yfr (xs ys:List ByteArray):sumS (xs++ys)=sumS xs+sumS ys:=by unfold sumS;rw[List.map_append,List.sum_append]
theorem Q8p {sep:ByteArray} (hs:sep.size=1): ∀ (k:Nat) (s:ByteArray),sumS (Lib.splitB sep 1 k s)≤s.size
 | 0,s=>by rw[Lib.splitB_zero];exact Nat.le_refl _
 | k + 1, s => by
  rcases Lib.indexB_cases s sep with h | ⟨i,h,_⟩
  ·rw[Lib.splitB_miss sep 1 (k+1) s h];exact Nat.le_refl _
  ·rw[Lib.splitB_hit sep 1 k s i h,Qnz]
   have:=Q8p hs k (s.extract (i+sep.size) s.size)
   rw[ByteArray.size_extract] at this
   rw[ByteArray.size_extract]
   omega
theorem Ydn: ∀ xs,sumS (Qk5 xs)≤sumS xs
 | []=>Nat.le_refl _
 | x :: xs => by
  have:=Ydn xs
  unfold Qk5 at this ⊢
  rw[List.filter_cons]
  split
  ·rw[Qnz,Qnz];omega
  ·rw[Qnz];omega
theorem Yfi (p0:ByteArray):sumS (Qbk p0)≤p0.size:=Nat.le_trans (Ydn _) (Q8p rfl _ _)
theorem Yfq (xs:List ByteArray) (i:Nat):sumS (xs.take i)≤sumS xs:=by
 have:=Yfr (xs.take i) (xs.drop i)
 rw[List.take_append_drop] at this
 omega
theorem Qnr (p0:ByteArray) (p1:Int) (hq:p0.size≤1048576): ∀ n v s i,i+n=(Qbk p0).length→0≤s→s≤(sumS ((Qbk p0).take i):Int)→0≤(Qbj p0 p1 n v s i).2∧(Qbj p0 p1 n v s i).2≤(p0.size:Int):=by
 have ht:=Yfi p0
 intro n
 induction n with
 | zero =>
  intro v s i _ h0 h1
  have:=Yfq (Qbk p0) i
  exact⟨h0,by show s≤_;omega⟩
 | succ n ih =>
  intro v s i hi h0 h1
  have h2:=Yfq (Qbk p0) (i+1)
  have h3:=Qgh (xs:=Qbk p0) (i:=i) (by omega)
  have h4:=Yfr ((Qbk p0).take i) [nth (Qbk p0) i]
  rw[←h3,Qnz] at h4
  have hw:=IntWalk.i64_in (s+((nth (Qbk p0) i).size:Int)) (by omega)
  have h5:=ih (bif (!((decide ((v.length:Int)=0))&&(decide (((Qaw (nth (Qbk p0) i)).1)<p1)))) then(v++[(Qaw (nth (Qbk p0) i)).2.1]) else v) (i64.wrap (s+((nth (Qbk p0) i).size:Int))) (i+1) (by omega) (by omega) (by omega)
  rw[Qbj]
  cases(!((Qaw (nth (Qbk p0) i)).2.2))||((!((decide ((v.length:Int)=0))&&(decide (((Qaw (nth (Qbk p0) i)).1)<p1))))&&(!decide (((Qaw (nth (Qbk p0) i)).1)=(i64.wrap (p1+(v.length:Int)))))) with
  | true=>exact⟨h0,by show s≤_;omega⟩
  | false=>exact h5
theorem Qk8 (p0:ByteArray) (p1:Int) (hq:p0.size≤1048576):0≤(Qac p0 p1).2∧(Qac p0 p1).2≤(p0.size:Int):=by
 unfold Qac
 cases !(Qb9 p1 1 100000) with
 | true=>exact⟨Int.le_refl _,by show(0:Int)≤_;omega⟩
 | false=>exact Qnr p0 p1 hq _ _ _ 0 (by omega) (Int.le_refl _) (by show(0:Int)≤_;omega)
theorem Qp1 (p0:ByteArray) (p1:Int) (hq:p0.size≤1048576):0≤(Qak p0 p1).2∧(Qak p0 p1).2≤(p0.size:Int):=by
 rw[←Qf7]
 exact Qk8 p0 p1 hq
theorem Qog (p0:ByteArray) (p1:Int): ∀ n v s i,I64 s→I64 (Qbj p0 p1 n v s i).2:=by
 intro n
 induction n with
 | zero=>intro v s i h;exact h
 | succ n ih =>
  intro v s i h
  rw[Qbj]
  cases(!((Qaw (nth (Qbk p0) i)).2.2))||((!((decide ((v.length:Int)=0))&&(decide (((Qaw (nth (Qbk p0) i)).1)<p1))))&&(!decide (((Qaw (nth (Qbk p0) i)).1)=(i64.wrap (p1+(v.length:Int)))))) with
  | true=>exact h
  | false=>exact ih _ _ _ (Qjo _)
theorem Qlq (p0:ByteArray) (p1:Int):I64 (Qac p0 p1).2:=by
 unfold Qac
 cases !(Qb9 p1 1 100000) with
 | true=>exact(show I64 0 from⟨by decide,by decide⟩)
 | false=>exact Qog p0 p1 _ _ _ _ (show I64 0 from⟨by decide,by decide⟩)
theorem Qqq (p0:ByteArray) (p1:Int):I64 (Qak p0 p1).2:=by
 rw[←Qf7]
 exact Qlq p0 p1
end
section
theorem Qs4 {j:Journal} {k:Int} {N:Nat} (hs:Dat.small N j):Dat.small N (Qcw j k):=by
 unfold Qcw
 cases !(Qam j) with
 | true=>exact hs
 | false=>exact⟨Q0z hs.1,trivial⟩
theorem Ykj {α:Type} [Dat α] {xs:List α} {N i:Nat} {x:α} (h:Dat.small N xs) (hx:Dat.small N x):Dat.small N (xs.set i x):=⟨by rw[List.length_set];exact h.1,fun y hy=>by rcases List.mem_or_eq_of_mem_set hy with h1 | rfl;exact h.2 y h1;exact hx⟩
theorem Qs5 {d:Disk} {k:Int} {N:Nat} (hj:Dat.small N (Qah d).Journal): ∀ n v i,Dat.small N v→Dat.small N (Qcx d k n v i):=by
 intro n
 induction n with
 | zero=>intro v i h;exact⟨h,Qs4 hj⟩
 | succ n ih =>
  intro v i h
  rw[Qcx]
  refine ih _ _ ?_
  cases !((nth v i).Whole) with
  | true=>exact Ykj h ⟨trivial,⟨Nat.zero_le _,fun _ h=>nomatch h⟩,trivial⟩
  | false=>exact h
theorem Qpt {d:Disk} {N:Nat} (hs:Dat.small N d) (k:Int):Dat.small N (Qao d k):=by
 have hc:Dat.small N (Qah d):=by rw[Q00];exact hs
 unfold Qao
 cases !(Qdz (Qah d)) with
 | true=>exact hc
 | false=>exact Qs5 hc.2 _ _ _ hc.1
theorem Qqh {d:Disk} {N:Nat} (hs:Dat.small N d) (k:Int):Dat.small N (Qar d k):=by
 rw[Qr1]
 exact Qpt hs k
theorem Yfd (x:Tx):Qhz x=x:=rfl
theorem Yqx (x:Tx):Qic x=x:=rfl
theorem Q85 (p0:List Tx): ∀ n v i,i+n=p0.length→v=p0.take i→Qd6 p0 n v i=p0:=by
 intro n
 induction n with
 | zero =>
  intro v i hi hv
  rw[Qd6,hv,List.take_of_length_le (by omega)]
 | succ n ih =>
  intro v i hi hv
  rw[Qd6]
  refine ih _ (i+1) (by omega) ?_
  rw[hv,Qgh (by omega),Yfd]
theorem Yjg (p0:List Tx):Qfs p0=p0:=Q85 p0 _ _ 0 (by omega) rfl
theorem Ykz (p0:List Tx): ∀ n v i,i+n=p0.length→v=p0.take i→Qd5 p0 n v i=p0:=by
 intro n
 induction n with
 | zero =>
  intro v i hi hv
  rw[Qd5,hv,List.take_of_length_le (by omega)]
 | succ n ih =>
  intro v i hi hv
  rw[Qd5]
  refine ih _ (i+1) (by omega) ?_
  rw[hv,Qgh (by omega),Yqx]
theorem Yk0 (p0:List Tx):Qcc p0=p0:=Ykz p0 _ _ 0 (by omega) rfl
theorem Qmq (p0:Kernel):Qae p0=p0:=by
 unfold Qae
 rw[Yjg,Q9q,Yjs]
 rfl
theorem Yet (e:Entry):Qhq e=e:=rfl
theorem Yky (p0:Kernel): ∀ n v i,i+n=p0.History.length→v=p0.History.take i→Qd3 p0 n v i=p0:=by
 intro n
 induction n with
 | zero =>
  intro v i hi hv
  rw[Qd3,hv,List.take_of_length_le (by omega),Yk0,Q00]
  rfl
 | succ n ih =>
  intro v i hi hv
  rw[Qd3]
  refine ih _ (i+1) (by omega) ?_
  rw[hv,Qgh (by omega),Yet]
theorem Q8t (p0:Kernel):Qaa p0=p0:=Yky p0 _ _ 0 (by omega) rfl
theorem Qmr (d:Disk): -9223372036854775808≤(Qbb d).2∧(Qbb d).2≤9223372036854775807:=by
 rw[Qjn]
 unfold Qa0
 cases Qdz d with
 | false=>exact(show(-9223372036854775808:Int)≤0∧(0:Int)≤9223372036854775807 from⟨by decide,by decide⟩)
 | true =>
  obtain⟨z,hz⟩:=Qks d _ _ 0
  have h:=Qjo z
  unfold I64 at h
  rw[Bool.not_true,cond_false,hz]
  omega
theorem Qmg (d:Disk): -9223372036854775808≤(Qa0 d).2∧(Qa0 d).2≤9223372036854775807:=by
 rw[←Qjn]
 exact Qmr d
end
section
theorem Ys5:FnOk Tryz.prog 128:=⟨_,Tryz.func128,rfl,by kernel_rfl⟩
theorem Ys4:FnOk Tryz.prog 129:=⟨_,Tryz.func129,rfl,by kernel_rfl⟩
theorem Yrt:FnOk Tryz.prog 233:=⟨_,Tryz.func233,rfl,by kernel_rfl⟩
theorem Yrs:FnOk Tryz.prog 234:=⟨_,Tryz.func234,rfl,by kernel_rfl⟩
def Qdj (p0:List Tx):Nat→(List Int)→Nat→(List Int)
 | 0,v3,i=>v3
 | n+1,v3,i=>Qdj p0 n (bif (decide (((nth p0 i).State)=1)) then(v3++[(nth p0 i).Id]) else v3) (i+1)
def Qc4 (p0:List Tx):(List Int):=Qdj p0 (p0.length - 0) ([]:List Int) 0
theorem Qkj (p0:List Tx) (hb:p0.length≤1073741824):CTs 68 [.o (.sl Tx instDatTx p0)] [Re.sl Int instDatInt (Qc4 p0)]:=by
 refine en Tryz.func68 Tryz.ntmps68 fun w hG hgd=>?_
 obtain⟨hg_p0,_⟩:=hgd
 have hl_p0:p0.length≤9223372036854775807:=hg_p0.1
 have hM:=Qc4.eq_1 p0
 refine ad 6 ?_
 refine op (l0) ?_
 refine ad 8 ?_
 refine li 1 (d:=instDatInt) ([]:List Int) ?_
 refine Run.loopM (ι:=(List Int)×Nat) (fun s=>Qdj p0 (p0.length - s.2) s.1 s.2) (fun s=>⟨27,2,[(0,.sl 0 p0.length),(3,.sl 1 s.1.length),(4,.v (.int .i64 (s.2:Int)))],[(0,.ros Tx instDatTx p0),(1,.own Int instDatInt s.1)]⟩) (fun s=>s.2≤p0.length∧s.1.length≤s.2) (fun s=>p0.length - s.2) (([]:List Int),0) [0,1] [1,0] hM (by exact⟨by(try dsimp only);omega,by simp⟩) su (by decide) ?_
 rintro ⟨v3,i⟩ hv hE
 try dsimp only at hE
 obtain⟨hi,hv0⟩:=hv
 try dsimp only at hi hv0
 refine ad 8 ?_
 refine cd (fun h1=>?_) (fun h1=>?_)
 ·
  have h1l:i<p0.length:=by have:=of_decide_eq_true h1;omega
  have hM:=hE.trans ((congrArg (fun n=>Qdj p0 n v3 i) (show p0.length - i=(p0.length - (i+1))+1 by omega)).trans (Qdj.eq_2 _ _ _ _))
  have hgi1: -9223372036854775808≤(nth p0 i).Id:=(Qan (k:=i) hg_p0 om).1.1
  have hgi2:(nth p0 i).Id≤9223372036854775807:=(Qan (k:=i) hg_p0 om).1.2
  refine ad 7 ?_
  have hg3:=Qan (k:=i) hg_p0 om
  refine op (ix (xs:=p0) i om) ?_
  refine ad 4 ?_
  refine Run.mid ⟨27,2,[(0,.sl 0 p0.length),(3,.sl 1 ((bif (decide (((nth p0 i).State)=1)) then(v3++[(nth p0 i).Id]) else v3).length)),(4,.v (.int .i64 (i:Int)))],[(0,.ros Tx instDatTx p0),(1,.own Int instDatInt (bif (decide (((nth p0 i).State)=1)) then(v3++[(nth p0 i).Id]) else v3))]⟩ ?_ ?_
  ·refine cd (fun h4=>?_) (fun h4=>?_)
   ·
    refine ad 4 ?_
    have hg6:=Qan (k:=i) hg_p0 om
    refine op (ix (xs:=p0) i om) ?_
    refine ad 3 ?_
    refine op (ap [(nth p0 i).Id] (hg:=gdt) (hb:=by simp only[List.length_cons,List.length_nil];first | omega | exact om)) ?_
    refine ad 2 ?_
    exact Run.at [0,15] [13,14] (by first | exact su | (rw[h4];exact su)) (by decide)
   ·
    refine ad 1 ?_
    exact Run.at [0,1] [6,7] (by first | exact su | (rw[h4];exact su)) (by decide)
  refine ad 4 ?_
  rw[Qcv (i:=i) om]
  refine ad 2 ?_
  exact Run.again (bif (decide (((nth p0 i).State)=1)) then(v3++[(nth p0 i).Id]) else v3,(i+1)) [0,1] [0,1] ⟨by exact⟨by(try dsimp only);omega,by(try dsimp only);((try simp only[Bool.cond_eq_ite]);(repeat' split);all_goals ((try simp only[List.length_append,List.length_cons,List.length_nil]);omega))⟩,hM⟩ rfl lv1 su (by decide)
 ·
  have h1l: ¬ (i<p0.length):=by have:=of_decide_eq_false h1;omega
  have hM:=hE.trans ((congrArg (fun n=>Qdj p0 n v3 i) (show p0.length - i=0 by omega)).trans (Qdj.eq_1 _ _ _))
  refine ad 6 ?_
  exact rz (rs:=[.tmp 2]) (congrArg (fun x=>[Re.sl Int instDatInt x]) hM)
def Qh0 (p0:Tx):Bool:=decide (p0.State=1)
theorem Q1i (p0:Tx):CTs 129 [.o (.st Tx _ inferInstance p0)] [Re.c (.bool (Qh0 p0))]:=by
 refine en Tryz.func129 Tryz.ntmps129 fun w hG hgd=>?_
 obtain⟨hg_p0,_⟩:=hgd
 have hM:=Qh0.eq_1 p0
 refine ad 12 ?_
 exact rz (rs:=[.tmp 2]) (congrArg (fun x=>[Re.c (.bool x)]) hM)
def Qf4 (p0:List Tx):Nat→(List Int)→Nat→(List Int)
 | 0,v5,i=>v5
 | n+1,v5,i=>Qf4 p0 n (bif (Qh0 (nth p0 i)) then(v5++[(nth p0 i).Id]) else v5) (i+1)
def Qsn (p0:List Tx):(List Int):=Qf4 p0 (p0.length - 0) [] 0
theorem Yd6 (p0:List Tx) (hb:p0.length≤1073741824):CTs 128 [.o (.sl Tx instDatTx p0),.fn 129 []] [Re.sl Int instDatInt (Qsn p0)]:=by
 refine en Tryz.func128 Tryz.ntmps128 fun w hG hgd=>?_
 obtain⟨hg_p0,_⟩:=hgd
 have hl_p0:p0.length≤9223372036854775807:=hg_p0.1
 have hM:=Qsn.eq_1 p0
 refine ad 16 ?_
 refine Run.nil 5 (α:=Int) (d:=instDatInt) rfl ?_
 refine Run.loopM (ι:=(List Int)×Nat) (fun s=>Qf4 p0 (p0.length - s.2) s.1 s.2) (fun s=>⟨24,2,[(1,.fn 129 []),(5,.sl 1 s.1.length),(8,.sl 0 p0.length),(9,.v (.int .i64 (p0.length:Int))),(10,.v (.int .i64 (s.2:Int)))],[(0,.ros Tx instDatTx p0),(1,.own Int instDatInt s.1)]⟩) (fun s=>s.2≤p0.length∧s.1.length≤s.2) (fun s=>p0.length - s.2) ([],0) [0,1] [1,0] hM (by exact⟨by(try dsimp only);omega,by simp⟩) su (by decide) ?_
 rintro ⟨v5,i⟩ hv hE
 try dsimp only at hE
 obtain⟨hi,hv0⟩:=hv
 try dsimp only at hi hv0
 refine ad 5 ?_
 refine cd (fun h1=>?_) (fun h1=>?_)
 ·
  have h1l:i<p0.length:=by have:=of_decide_eq_true h1;omega
  have hM:=hE.trans ((congrArg (fun n=>Qf4 p0 n v5 i) (show p0.length - i=(p0.length - (i+1))+1 by omega)).trans (Qf4.eq_2 _ _ _ _))
  have hgi1: -9223372036854775808≤(nth p0 i).Id:=(Qan (k:=i) hg_p0 om).1.1
  have hgi2:(nth p0 i).Id≤9223372036854775807:=(Qan (k:=i) hg_p0 om).1.2
  refine ad 5 ?_
  have hg3:=Qan (k:=i) hg_p0 om
  refine op (ix (xs:=p0) i om) ?_
  refine ad 8 ?_
  have hg4:Dat.good (nth p0 i:Tx):=hg3
  refine op (cl (Q1i (nth p0 i)) Ys4) ?_
  refine ad 1 ?_
  refine Run.mid ⟨24,2,[(1,.fn 129 []),(5,.sl 0 ((bif (Qh0 (nth p0 i)) then(v5++[(nth p0 i).Id]) else v5).length)),(8,.sl 1 p0.length),(9,.v (.int .i64 (p0.length:Int))),(10,.v (.int .i64 (i:Int)))],[(0,.own Int instDatInt (bif (Qh0 (nth p0 i)) then(v5++[(nth p0 i).Id]) else v5)),(1,.ros Tx instDatTx p0)]⟩ ?_ ?_
  ·refine cd (fun h5=>?_) (fun h5=>?_)
   ·
    refine ad 5 ?_
    refine op (ap [(nth p0 i).Id] (hg:=gdt) (hb:=by simp only[List.length_cons,List.length_nil];first | omega | exact om)) ?_
    refine ad 2 ?_
    exact Run.at [10,0] [9,8] (by first | exact su | (rw[h5];exact su)) (by decide)
   ·
    refine ad 1 ?_
    exact Run.at [1,0] [8,7] (by first | exact su | (rw[h5];exact su)) (by decide)
  refine ad 3 ?_
  rw[Qcv (i:=i) om]
  refine ad 2 ?_
  exact Run.again (bif (Qh0 (nth p0 i)) then(v5++[(nth p0 i).Id]) else v5,(i+1)) [1,0] [1,0] ⟨by exact⟨by(try dsimp only);omega,by(try dsimp only);((try simp only[Bool.cond_eq_ite]);(repeat' split);all_goals ((try simp only[List.length_append,List.length_cons,List.length_nil]);omega))⟩,hM⟩ rfl lv1 su (by decide)
 ·
  have h1l: ¬ (i<p0.length):=by have:=of_decide_eq_false h1;omega
  have hM:=hE.trans ((congrArg (fun n=>Qf4 p0 n v5 i) (show p0.length - i=0 by omega)).trans (Qf4.eq_1 _ _ _))
  refine ad 6 ?_
  exact rz (rs:=[.tmp 4]) (congrArg (fun x=>[Re.sl Int instDatInt x]) hM)
def Qm6 (p0:List Tx):(List Int):=(Qsn p0)
theorem Yac (p0:List Tx) (hb:p0.length≤1073741824):CTs 70 [.o (.sl Tx instDatTx p0)] [Re.sl Int instDatInt (Qm6 p0)]:=by
 refine en Tryz.func70 Tryz.ntmps70 fun w hG hgd=>?_
 obtain⟨hg_p0,_⟩:=hgd
 have hl_p0:p0.length≤9223372036854775807:=hg_p0.1
 have hM:=Qm6.eq_1 p0
 refine ad 7 ?_
 refine og (clg (Yd6 p0 lv2) Ys5) fun hgq=>?_
 obtain⟨hg1,_⟩:=hgq
 refine ad 2 ?_
 exact rz (rs:=[.tmp 2]) (congrArg (fun x=>[Re.sl Int instDatInt x]) hM)
def Qcp (p0:List Tx) (p1:Int):Nat→Nat→Int
 | 0,i=>(-1)
 | n+1,i=>bif decide (((nth p0 i).Id)=p1) then(i:Int) else(Qcp p0 p1 n (i+1))
def Qh7 (p0:List Tx) (p1:Int):Int:=Qcp p0 p1 (p0.length - 0) 0
theorem Q9u (p0:List Tx) (p1:Int):CTs 186 [.o (.sl Tx instDatTx p0),.o (.c (.int .i64 p1))] [Re.c (.int .i64 (Qh7 p0 p1))]:=by
 refine en Tryz.func186 Tryz.ntmps186 fun w hG hgd=>?_
 obtain⟨hg_p0,_⟩:=hgd
 have hl_p0:p0.length≤9223372036854775807:=hg_p0.1
 have hM:=Qh7.eq_1 p0 p1
 refine ad 10 ?_
 refine Run.loopM (ι:=Nat) (fun s=>Qcp p0 p1 (p0.length - s) s) (fun s=>⟨20,1,[(0,.sl 0 p0.length),(1,.v (.int .i64 p1)),(5,.v (.int .i64 (s:Int)))],[(0,.ros Tx instDatTx p0)]⟩) (fun s=>s≤p0.length) (fun s=>p0.length - s) 0 [0] [0] hM lv0 su (by decide) ?_
 rintro i hv hE
 try dsimp only at hE
 have hi:=hv
 try dsimp only at hi
 refine ad 8 ?_
 refine cd (fun h1=>?_) (fun h1=>?_)
 ·
  have h1l:i<p0.length:=by have:=of_decide_eq_true h1;omega
  have hM:=hE.trans ((congrArg (fun n=>Qcp p0 p1 n i) (show p0.length - i=(p0.length - (i+1))+1 by omega)).trans (Qcp.eq_2 _ _ _ _))
  refine ad 7 ?_
  have hg3:=Qan (k:=i) hg_p0 om
  refine op (ix (xs:=p0) i om) ?_
  refine ad 5 ?_
  refine cd (fun h4=>?_) (fun h4=>?_)
  ·
   have hM:=hM.trans (bt h4)
   refine ad 5 ?_
   exact rz (rs:=[.tmp 4]) (congrArg (fun x=>[Re.c (.int .i64 x)]) hM)
  ·
   have hM:=hM.trans (bf h4)
   refine ad 5 ?_
   rw[Qcv (i:=i) om]
   refine ad 2 ?_
   exact Run.again (i+1) [0] [6] ⟨by first | omega | exact trivial | (dsimp only;omega) | (refine⟨by omega,?_⟩;simp_all;try omega),hM⟩ rfl lv1 su (by decide)
 ·
  have h1l: ¬ (i<p0.length):=by have:=of_decide_eq_false h1;omega
  have hM:=hE.trans ((congrArg (fun n=>Qcp p0 p1 n i) (show p0.length - i=0 by omega)).trans (Qcp.eq_1 _ _ _))
  refine ad 5 ?_
  exact rz (rs:=[.tmp 4]) (congrArg (fun x=>[Re.c (.int .i64 x)]) hM)
def Qm7 (p0:Tx) (c0:Int):Bool:=decide (p0.Id=c0)
theorem Q1l (p0:Tx) (c0:Int):CTs 234 [.o (.st Tx _ inferInstance p0),.o (.rp Int instDatInt inferInstance c0)] [Re.c (.bool (Qm7 p0 c0))]:=by
 refine en Tryz.func234 Tryz.ntmps234 fun w hG hgd=>?_
 obtain⟨hg_p0,hg_c0,_⟩:=hgd
 have hM:=Qm7.eq_1 p0 c0
 refine ad 13 ?_
 exact rz (rs:=[.tmp 3]) (congrArg (fun x=>[Re.c (.bool x)]) hM)
def Qcb (p0:List Tx) (p1_0:Int):Nat→Nat→Int
 | 0,i=>(-1)
 | n+1,i=>bif Qm7 (nth p0 i) p1_0 then(i:Int) else(Qcb p0 p1_0 n (i+1))
def Qh8 (p0:List Tx) (p1_0:Int):Int:=Qcb p0 p1_0 (p0.length - 0) 0
theorem Qop (p0:List Tx) (p1_0:Int) (hk: -9223372036854775808≤p1_0∧p1_0≤9223372036854775807):CTs 233 [.o (.sl Tx instDatTx p0),.fn 234 [.rp Int instDatInt inferInstance p1_0]] [Re.c (.int .i64 (Qh8 p0 p1_0))]:=by
 refine en Tryz.func233 Tryz.ntmps233 fun w hG hgd=>?_
 obtain⟨hg_p0,_⟩:=hgd
 have hl_p0:p0.length≤9223372036854775807:=hg_p0.1
 have hM:=Qh8.eq_1 p0 p1_0
 obtain⟨hk1,hk2⟩:=hk
 refine ad 12 ?_
 refine Run.loopM (ι:=Nat) (fun s=>Qcb p0 p1_0 (p0.length - s) s) (fun s=>⟨19,2,[(0,.sl 0 p0.length),(1,.fn 234 [.pt 1 0]),(7,.v (.int .i64 (p0.length:Int))),(8,.v (.int .i64 (s:Int)))],[(0,.ros Tx instDatTx p0),(1,.roc [.v (.int .i64 p1_0)])]⟩) (fun s=>s≤p0.length) (fun s=>p0.length - s) 0 [0,1] [0,1] hM lv0 su (by decide) ?_
 rintro i hv hE
 try dsimp only at hE
 have hi:=hv
 try dsimp only at hi
 refine ad 5 ?_
 refine cd (fun h1=>?_) (fun h1=>?_)
 ·
  have h1l:i<p0.length:=by have:=of_decide_eq_true h1;omega
  have hM:=hE.trans ((congrArg (fun n=>Qcb p0 p1_0 n i) (show p0.length - i=(p0.length - (i+1))+1 by omega)).trans (Qcb.eq_2 _ _ _ _))
  refine ad 13 ?_
  have hg3:=Qan (k:=i) hg_p0 om
  refine op (ix (xs:=p0) i om) ?_
  refine ad 1 ?_
  have hg4:Dat.good (nth p0 i:Tx):=hg3
  refine op (cl (Q1l (nth p0 i) p1_0) Yrs) ?_
  refine ad 1 ?_
  refine cd (fun h5=>?_) (fun h5=>?_)
  ·
   have hM:=hM.trans (bt h5)
   refine ad 5 ?_
   exact rz (rs:=[.tmp 4]) (congrArg (fun x=>[Re.c (.int .i64 x)]) hM)
  ·
   have hM:=hM.trans (bf h5)
   refine ad 4 ?_
   rw[Qcv (i:=i) om]
   refine ad 2 ?_
   exact Run.again (i+1) [0,1] [6,7] ⟨by first | omega | exact trivial | (dsimp only;omega) | (refine⟨by omega,?_⟩;simp_all;try omega),hM⟩ rfl lv1 su (by decide)
 ·
  have h1l: ¬ (i<p0.length):=by have:=of_decide_eq_false h1;omega
  have hM:=hE.trans ((congrArg (fun n=>Qcb p0 p1_0 n i) (show p0.length - i=0 by omega)).trans (Qcb.eq_1 _ _ _))
  refine ad 5 ?_
  exact rz (rs:=[.tmp 4]) (congrArg (fun x=>[Re.c (.int .i64 x)]) hM)
def Qk9 (p0:List Tx) (p1:Int):Int:=(Qh8 p0 p1)
theorem Yad (p0:List Tx) (p1:Int) (hk: -9223372036854775808≤p1∧p1≤9223372036854775807):CTs 191 [.o (.sl Tx instDatTx p0),.o (.c (.int .i64 p1))] [Re.c (.int .i64 (Qk9 p0 p1))]:=by
 refine en Tryz.func191 Tryz.ntmps191 fun w hG hgd=>?_
 obtain⟨hg_p0,_⟩:=hgd
 have hl_p0:p0.length≤9223372036854775807:=hg_p0.1
 have hM:=Qk9.eq_1 p0 p1
 refine ad 9 ?_
 refine op (cl (Qop p0 p1 lv5) Yrt) ?_
 refine ad 2 ?_
 exact rz (rs:=[.tmp 4]) (congrArg (fun x=>[Re.c (.int .i64 x)]) hM)
end
section
def Yl7 {α:Type} (σ:St) (d:Nat) (B:Bool) (dα:Dat α) (ys:List α):St:=⟨σ.n,σ.m+1,(d,.gd B (.sl σ.m ys.length))::σ.ρ,(σ.m,.ros α dα ys)::σ.E⟩
theorem OpS.partG {c:Cx} {σ:St} {all:Array Oper} {ty:TypeId} {pos:String} {after:Array Edge} {d:Nat} {α:Type} {dα:Dat α} {t e by' r len:Nat} {x y:Operand} {i:Int} {h j:Nat} {want B:Bool} {xs:List α} (hB:gB σ.ρ all j want=some B) (hx:evG σ.ρ x=some (.sl r len)) (hy:evG σ.ρ y=some (.v (.int .i64 i))) (hside:B=true→Qfp B True σ.ρ [x,y]) (hp:lkE σ.E r=some (.ros α dα xs)) (hlen:len=xs.length) (ht:c.ti t= .sl e (Dat.sz α) by') (hd:Nat.blt d σ.n=true) (hi:B=true→i=h) (h2:h≤xs.length):
  OpS c σ all ⟨some d,.slice t x none (some y) none,ty,pos,after,some (j,want)⟩ (Yl7 σ d B dα (xs.take h)):=by
 intro θ a w hR K Q hK
 have hw:=Ydu hR (o:=⟨some d,.slice t x none (some y) none,ty,pos,after,some (j,want)⟩) rfl hB
 rw[hw]
 subst hlen
 obtain⟨S,w1,hh⟩:=hR.heap
 obtain⟨lc,hlc,hr⟩:=hh.ok _ (Qej hp)
 simp only at hlc
 have hcap:=(Qs0 hr).1
 have hr1:=hr.take h
 have e1:(xs.take h).length=h:=by rw[List.length_take];omega
 have hg:(θ++[⟨lc.A,lc.cap,[]⟩])[σ.m]?=some (⟨lc.A,lc.cap,[]⟩:Loc):=by rw[←hR.len];exact Qfa
 have fin: ∀ u,(V.gd B (.sl σ.m (xs.take h).length)).con (θ++[⟨lc.A,lc.cap,[]⟩])=some u→K (a.put (some d) u) w:=fun u hu=>
  hK [⟨lc.A,lc.cap,[]⟩] _ w ⟨by rw[List.length_append,hR.len];rfl,(hR.env.ext).put hd hu,S,w1,(hh.ext (θ':=[⟨lc.A,lc.cap,[]⟩])).fact rfl ⟨_,hg,hr1⟩⟩
 cases B with
 | false =>
  rw[if_neg (by simp)]
  exact fin _ rfl
 | true =>
  rw[if_pos rfl]
  have hi:=hi rfl
  subst hi
  have h1:=Qgw hR.env rfl (hside rfl) x (by simp) _ hx
  have h2':=Qgw hR.env rfl (hside rfl) y (by simp) _ hy
  have hc:=h1.1
  simp only[V.con,hlc,Option.some.injEq] at hc
  have hu:=(Qbd (c.tsl ht)).1
  obtain⟨inf,hin,hsz,_⟩:=(Qbd (c.tsl ht)).2
  have hA0:lc.A.map (fun b=>b.add 0)=lc.A:=by cases lc.A<;>simp[Addr.add]
  have hex:a.eval y= .int .i64 (h:Int):=by have:=h2'.1;simp only[V.con,Option.some.injEq] at this;exact this.symm
  have hle:h≤lc.cap:=by omega
  have hrun:(execOp a.eval ⟨some d,.slice t x none (some y) none,ty,pos,after,some (j,want)⟩).run c.P w= .ok (.value (.slice lc.A h lc.cap)) w:=by
   simp[execOp,←hc,hex,Instr.sliceAt,Instr.slice,run_underlying hu,Instr.sliceBounds,Instr.sliceBound,asIntOf,hle,sizeOf,typeInfo,hin,hA0]
  unfold Oper.wp
  rw[hrun,Oper.upon_value]
  refine fin _ ?_
  simp only[V.con,hg,e1]
section
variable {fn:Func} {Bz:Bs} {S1:Nat→Prop} {w1:World} {hk1:Keep Bz.S0 Bz.w w1} {hs1: ∀ b,Bz.S0 b→S1 b} {hd1: ∀ b,S1 b→b<w1.heap.size} {σ:St} {all:Array Oper} {ty:TypeId} {pos:String} {after:Array Edge} {d:Nat}
theorem paG {α:Type} {dα:Dat α} {t e by' r len j:Nat} {x y:Operand} {i:Int} {want B:Bool} {xs:List α} (h:Nat) (h2:h≤xs.length) (hB:gB σ.ρ all j want=some B:=by exact Dq0) (hx:evG σ.ρ x=some (.sl r len):=by exact Dq0) (hy:evG σ.ρ y=some (.v (.int .i64 i)):=by exact Dq0)
  (hside:B=true→Qfp B True σ.ρ [x,y]:=by intro h;first | exact trivial | (dsimp only[Qfp,sdV,ev,lk,cond,Nat.beq,V.side,List.toList_toArray];(repeat' apply And.intro)<;>first | exact trivial | exact h | exact fun h=>h | exact(Bool.and_eq_true_iff.1 h).1 | exact(Bool.and_eq_true_iff.1 h).2 | exact fun h=>(Bool.and_eq_true_iff.1 h).1 | exact fun h=>(Bool.and_eq_true_iff.1 h).2 | exact fun h=>(Bool.and_eq_true_iff.1 (Bool.and_eq_true_iff.1 h).1).1 | (intro h;simp_all)))
  (hp:lkE σ.E r=some (.ros α dα xs):=by exact Dq0) (hl:len=xs.length:=by first | rfl | simp only[List.length_set]) (hi:B=true→i=h:=by intro _;rfl) (ht:ti t= .sl e (Dat.sz α) by':=by rfl) (hd:Nat.blt d σ.n=true:=by rfl):
  OpS (cx fn Bz S1 w1 hk1 hs1 hd1) σ all ⟨some d,.slice t x none (some y) none,ty,pos,after,some (j,want)⟩ ⟨σ.n,σ.m+1,(d,.gd B (.sl σ.m (xs.take h).length))::σ.ρ,(σ.m,.ros α dα (xs.take h))::σ.E⟩:=OpS.partG hB hx hy hside hp hl ht hd hi h2
theorem gOt {op:Op} {j:Nat} {want B:Bool} {v:V} {p:Prop} (hB:gB σ.ρ all j want=some B:=by exact Dq0) (hv:gOp ti zr σ.ρ σ.E B op True=some (v,p):=by dsimp only[Qqn,ti_9,ti_3,ncV,szA,cvV,rnR,rnE,V.rn,rnL,En.rn,Qgn,memN,Qda,an,stK,cdK,opK,gdK,nvK,Qpj,Qpb,blK,bsK,stW,stV,ptK,litD,litC,pkV,wrV,binV,unV,ldV,faW,faV,agO,blV,exV,mfV,lenV,caV,Q18,Q0u,stO',sdV,Qa9,grdO,gBV,gPw,gPk,gGo,gK,gK1,gK2,tkK,tk1,rvsV,rvV,Nat.reduceAdd,Nat.reduceSub,Nat.reduceMul,advN,adv1,stO,litV,Qsq,Qne,pv,ev,evs,lk,lkE,setE,putE,put,cond,ldC,ldE,nthN,tuAt,bin,bi,bs,bb,ikq,TI.cells,V.cells,V.one,oneL,Qpx,grd,nthO,beqB,gB,wnt,gOp,adG,adG1,Q0a,Qfp,evG,V.side,V.strip,Qch,Qdg,Qeh,Qc9,Qjb,Qfx,Qg9,Qi2,Qnv,Qj1,Qma,ini,Qln,opn,nsl,adD,Qkw,Str.fk,Nat.blt,Nat.succ_eq_add_one,Nat.ble,Nat.beq,Nat.pred,Nat.add_zero,Nat.zero_add,Nat.add_eq,List.toList_toArray,List.length,List.length_cons,List.length_nil,List.take,List.drop,List.append_nil,List.nil_append,List.cons_append,List.map,List.take_succ_cons,List.take_zero,List.take_nil,List.drop_succ_cons,List.drop_zero,List.drop_nil,List.size_toArray,List.getD,id,Op.operands,Call.operands,Value.cells,Array.size_empty])
  (hp:p:=by(repeat' apply And.intro)<;>first | exact trivial | exact fun h=>h | exact fun h=>(Bool.and_eq_true_iff.1 h).1 | exact fun h=>(Bool.and_eq_true_iff.1 h).2 | exact fun h=>(Bool.and_eq_true_iff.1 (Bool.and_eq_true_iff.1 h).1).1 | (intro h;simp_all)) (hd:Nat.blt d σ.n=true:=by rfl):
  OpS (cx fn Bz S1 w1 hk1 hs1 hd1) σ all ⟨some d,op,ty,pos,after,some (j,want)⟩ (put d (.gd B v) σ):=OpS.g1 hB hv hp hd
end
end
section
theorem Q8v:FnOk Tryz.prog 231:=⟨_,Tryz.func231,rfl,by kernel_rfl⟩
theorem Yle:FnOk Tryz.prog 257:=⟨_,Tryz.func257,rfl,by kernel_rfl⟩
theorem Yre:FnOk Tryz.prog 275:=⟨_,Tryz.func275,rfl,by kernel_rfl⟩
theorem Ylc:FnOk Tryz.prog 296:=⟨_,Tryz.func296,rfl,by kernel_rfl⟩
theorem Yf9:FnOk Tryz.prog 297:=⟨_,Tryz.func297,rfl,by kernel_rfl⟩
theorem Yra:FnOk Tryz.prog 298:=⟨_,Tryz.func298,rfl,by kernel_rfl⟩
def Qbn (p0:ByteArray):ByteArray×Bool:=bif (decide ((p0.size:Int)>0))&&(decide (((Qav p0 ((i64.wrap ((p0.size:Int) - 1)).toNat)).toNat:Int)=42)) then(cutS p0 0 ((i64.wrap ((p0.size:Int) - 1)).toNat),true) else(p0,false)
theorem Ql4 (p0:ByteArray) (hz_p0:p0.size≤9223372036854775807):CTs 296 [.o (.c (.string p0))] [Re.c (.string ((Qbn p0).1)),Re.c (.bool ((Qbn p0).2))]:=by
 refine en Tryz.func296 Tryz.ntmps296 fun w hG hgd=>?_
 have hM:=Qbn.eq_1 p0
 have hw1:i64.wrap ((p0.size:Int) - 1)=(p0.size:Int) - 1:=IntWalk.i64_in _ (by omega)
 refine ad 17 ?_
 refine ag 3 ?_
 refine op (sG (s:=p0) ((i64.wrap ((p0.size:Int) - 1)).toNat) (hk:=fun hB=>by(try simp at hB);omega) (hi:=fun hB=>by(try simp at hB);omega)) ?_
 refine ag 2 ?_
 refine ad 1 ?_
 refine cd (fun h1=>?_) (fun h1=>?_)
 ·
  have hM:=hM.trans (bt h1)
  refine ad 5 ?_
  refine op (cu 0 ((i64.wrap ((p0.size:Int) - 1)).toNat) (hl:=rfl)) ?_
  refine ad 3 ?_
  exact rz (rs:=[.tmp 2,.tmp 3]) (congrArg (fun x=>[Re.c (.string x.1),Re.c (.bool x.2)]) hM)
 ·
  have hM:=hM.trans (bf h1)
  refine ad 7 ?_
  exact rz (rs:=[.tmp 2,.tmp 3]) (congrArg (fun x=>[Re.c (.string x.1),Re.c (.bool x.2)]) hM)
def Qhb (p0:ByteArray) (p1:ByteArray):Bool:=(decide ((p0.size:Int)≥(p1.size:Int)))&&(decide ((cutS p0 0 p1.size)=p1))
theorem Qh6 (p0:ByteArray) (p1:ByteArray):CTs 297 [.o (.c (.string p0)),.o (.c (.string p1))] [Re.c (.bool (Qhb p0 p1))]:=by
 refine en Tryz.func297 Tryz.ntmps297 fun w hG hgd=>?_
 have hM:=Qhb.eq_1 p0 p1
 refine ad 12 ?_
 refine Run.midO ⟨18,0,[(4,.v (.bool ((decide ((p0.size:Int)≥(p1.size:Int)))&&(decide ((cutS p0 0 p1.size)=p1)))))],[]⟩ ?_ ?_
 ·refine bc 10 (fun h1=>?_) (fun h1=>?_)
  ·
   refine ad 7 ?_
   refine op (cu 0 p1.size (hl:=rfl)) ?_
   refine ad 7 ?_
   exact Run.at [] [] (by first | exact su | (rw[h1];exact su)) (by decide)
  ·
   refine ad 9 ?_
   exact Run.at [] [] (by first | exact su | (rw[h1];exact su)) (by decide)
 exact rz (rs:=[.tmp 4]) (congrArg (fun x=>[Re.c (.bool x)]) hM)
def Qhi (p0:ByteArray) (p1:ByteArray):Bool:=bif (Qbn p0).2 then(Qhb p1 ((Qbn p0).1)) else(decide (p0=p1))
theorem Q2e (p0:ByteArray) (p1:ByteArray) (hz_p0:p0.size≤9223372036854775807):CTs 298 [.o (.c (.string p0)),.o (.c (.string p1))] [Re.c (.bool (Qhi p0 p1))]:=by
 refine en Tryz.func298 Tryz.ntmps298 fun w hG hgd=>?_
 have hM:=Qhi.eq_1 p0 p1
 refine ad 7 ?_
 refine op (cl (Ql4 p0 hz_p0) Ylc) ?_
 refine ad 11 ?_
 refine cd (fun h1=>?_) (fun h1=>?_)
 ·
  have hM:=hM.trans (bt h1)
  refine ad 4 ?_
  refine op (cl (Qh6 p1 ((Qbn p0).1)) Yf9) ?_
  refine ad 2 ?_
  exact rz (rs:=[.tmp 4]) (congrArg (fun x=>[Re.c (.bool x)]) hM)
 ·
  have hM:=hM.trans (bf h1)
  refine ad 8 ?_
  exact rz (rs:=[.tmp 4]) (congrArg (fun x=>[Re.c (.bool x)]) hM)
def Qco (p0:ByteArray) (p1:ByteArray):Bool:=bif ((Qbn p0).2)&&((Qbn p1).2) then((Qhb ((Qbn p0).1) ((Qbn p1).1))||(Qhb ((Qbn p1).1) ((Qbn p0).1))) else(bif (Qbn p0).2 then(Qhb p1 ((Qbn p0).1)) else(Qhi p1 p0))
theorem Qze (p0:ByteArray) (p1:ByteArray) (hz_p0:p0.size≤9223372036854775807) (hz_p1:p1.size≤9223372036854775807):CTs 275 [.o (.c (.string p0)),.o (.c (.string p1))] [Re.c (.bool (Qco p0 p1))]:=by
 refine en Tryz.func275 Tryz.ntmps275 fun w hG hgd=>?_
 have hM:=Qco.eq_1 p0 p1
 refine ad 7 ?_
 refine op (cl (Ql4 p0 hz_p0) Ylc) ?_
 refine ad 9 ?_
 refine op (cl (Ql4 p1 hz_p1) Ylc) ?_
 refine ad 12 ?_
 refine ag 2 ?_
 refine ad 2 ?_
 refine cd (fun h1=>?_) (fun h1=>?_)
 ·
  have hM:=hM.trans (bt h1)
  refine ad 4 ?_
  refine op (cl (Qh6 ((Qbn p0).1) ((Qbn p1).1)) Yf9) ?_
  refine ad 1 ?_
  refine ag 2 ?_
  refine op (cG (hct:=fun hB=>(Qh6 ((Qbn p1).1) ((Qbn p0).1))) (hfn:=Yf9)) ?_
  refine ag 1 ?_
  refine ad 2 ?_
  exact rz (rs:=[.tmp 4]) (congrArg (fun x=>[Re.c (.bool x)]) hM)
 ·
  have hM:=hM.trans (bf h1)
  refine ad 5 ?_
  refine cd (fun h2=>?_) (fun h2=>?_)
  ·
   have hM:=hM.trans (bt h2)
   refine ad 4 ?_
   refine op (cl (Qh6 p1 ((Qbn p0).1)) Yf9) ?_
   refine ad 2 ?_
   exact rz (rs:=[.tmp 4]) (congrArg (fun x=>[Re.c (.bool x)]) hM)
  ·
   have hM:=hM.trans (bf h2)
   refine ad 6 ?_
   refine op (cl (Q2e p1 p0 hz_p1) Yra) ?_
   refine ad 2 ?_
   exact rz (rs:=[.tmp 4]) (congrArg (fun x=>[Re.c (.bool x)]) hM)
def Qep (p0:List ByteArray) (p1:List ByteArray) (i:Nat) (k_2:Unit→Bool):Nat→Nat→Bool
 | 0,i_2=>k_2 ()
 | n_2+1,i_2=>bif Qco (nth p0 i) (nth p1 i_2) then true else(Qep p0 p1 i k_2 n_2 (i_2+1))
def Qeq (p0:List ByteArray) (p1:List ByteArray):Nat→Nat→Bool
 | 0,i=>false
 | n+1,i=>Qep p0 p1 i (fun e=>Qeq p0 p1 n (i+1)) (p1.length - 0) 0
def Qfn (p0:List ByteArray) (p1:List ByteArray):Bool:=Qeq p0 p1 (p0.length - 0) 0
theorem Ql5 (p0:List ByteArray) (p1:List ByteArray):CTs 257 [.o (.sl ByteArray instDatByteArray p0),.o (.sl ByteArray instDatByteArray p1)] [Re.c (.bool (Qfn p0 p1))]:=by
 refine en Tryz.func257 Tryz.ntmps257 fun w hG hgd=>?_
 obtain⟨hg_p0,hg_p1,_⟩:=hgd
 have hl_p0:p0.length≤9223372036854775807:=hg_p0.1
 have hl_p1:p1.length≤9223372036854775807:=hg_p1.1
 have hM:=Qfn.eq_1 p0 p1
 refine ad 10 ?_
 refine Run.loopM (ι:=Nat) (fun s=>Qeq p0 p1 (p0.length - s) s) (fun s=>⟨28,2,[(0,.sl 0 p0.length),(1,.sl 1 p1.length),(5,.v (.int .i64 (s:Int)))],[(0,.ros ByteArray instDatByteArray p0),(1,.ros ByteArray instDatByteArray p1)]⟩) (fun s=>s≤p0.length) (fun s=>p0.length - s) 0 [0,1] [0,1] hM lv0 su (by decide) ?_
 rintro i hv hE
 try dsimp only at hE
 have hi:=hv
 try dsimp only at hi
 refine ad 8 ?_
 refine cd (fun h1=>?_) (fun h1=>?_)
 ·
  have h1l:i<p0.length:=by have:=of_decide_eq_true h1;omega
  have hM:=hE.trans ((congrArg (fun n=>Qeq p0 p1 n i) (show p0.length - i=(p0.length - (i+1))+1 by omega)).trans (Qeq.eq_2 _ _ _ _))
  refine ad 8 ?_
  refine Run.loopkM (ι:=Nat) (κ:=Unit) (fun k s=>Qep p0 p1 i k (p1.length - s) s) (fun s=>⟨28,2,[(0,.sl 0 p0.length),(1,.sl 1 p1.length),(5,.v (.int .i64 (i:Int))),(6,.v (.int .i64 (s:Int)))],[(0,.ros ByteArray instDatByteArray p0),(1,.ros ByteArray instDatByteArray p1)]⟩) (fun s=>s≤p1.length) (fun s=>p1.length - s) (fun e=>⟨28,2,[(0,.sl 0 p0.length),(1,.sl 1 p1.length),(5,.v (.int .i64 (i:Int)))],[(0,.ros ByteArray instDatByteArray p0),(1,.ros ByteArray instDatByteArray p1)]⟩) (fun e=>True) 0 [0,1] [0,1] hM lv0 su (by decide) ?_ ?_
  ·
   rintro _ hv hM
   try dsimp only at hM hv ⊢
   refine ad 4 ?_
   rw[Qcv (i:=i) om]
   refine ad 2 ?_
   exact Run.again (i+1) [0,1] [0,1] ⟨by first | omega | exact trivial | (dsimp only;omega) | (refine⟨by omega,?_⟩;simp_all;try omega),hM⟩ rfl lv1 su (by decide)
  ·
   intro k_2 hk_2
   rintro i_2 hv_2 hE
   try dsimp only at hE
   have hi_2:=hv_2
   try dsimp only at hi_2
   refine ad 8 ?_
   refine cd (fun h2=>?_) (fun h2=>?_)
   ·
    have h2l:i_2<p1.length:=by have:=of_decide_eq_true h2;omega
    have hM:=hE.trans ((congrArg (fun n=>Qep p0 p1 i k_2 n i_2) (show p1.length - i_2=(p1.length - (i_2+1))+1 by omega)).trans (Qep.eq_2 _ _ _ _ _ _))
    refine ad 4 ?_
    refine dr 9 fun _ _ _ _ _ hb=>?_
    refine tk [0,1] ?_
    have hg3:=Qan (k:=i) hg_p0 om
    refine tx 2 (dx (xs:=p0) i om) ?_
    refine tk [3,4,5] ?_
    have hg4:=Qan (k:=i_2) hg_p1 om
    refine tx 6 (dx (xs:=p1) i_2 om) ?_
    refine tk [7] ?_
    refine on 8 [2,3] (cl (Qze (nth p0 i) (nth p1 i_2) hg3 hg4) Yre) ?_
    refine dn hb ?_
    refine cd (fun h5=>?_) (fun h5=>?_)
    ·
     have hM:=hM.trans (bt h5)
     refine ad 4 ?_
     exact rz (rs:=[.tmp 4]) (congrArg (fun x=>[Re.c (.bool x)]) hM)
    ·
     have hM:=hM.trans (bf h5)
     refine ad 5 ?_
     rw[Qcv (i:=i_2) om]
     refine ad 2 ?_
     exact Run.again (i_2+1) [0,1] [2,3] ⟨by first | omega | exact trivial | (dsimp only;omega) | (refine⟨by omega,?_⟩;simp_all;try omega),hM⟩ rfl lv1 su (by decide)
   ·
    have h2l: ¬ (i_2<p1.length):=by have:=of_decide_eq_false h2;omega
    have hM:=hE.trans ((congrArg (fun n=>Qep p0 p1 i k_2 n i_2) (show p1.length - i_2=0 by omega)).trans (Qep.eq_1 _ _ _ _ _))
    refine ad 1 ?_
    exact Run.exitkM hk_2 () [0,1] [0,1] hM (by trivial) su (by decide)
 ·
  have h1l: ¬ (i<p0.length):=by have:=of_decide_eq_false h1;omega
  have hM:=hE.trans ((congrArg (fun n=>Qeq p0 p1 n i) (show p0.length - i=0 by omega)).trans (Qeq.eq_1 _ _ _))
  refine ad 5 ?_
  exact rz (rs:=[.tmp 4]) (congrArg (fun x=>[Re.c (.bool x)]) hM)
def Qko (p0:Touch) (p1:Touch):Bool:=((Qfn p0.Writes p1.Reads)||(Qfn p0.Writes p1.Writes))||(Qfn p0.Reads p1.Writes)
theorem Qio (p0:Touch) (p1:Touch):CTs 231 [.o (.st Touch _ inferInstance p0),.o (.st Touch _ inferInstance p1)] [Re.c (.bool (Qko p0 p1))]:=by
 refine en Tryz.func231 Tryz.ntmps231 fun w hG hgd=>?_
 obtain⟨hg_p0,hg_p1,_⟩:=hgd
 have hM:=Qko.eq_1 p0 p1
 refine ad 12 ?_
 refine op (cl (Ql5 p0.Writes p1.Reads) Yle) ?_
 refine ad 1 ?_
 refine ag 4 ?_
 refine op (cG (hct:=fun hB=>(Ql5 p0.Writes p1.Writes)) (hfn:=Yle)) ?_
 refine ag 1 ?_
 refine ad 1 ?_
 refine ag 4 ?_
 refine op (cG (hct:=fun hB=>(Ql5 p0.Reads p1.Writes)) (hfn:=Yle)) ?_
 refine ag 1 ?_
 refine ad 2 ?_
 exact rz (rs:=[.tmp 4]) (congrArg (fun x=>[Re.c (.bool x)]) hM)
def Qd9 (p0:List Tx) (i:Nat) (k_2:Unit→Bool):Nat→Nat→Bool
 | 0,i_2=>k_2 ()
 | n_2+1,i_2=>bif ((decide (((nth p0 i).State)=1))&&(decide (((nth p0 i_2).State)=1)))&&(Qko ((nth p0 i).Touch) ((nth p0 i_2).Touch)) then false else(Qd9 p0 i k_2 n_2 (i_2+1))
def Qea (p0:List Tx):Nat→Nat→Bool
 | 0,i=>true
 | n+1,i=>Qd9 p0 i (fun e=>Qea p0 n (i+1)) (i - 0) 0
def Qke (p0:List Tx):Bool:=Qea p0 (p0.length - 0) 0
theorem Q08 (p0:List Tx):CTs 187 [.o (.sl Tx instDatTx p0)] [Re.c (.bool (Qke p0))]:=by
 refine en Tryz.func187 Tryz.ntmps187 fun w hG hgd=>?_
 obtain⟨hg_p0,_⟩:=hgd
 have hl_p0:p0.length≤9223372036854775807:=hg_p0.1
 have hM:=Qke.eq_1 p0
 refine ad 10 ?_
 refine Run.loopM (ι:=Nat) (fun s=>Qea p0 (p0.length - s) s) (fun s=>⟨43,1,[(0,.sl 0 p0.length),(3,.v (.int .i64 (s:Int)))],[(0,.ros Tx instDatTx p0)]⟩) (fun s=>s≤p0.length) (fun s=>p0.length - s) 0 [0] [0] hM lv0 su (by decide) ?_
 rintro i hv hE
 try dsimp only at hE
 have hi:=hv
 try dsimp only at hi
 refine ad 8 ?_
 refine cd (fun h1=>?_) (fun h1=>?_)
 ·
  have h1l:i<p0.length:=by have:=of_decide_eq_true h1;omega
  have hM:=hE.trans ((congrArg (fun n=>Qea p0 n i) (show p0.length - i=(p0.length - (i+1))+1 by omega)).trans (Qea.eq_2 _ _ _))
  refine ad 8 ?_
  refine Run.loopkM (ι:=Nat) (κ:=Unit) (fun k s=>Qd9 p0 i k (i - s) s) (fun s=>⟨43,1,[(0,.sl 0 p0.length),(3,.v (.int .i64 (i:Int))),(4,.v (.int .i64 (s:Int)))],[(0,.ros Tx instDatTx p0)]⟩) (fun s=>s≤i) (fun s=>i - s) (fun e=>⟨43,1,[(0,.sl 0 p0.length),(3,.v (.int .i64 (i:Int)))],[(0,.ros Tx instDatTx p0)]⟩) (fun e=>True) 0 [0] [0] hM lv0 su (by decide) ?_ ?_
  ·
   rintro _ hv hM
   try dsimp only at hM hv ⊢
   refine ad 4 ?_
   rw[Qcv (i:=i) om]
   refine ad 2 ?_
   exact Run.again (i+1) [0] [0] ⟨by first | omega | exact trivial | (dsimp only;omega) | (refine⟨by omega,?_⟩;simp_all;try omega),hM⟩ rfl lv1 su (by decide)
  ·
   intro k_2 hk_2
   rintro i_2 hv_2 hE
   try dsimp only at hE
   have hi_2:=hv_2
   try dsimp only at hi_2
   refine ad 7 ?_
   refine cd (fun h2=>?_) (fun h2=>?_)
   ·
    have h2l:i_2<i:=by have:=of_decide_eq_true h2;omega
    have hM:=hE.trans ((congrArg (fun n=>Qd9 p0 i k_2 n i_2) (show i - i_2=(i - (i_2+1))+1 by omega)).trans (Qd9.eq_2 _ _ _ _ _))
    have hgT:Dat.good ((nth p0 i_2).Touch:Touch):=(Qan (k:=i_2) hg_p0 (by omega)).2.2.2.2.2.2.1
    refine ad 4 ?_
    refine Run.mid ⟨43,1,[(0,.sl 0 p0.length),(3,.v (.int .i64 (i:Int))),(4,.v (.int .i64 (i_2:Int))),(42,.v (.bool (((decide (((nth p0 i).State)=1))&&(decide (((nth p0 i_2).State)=1)))&&(Qko ((nth p0 i).Touch) ((nth p0 i_2).Touch)))))],[(0,.ros Tx instDatTx p0)]⟩ ?_ ?_
    ·
     refine dr 27 fun _ _ _ _ _ hb=>?_
     refine tk [0,1] ?_
     have hg3:=Qan (k:=i) hg_p0 om
     refine tx 2 (dx (xs:=p0) i om) ?_
     refine tk [3,4,5,6,7,8] ?_
     refine on 9 [12] (iG (xs:=p0) i_2 om) ?_
     refine tk [10] ?_
     refine on 11 [12] (gO) ?_
     refine tk [12,13,14,15,16,20,21] ?_
     refine o2 17 22 ?_ ?_
     ·
      refine on1 17 [18] (iG (xs:=p0) i om) ?_
      refine tk [18] ?_
      refine o2 19 22 ?_ ?_
      ·
       refine on1 19 [18] (gOt) ?_
       refine on 22 [24] (iG (xs:=p0) i_2 om) ?_
       refine tk [23] ?_
       refine on 24 [24] (gOt) ?_
       have hg4:Dat.good ((nth p0 i).Touch:Touch):=hg3.2.2.2.2.2.2.1
       refine on 25 [24] (cG (hct:=fun hB=>(Qio ((nth p0 i).Touch) ((nth p0 i_2).Touch))) (hfn:=Q8v)) ?_
       refine tk [26] ?_
       refine dn hb ?_
       exact Run.at [0] [24] su (by decide)
      ·
       refine on1 22 [24] (iG (xs:=p0) i_2 om) ?_
       refine tk [23] ?_
       refine o2 19 24 ?_ ?_
       ·
        refine on1 19 [24] (gOt) ?_
        refine on 24 [24] (gOt) ?_
        have hg5:Dat.good ((nth p0 i).Touch:Touch):=hg3.2.2.2.2.2.2.1
        refine on 25 [24] (cG (hct:=fun hB=>(Qio ((nth p0 i).Touch) ((nth p0 i_2).Touch))) (hfn:=Q8v)) ?_
        refine tk [26] ?_
        refine dn hb ?_
        exact Run.at [0] [24] su (by decide)
       ·
        refine on1 24 [24] (gOt) ?_
        refine on 19 [24] (gOt) ?_
        have hg6:Dat.good ((nth p0 i).Touch:Touch):=hg3.2.2.2.2.2.2.1
        refine on 25 [24] (cG (hct:=fun hB=>(Qio ((nth p0 i).Touch) ((nth p0 i_2).Touch))) (hfn:=Q8v)) ?_
        refine tk [26] ?_
        refine dn hb ?_
        exact Run.at [0] [24] su (by decide)
     ·
      refine on1 22 [18] (iG (xs:=p0) i_2 om) ?_
      refine tk [23] ?_
      refine o2 17 24 ?_ ?_
      ·
       refine on1 17 [24] (iG (xs:=p0) i om) ?_
       refine tk [18] ?_
       refine o2 19 24 ?_ ?_
       ·
        refine on1 19 [24] (gOt) ?_
        refine on 24 [24] (gOt) ?_
        have hg7:Dat.good ((nth p0 i).Touch:Touch):=hg3.2.2.2.2.2.2.1
        refine on 25 [24] (cG (hct:=fun hB=>(Qio ((nth p0 i).Touch) ((nth p0 i_2).Touch))) (hfn:=Q8v)) ?_
        refine tk [26] ?_
        refine dn hb ?_
        exact Run.at [0] [24] su (by decide)
       ·
        refine on1 24 [24] (gOt) ?_
        refine on 19 [24] (gOt) ?_
        have hg8:Dat.good ((nth p0 i).Touch:Touch):=hg3.2.2.2.2.2.2.1
        refine on 25 [24] (cG (hct:=fun hB=>(Qio ((nth p0 i).Touch) ((nth p0 i_2).Touch))) (hfn:=Q8v)) ?_
        refine tk [26] ?_
        refine dn hb ?_
        exact Run.at [0] [24] su (by decide)
      ·
       refine on1 24 [18] (gOt) ?_
       refine on 17 [24] (iG (xs:=p0) i om) ?_
       refine tk [18] ?_
       refine on 19 [24] (gOt) ?_
       have hg9:Dat.good ((nth p0 i).Touch:Touch):=hg3.2.2.2.2.2.2.1
       refine on 25 [24] (cG (hct:=fun hB=>(Qio ((nth p0 i).Touch) ((nth p0 i_2).Touch))) (hfn:=Q8v)) ?_
       refine tk [26] ?_
       refine dn hb ?_
       exact Run.at [0] [24] su (by decide)
    refine cd (fun h10=>?_) (fun h10=>?_)
    ·
     have hM:=hM.trans (bt h10)
     refine ad 4 ?_
     exact rz (rs:=[.tmp 2]) (congrArg (fun x=>[Re.c (.bool x)]) hM)
    ·
     have hM:=hM.trans (bf h10)
     refine ad 5 ?_
     rw[Qcv (i:=i_2) om]
     refine ad 2 ?_
     exact Run.again (i_2+1) [0] [0] ⟨by first | omega | exact trivial | (dsimp only;omega) | (refine⟨by omega,?_⟩;simp_all;try omega),hM⟩ rfl lv1 su (by decide)
   ·
    have h2l: ¬ (i_2<i):=by have:=of_decide_eq_false h2;omega
    have hM:=hE.trans ((congrArg (fun n=>Qd9 p0 i k_2 n i_2) (show i - i_2=0 by omega)).trans (Qd9.eq_1 _ _ _ _))
    refine ad 1 ?_
    exact Run.exitkM hk_2 () [0] [0] hM (by trivial) su (by decide)
 ·
  have h1l: ¬ (i<p0.length):=by have:=of_decide_eq_false h1;omega
  have hM:=hE.trans ((congrArg (fun n=>Qea p0 n i) (show p0.length - i=0 by omega)).trans (Qea.eq_1 _ _))
  refine ad 5 ?_
  exact rz (rs:=[.tmp 2]) (congrArg (fun x=>[Re.c (.bool x)]) hM)
end
section
theorem Yrr:FnOk Tryz.prog 235:=⟨_,Tryz.func235,rfl,by kernel_rfl⟩
theorem Yrq:FnOk Tryz.prog 241:=⟨_,Tryz.func241,rfl,by kernel_rfl⟩
theorem Yld:FnOk Tryz.prog 261:=⟨_,Tryz.func261,rfl,by kernel_rfl⟩
theorem Yrd:FnOk Tryz.prog 276:=⟨_,Tryz.func276,rfl,by kernel_rfl⟩
theorem Yrc:FnOk Tryz.prog 277:=⟨_,Tryz.func277,rfl,by kernel_rfl⟩
theorem Yrb:FnOk Tryz.prog 278:=⟨_,Tryz.func278,rfl,by kernel_rfl⟩
theorem Yq9:FnOk Tryz.prog 299:=⟨_,Tryz.func299,rfl,by kernel_rfl⟩
theorem Ylb:FnOk Tryz.prog 300:=⟨_,Tryz.func300,rfl,by kernel_rfl⟩
theorem Yla:FnOk Tryz.prog 301:=⟨_,Tryz.func301,rfl,by kernel_rfl⟩
theorem Yob:FnOk Tryz.prog 302:=⟨_,Tryz.func302,rfl,by kernel_rfl⟩
theorem Yq7:FnOk Tryz.prog 313:=⟨_,Tryz.func313,rfl,by kernel_rfl⟩
def Qbv (p0:ByteArray) (p1:ByteArray):Bool:=(decide ((p0.size:Int)≥(p1.size:Int)))&&(decide ((cutS p0 ((i64.wrap ((p0.size:Int) - (p1.size:Int))).toNat) p0.size)=p1))
theorem Qi3 (p0:ByteArray) (p1:ByteArray) (hz_p0:p0.size≤9223372036854775807) (hz_p1:p1.size≤9223372036854775807):CTs 241 [.o (.c (.string p0)),.o (.c (.string p1))] [Re.c (.bool (Qbv p0 p1))]:=by
 refine en Tryz.func241 Tryz.ntmps241 fun w hG hgd=>?_
 have hM:=Qbv.eq_1 p0 p1
 have hw1:i64.wrap ((p0.size:Int) - (p1.size:Int))=(p0.size:Int) - (p1.size:Int):=IntWalk.i64_in _ (by omega)
 refine ad 12 ?_
 refine Run.midO ⟨21,0,[(4,.v (.bool ((decide ((p0.size:Int)≥(p1.size:Int)))&&(decide ((cutS p0 ((i64.wrap ((p0.size:Int) - (p1.size:Int))).toNat) p0.size)=p1)))))],[]⟩ ?_ ?_
 ·refine bc 10 (fun h1=>?_) (fun h1=>?_)
  ·
   refine ad 13 ?_
   refine op (cu ((i64.wrap ((p0.size:Int) - (p1.size:Int))).toNat) p0.size (hh:=rfl)) ?_
   refine ad 7 ?_
   exact Run.at [] [] (by first | exact su | (rw[h1];exact su)) (by decide)
  ·
   refine ad 12 ?_
   exact Run.at [] [] (by first | exact su | (rw[h1];exact su)) (by decide)
 exact rz (rs:=[.tmp 4]) (congrArg (fun x=>[Re.c (.bool x)]) hM)
theorem Q24 {s p:ByteArray} (h:Qbv s p=true):p.size≤s.size:=by
 unfold Qbv at h
 rw[Bool.and_eq_true] at h
 have:=of_decide_eq_true h.1
 omega
theorem Yk9 {α:Type} [Dat α] {xs:List α} (h:Dat.good xs) (l k:Nat):Dat.good (cutL xs l k):=⟨by unfold cutL;rw[List.length_drop,List.length_take];have:=h.1;omega,fun x hx=>h.2 x (List.mem_of_mem_take (List.mem_of_mem_drop hx))⟩
def Qce (p0:ByteArray) (p1:ByteArray):ByteArray×Bool:=bif !(Qbv p0 p1) then(p0,false) else(cutS p0 0 ((i64.wrap ((p0.size:Int) - (p1.size:Int))).toNat),true)
theorem Qi5 (p0:ByteArray) (p1:ByteArray) (hz_p0:p0.size≤9223372036854775807) (hz_p1:p1.size≤9223372036854775807):CTs 313 [.o (.c (.string p0)),.o (.c (.string p1))] [Re.c (.string ((Qce p0 p1).1)),Re.c (.bool ((Qce p0 p1).2))]:=by
 refine en Tryz.func313 Tryz.ntmps313 fun w hG hgd=>?_
 have hM:=Qce.eq_1 p0 p1
 have hw1:i64.wrap ((p0.size:Int) - (p1.size:Int))=(p0.size:Int) - (p1.size:Int):=IntWalk.i64_in _ (by omega)
 refine ad 10 ?_
 refine op (cl (Qi3 p0 p1 hz_p0 hz_p1) Yrq) ?_
 refine ad 2 ?_
 refine cd (fun h1=>?_) (fun h1=>?_)
 ·
  have hM:=hM.trans (bt h1)
  refine ad 6 ?_
  exact rz (rs:=[.tmp 4,.tmp 5]) (congrArg (fun x=>[Re.c (.string x.1),Re.c (.bool x.2)]) hM)
 ·
  have hM:=hM.trans (bf h1)
  have hsz:=Q24 (s:=p0) (p:=p1) (by simpa using h1)
  refine ad 9 ?_
  refine op (cu 0 ((i64.wrap ((p0.size:Int) - (p1.size:Int))).toNat) (hl:=rfl)) ?_
  refine ad 3 ?_
  exact rz (rs:=[.tmp 4,.tmp 5]) (congrArg (fun x=>[Re.c (.string x.1),Re.c (.bool x.2)]) hM)
def Qbc (p0:ByteArray) (p1:ByteArray):ByteArray×Bool:=((Qce p0 p1).1,(Qce p0 p1).2)
theorem Qib (p0:ByteArray) (p1:ByteArray) (hz_p0:p0.size≤9223372036854775807) (hz_p1:p1.size≤9223372036854775807):CTs 300 [.o (.c (.string p0)),.o (.c (.string p1))] [Re.c (.string ((Qbc p0 p1).1)),Re.c (.bool ((Qbc p0 p1).2))]:=by
 refine en Tryz.func300 Tryz.ntmps300 fun w hG hgd=>?_
 have hM:=Qbc.eq_1 p0 p1
 refine ad 9 ?_
 refine op (cl (Qi5 p0 p1 hz_p0 hz_p1) Yq7) ?_
 refine ad 5 ?_
 exact rz (rs:=[.tmp 4,.tmp 5]) (congrArg (fun x=>[Re.c (.string x.1),Re.c (.bool x.2)]) hM)
def Qgu (p0:ByteArray) (p1:ByteArray):Bool:=(Qfr p0 p1)
theorem Qia (p0:ByteArray) (p1:ByteArray):CTs 301 [.o (.c (.string p0)),.o (.c (.string p1))] [Re.c (.bool (Qgu p0 p1))]:=by
 refine en Tryz.func301 Tryz.ntmps301 fun w hG hgd=>?_
 have hM:=Qgu.eq_1 p0 p1
 refine ad 8 ?_
 refine op (cl (Qi4 p0 p1) Yrk) ?_
 refine ad 2 ?_
 exact rz (rs:=[.tmp 4]) (congrArg (fun x=>[Re.c (.bool x)]) hM)
def Qil (p0:ByteArray) (p1:ByteArray):Bool:=bif (Qbc p0 ⟨#[42]⟩).2 then(Qgu p1 ((Qbc p0 ⟨#[42]⟩).1)) else(decide (p0=p1))
theorem Qpq (p0:ByteArray) (p1:ByteArray) (hz_p0:p0.size≤9223372036854775807):CTs 302 [.o (.c (.string p0)),.o (.c (.string p1))] [Re.c (.bool (Qil p0 p1))]:=by
 refine en Tryz.func302 Tryz.ntmps302 fun w hG hgd=>?_
 have hM:=Qil.eq_1 p0 p1
 refine ad 8 ?_
 refine op (cl (Qib p0 ⟨#[42]⟩ hz_p0 (gs ⟨#[42]⟩)) Ylb) ?_
 refine ad 10 ?_
 refine cd (fun h1=>?_) (fun h1=>?_)
 ·
  have hM:=hM.trans (bt h1)
  refine ad 4 ?_
  refine op (cl (Qia p1 ((Qbc p0 ⟨#[42]⟩).1)) Yla) ?_
  refine ad 2 ?_
  exact rz (rs:=[.tmp 4]) (congrArg (fun x=>[Re.c (.bool x)]) hM)
 ·
  have hM:=hM.trans (bf h1)
  refine ad 8 ?_
  exact rz (rs:=[.tmp 4]) (congrArg (fun x=>[Re.c (.bool x)]) hM)
def Qgq (p0:ByteArray) (p1:ByteArray):Bool:=bif ((Qbc p0 ⟨#[42]⟩).2)&&((Qbc p1 ⟨#[42]⟩).2) then((Qgu ((Qbc p0 ⟨#[42]⟩).1) ((Qbc p1 ⟨#[42]⟩).1))||(Qgu ((Qbc p1 ⟨#[42]⟩).1) ((Qbc p0 ⟨#[42]⟩).1))) else(bif (Qbc p0 ⟨#[42]⟩).2 then(Qil p0 p1) else(Qil p1 p0))
theorem Qzj (p0:ByteArray) (p1:ByteArray) (hz_p0:p0.size≤9223372036854775807) (hz_p1:p1.size≤9223372036854775807):CTs 278 [.o (.c (.string p0)),.o (.c (.string p1))] [Re.c (.bool (Qgq p0 p1))]:=by
 refine en Tryz.func278 Tryz.ntmps278 fun w hG hgd=>?_
 have hM:=Qgq.eq_1 p0 p1
 refine ad 7 ?_
 refine op (cl (Qib p0 ⟨#[42]⟩ hz_p0 (gs ⟨#[42]⟩)) Ylb) ?_
 refine ad 9 ?_
 refine op (cl (Qib p1 ⟨#[42]⟩ hz_p1 (gs ⟨#[42]⟩)) Ylb) ?_
 refine ad 12 ?_
 refine ag 2 ?_
 refine ad 2 ?_
 refine cd (fun h1=>?_) (fun h1=>?_)
 ·
  have hM:=hM.trans (bt h1)
  refine ad 4 ?_
  refine op (cl (Qia ((Qbc p0 ⟨#[42]⟩).1) ((Qbc p1 ⟨#[42]⟩).1)) Yla) ?_
  refine ad 1 ?_
  refine ag 2 ?_
  refine op (cG (hct:=fun hB=>(Qia ((Qbc p1 ⟨#[42]⟩).1) ((Qbc p0 ⟨#[42]⟩).1))) (hfn:=Yla)) ?_
  refine ag 1 ?_
  refine ad 2 ?_
  exact rz (rs:=[.tmp 4]) (congrArg (fun x=>[Re.c (.bool x)]) hM)
 ·
  have hM:=hM.trans (bf h1)
  refine ad 5 ?_
  refine cd (fun h2=>?_) (fun h2=>?_)
  ·
   have hM:=hM.trans (bt h2)
   refine ad 4 ?_
   refine op (cl (Qpq p0 p1 hz_p0) Yob) ?_
   refine ad 2 ?_
   exact rz (rs:=[.tmp 4]) (congrArg (fun x=>[Re.c (.bool x)]) hM)
  ·
   have hM:=hM.trans (bf h2)
   refine ad 6 ?_
   refine op (cl (Qpq p1 p0 hz_p1) Yob) ?_
   refine ad 2 ?_
   exact rz (rs:=[.tmp 4]) (congrArg (fun x=>[Re.c (.bool x)]) hM)
def Qjj (p0:ByteArray) (c0:ByteArray):Bool:=(Qgq c0 p0)
theorem Qzl (p0:ByteArray) (c0:ByteArray) (hz_p0:p0.size≤9223372036854775807) (hz_c0:c0.size≤9223372036854775807):CTs 277 [.o (.c (.string p0)),.o (.rp ByteArray instDatByteArray inferInstance c0)] [Re.c (.bool (Qjj p0 c0))]:=by
 refine en Tryz.func277 Tryz.ntmps277 fun w hG hgd=>?_
 obtain⟨hg_c0,_⟩:=hgd
 have hM:=Qjj.eq_1 p0 c0
 refine ad 8 ?_
 refine op (cl (Qzj c0 p0 hz_c0 hz_p0) Yrb) ?_
 refine ad 2 ?_
 exact rz (rs:=[.tmp 3]) (congrArg (fun x=>[Re.c (.bool x)]) hM)
def Qbp (p0:List ByteArray) (p1_0:ByteArray):Nat→Nat→Int
 | 0,i=>(-1)
 | n+1,i=>bif Qjj (nth p0 i) p1_0 then(i:Int) else(Qbp p0 p1_0 n (i+1))
def Qfz (p0:List ByteArray) (p1_0:ByteArray):Int:=Qbp p0 p1_0 (p0.length - 0) 0
theorem Ql8 (p0:List ByteArray) (p1_0:ByteArray) (hz_p1_0:p1_0.size≤9223372036854775807):CTs 299 [.o (.sl ByteArray instDatByteArray p0),.fn 277 [.rp ByteArray instDatByteArray inferInstance p1_0]] [Re.c (.int .i64 (Qfz p0 p1_0))]:=by
 refine en Tryz.func299 Tryz.ntmps299 fun w hG hgd=>?_
 obtain⟨hg_p0,_⟩:=hgd
 have hl_p0:p0.length≤9223372036854775807:=hg_p0.1
 have hM:=Qfz.eq_1 p0 p1_0
 refine ad 12 ?_
 refine Run.loopM (ι:=Nat) (fun s=>Qbp p0 p1_0 (p0.length - s) s) (fun s=>⟨19,2,[(0,.sl 0 p0.length),(1,.fn 277 [.pt 1 0]),(7,.v (.int .i64 (p0.length:Int))),(8,.v (.int .i64 (s:Int)))],[(0,.ros ByteArray instDatByteArray p0),(1,.roc [.v (.string p1_0)])]⟩) (fun s=>s≤p0.length) (fun s=>p0.length - s) 0 [0,1] [0,1] hM lv0 su (by decide) ?_
 rintro i hv hE
 try dsimp only at hE
 have hi:=hv
 try dsimp only at hi
 refine ad 5 ?_
 refine cd (fun h1=>?_) (fun h1=>?_)
 ·
  have h1l:i<p0.length:=by have:=of_decide_eq_true h1;omega
  have hM:=hE.trans ((congrArg (fun n=>Qbp p0 p1_0 n i) (show p0.length - i=(p0.length - (i+1))+1 by omega)).trans (Qbp.eq_2 _ _ _ _))
  refine ad 13 ?_
  have hg3:=Qan (k:=i) hg_p0 om
  refine op (ix (xs:=p0) i om) ?_
  refine ad 1 ?_
  refine op (cl (Qzl (nth p0 i) p1_0 hg3 hz_p1_0) Yrc) ?_
  refine ad 1 ?_
  refine cd (fun h4=>?_) (fun h4=>?_)
  ·
   have hM:=hM.trans (bt h4)
   refine ad 5 ?_
   exact rz (rs:=[.tmp 4]) (congrArg (fun x=>[Re.c (.int .i64 x)]) hM)
  ·
   have hM:=hM.trans (bf h4)
   refine ad 4 ?_
   rw[Qcv (i:=i) om]
   refine ad 2 ?_
   exact Run.again (i+1) [0,1] [1,2] ⟨by first | omega | exact trivial | (dsimp only;omega) | (refine⟨by omega,?_⟩;simp_all;try omega),hM⟩ rfl lv1 su (by decide)
 ·
  have h1l: ¬ (i<p0.length):=by have:=of_decide_eq_false h1;omega
  have hM:=hE.trans ((congrArg (fun n=>Qbp p0 p1_0 n i) (show p0.length - i=0 by omega)).trans (Qbp.eq_1 _ _ _))
  refine ad 5 ?_
  exact rz (rs:=[.tmp 4]) (congrArg (fun x=>[Re.c (.int .i64 x)]) hM)
def Qff (p0:List ByteArray) (p1_0:ByteArray):Bool:=decide ((Qfz p0 p1_0)≥0)
theorem Qkl (p0:List ByteArray) (p1_0:ByteArray) (hz_p1_0:p1_0.size≤9223372036854775807):CTs 276 [.o (.sl ByteArray instDatByteArray p0),.fn 277 [.rp ByteArray instDatByteArray inferInstance p1_0]] [Re.c (.bool (Qff p0 p1_0))]:=by
 refine en Tryz.func276 Tryz.ntmps276 fun w hG hgd=>?_
 obtain⟨hg_p0,_⟩:=hgd
 have hl_p0:p0.length≤9223372036854775807:=hg_p0.1
 have hM:=Qff.eq_1 p0 p1_0
 refine ad 8 ?_
 refine op (cl (Ql8 p0 p1_0 hz_p1_0) Yq9) ?_
 refine ad 3 ?_
 exact rz (rs:=[.tmp 4]) (congrArg (fun x=>[Re.c (.bool x)]) hM)
def Qe7 (p0:List ByteArray) (p1:List ByteArray):Nat→Nat→Bool
 | 0,i=>false
 | n+1,i=>bif Qff p1 (nth p0 i) then true else(Qe7 p0 p1 n (i+1))
def Qhn (p0:List ByteArray) (p1:List ByteArray):Bool:=Qe7 p0 p1 (p0.length - 0) 0
theorem Ql9 (p0:List ByteArray) (p1:List ByteArray):CTs 261 [.o (.sl ByteArray instDatByteArray p0),.o (.sl ByteArray instDatByteArray p1)] [Re.c (.bool (Qhn p0 p1))]:=by
 refine en Tryz.func261 Tryz.ntmps261 fun w hG hgd=>?_
 obtain⟨hg_p0,hg_p1,_⟩:=hgd
 have hl_p0:p0.length≤9223372036854775807:=hg_p0.1
 have hl_p1:p1.length≤9223372036854775807:=hg_p1.1
 have hM:=Qhn.eq_1 p0 p1
 refine ad 12 ?_
 refine Run.loopM (ι:=Nat) (fun s=>Qe7 p0 p1 (p0.length - s) s) (fun s=>⟨17,2,[(1,.sl 0 p1.length),(7,.sl 1 p0.length),(8,.v (.int .i64 (p0.length:Int))),(9,.v (.int .i64 (s:Int)))],[(0,.ros ByteArray instDatByteArray p1),(1,.ros ByteArray instDatByteArray p0)]⟩) (fun s=>s≤p0.length) (fun s=>p0.length - s) 0 [1,0] [1,0] hM lv0 su (by decide) ?_
 rintro i hv hE
 try dsimp only at hE
 have hi:=hv
 try dsimp only at hi
 refine ad 5 ?_
 refine cd (fun h1=>?_) (fun h1=>?_)
 ·
  have h1l:i<p0.length:=by have:=of_decide_eq_true h1;omega
  have hM:=hE.trans ((congrArg (fun n=>Qe7 p0 p1 n i) (show p0.length - i=(p0.length - (i+1))+1 by omega)).trans (Qe7.eq_2 _ _ _ _))
  refine ad 5 ?_
  have hg3:=Qan (k:=i) hg_p0 om
  refine op (ix (xs:=p0) i om) ?_
  refine ad 8 ?_
  refine op (cl (Qkl p1 (nth p0 i) hg3) Yrd) ?_
  refine ad 1 ?_
  refine cd (fun h4=>?_) (fun h4=>?_)
  ·
   have hM:=hM.trans (bt h4)
   refine ad 4 ?_
   exact rz (rs:=[.tmp 4]) (congrArg (fun x=>[Re.c (.bool x)]) hM)
  ·
   have hM:=hM.trans (bf h4)
   refine ad 4 ?_
   rw[Qcv (i:=i) om]
   refine ad 2 ?_
   exact Run.again (i+1) [0,1] [2,3] ⟨by first | omega | exact trivial | (dsimp only;omega) | (refine⟨by omega,?_⟩;simp_all;try omega),hM⟩ rfl lv1 su (by decide)
 ·
  have h1l: ¬ (i<p0.length):=by have:=of_decide_eq_false h1;omega
  have hM:=hE.trans ((congrArg (fun n=>Qe7 p0 p1 n i) (show p0.length - i=0 by omega)).trans (Qe7.eq_1 _ _ _))
  refine ad 5 ?_
  exact rz (rs:=[.tmp 4]) (congrArg (fun x=>[Re.c (.bool x)]) hM)
def Qms (p0:Touch) (p1:Touch):Bool:=((Qhn p0.Writes p1.Reads)||(Qhn p0.Writes p1.Writes))||(Qhn p1.Writes p0.Reads)
theorem Yd7 (p0:Touch) (p1:Touch):CTs 235 [.o (.st Touch _ inferInstance p0),.o (.st Touch _ inferInstance p1)] [Re.c (.bool (Qms p0 p1))]:=by
 refine en Tryz.func235 Tryz.ntmps235 fun w hG hgd=>?_
 obtain⟨hg_p0,hg_p1,_⟩:=hgd
 have hM:=Qms.eq_1 p0 p1
 refine ad 12 ?_
 refine op (cl (Ql9 p0.Writes p1.Reads) Yld) ?_
 refine ad 1 ?_
 refine ag 4 ?_
 refine op (cG (hct:=fun hB=>(Ql9 p0.Writes p1.Writes)) (hfn:=Yld)) ?_
 refine ag 1 ?_
 refine ad 1 ?_
 refine ag 4 ?_
 refine op (cG (hct:=fun hB=>(Ql9 p1.Writes p0.Reads)) (hfn:=Yld)) ?_
 refine ag 1 ?_
 refine ad 2 ?_
 exact rz (rs:=[.tmp 4]) (congrArg (fun x=>[Re.c (.bool x)]) hM)
def Qef (p0:List Tx) (i:Nat) (k_2:Unit→Bool):Nat→Nat→Bool
 | 0,i_2=>k_2 ()
 | n_2+1,i_2=>bif ((decide (((nth p0 i).State)=1))&&(decide (((nth (cutL p0 0 i) i_2).State)=1)))&&(Qms ((nth p0 i).Touch) ((nth (cutL p0 0 i) i_2).Touch)) then false else(Qef p0 i k_2 n_2 (i_2+1))
def Qeg (p0:List Tx):Nat→Nat→Bool
 | 0,i=>true
 | n+1,i=>Qef p0 i (fun e=>Qeg p0 n (i+1)) (((cutL p0 0 i).length) - 0) 0
def Qkh (p0:List Tx):Bool:=Qeg p0 (p0.length - 0) 0
theorem Q1n (p0:List Tx):CTs 192 [.o (.sl Tx instDatTx p0)] [Re.c (.bool (Qkh p0))]:=by
 refine en Tryz.func192 Tryz.ntmps192 fun w hG hgd=>?_
 obtain⟨hg_p0,_⟩:=hgd
 have hl_p0:p0.length≤9223372036854775807:=hg_p0.1
 have hM:=Qkh.eq_1 p0
 refine ad 12 ?_
 refine Run.loopM (ι:=Nat) (fun s=>Qeg p0 (p0.length - s) s) (fun s=>⟨39,1,[(0,.sl 0 p0.length),(7,.sl 0 p0.length),(8,.v (.int .i64 (p0.length:Int))),(9,.v (.int .i64 (s:Int)))],[(0,.ros Tx instDatTx p0)]⟩) (fun s=>s≤p0.length) (fun s=>p0.length - s) 0 [0] [0] hM lv0 su (by decide) ?_
 rintro i hv hE
 try dsimp only at hE
 have hi:=hv
 try dsimp only at hi
 refine ad 5 ?_
 refine cd (fun h1=>?_) (fun h1=>?_)
 ·
  have h1l:i<p0.length:=by have:=of_decide_eq_true h1;omega
  have hM:=hE.trans ((congrArg (fun n=>Qeg p0 n i) (show p0.length - i=(p0.length - (i+1))+1 by omega)).trans (Qeg.eq_2 _ _ _))
  refine ad 6 ?_
  have hg3:=Qan (k:=i) hg_p0 om
  refine op (ix (xs:=p0) i om) ?_
  refine ad 9 ?_
  refine op (pa 0 i (hl:=rfl)) ?_
  refine ad 4 ?_
  refine Run.loopkM (ι:=Nat) (κ:=Unit) (fun k s=>Qef p0 i k (((cutL p0 0 i).length) - s) s) (fun s=>⟨39,8,[(0,.sl 0 p0.length),(4,.pt 1 0),(7,.sl 0 p0.length),(8,.v (.int .i64 (p0.length:Int))),(9,.v (.int .i64 (i:Int))),(16,.sl 7 ((cutL p0 0 i).length)),(17,.v (.int .i64 ((cutL p0 0 i).length:Int))),(18,.v (.int .i64 (s:Int)))],[(0,.ros Tx instDatTx p0),(1,.var [.v (.int .i64 ((nth p0 i).Id)),.v (.int .i64 ((nth p0 i).Age)),.v (.int .i64 ((nth p0 i).Proc)),.v (.int .i64 ((nth p0 i).Began)),.sl 2 ((nth p0 i).Calls.length),.sl 3 ((nth p0 i).Answers.length),.sl 4 ((nth p0 i).Touch.Reads.length),.sl 5 ((nth p0 i).Touch.Writes.length),.sl 6 ((nth p0 i).Marks.length),.v (.int .i64 ((nth p0 i).State))] 119),(2,.ros Call instDatCall ((nth p0 i).Calls)),(3,.ros Answer instDatAnswer ((nth p0 i).Answers)),(4,.ros ByteArray instDatByteArray ((nth p0 i).Touch.Reads)),(5,.ros ByteArray instDatByteArray ((nth p0 i).Touch.Writes)),(6,.ros Int instDatInt ((nth p0 i).Marks)),(7,.ros Tx instDatTx (cutL p0 0 i))]⟩) (fun s=>s≤(cutL p0 0 i).length) (fun s=>((cutL p0 0 i).length) - s) (fun e=>⟨39,1,[(0,.sl 0 p0.length),(7,.sl 0 p0.length),(8,.v (.int .i64 (p0.length:Int))),(9,.v (.int .i64 (i:Int)))],[(0,.ros Tx instDatTx p0)]⟩) (fun e=>True) 0 [0,7,2,3,4,5,6,8] [8,1,3,4,5,6,7,0] hM lv0 su (by decide) ?_ ?_
  ·
   rintro _ hv hM
   try dsimp only at hM hv ⊢
   refine ad 3 ?_
   rw[Qcv (i:=i) om]
   refine ad 2 ?_
   exact Run.again (i+1) [0] [0] ⟨by first | omega | exact trivial | (dsimp only;omega) | (refine⟨by omega,?_⟩;simp_all;try omega),hM⟩ rfl lv1 su (by decide)
  ·
   intro k_2 hk_2
   rintro i_2 hv_2 hE
   try dsimp only at hE
   have hi_2:=hv_2
   try dsimp only at hi_2
   refine ad 5 ?_
   refine cd (fun h4=>?_) (fun h4=>?_)
   ·
    have h4l:i_2<(cutL p0 0 i).length:=by have:=of_decide_eq_true h4;omega
    have hM:=hE.trans ((congrArg (fun n=>Qef p0 i k_2 n i_2) (show((cutL p0 0 i).length) - i_2=(((cutL p0 0 i).length) - (i_2+1))+1 by omega)).trans (Qef.eq_2 _ _ _ _ _))
    have hcl:(cutL p0 0 i).length≤i:=by unfold cutL;rw[List.length_drop,List.length_take];omega
    have hgT:Dat.good ((nth (cutL p0 0 i) i_2).Touch:Touch):=(Qan (k:=i_2) (Yk9 hg_p0 0 i) (by omega)).2.2.2.2.2.2.1
    refine ad 5 ?_
    refine op (ix (xs:=(cutL p0 0 i)) i_2 om) ?_
    refine ad 10 ?_
    refine ag 4 ?_
    refine ad 1 ?_
    refine ag 4 ?_
    have hg6:Dat.good ((nth p0 i).Touch:Touch):=hg3.2.2.2.2.2.2.1
    refine gd 7 fun hg7=>?_
    refine op (cG (hct:=fun hB=>(Yd7 ((nth p0 i).Touch) ((nth (cutL p0 0 i) i_2).Touch))) (hfn:=Yrr)) ?_
    refine ag 1 ?_
    refine ad 1 ?_
    refine cd (fun h8=>?_) (fun h8=>?_)
    ·
     have hM:=hM.trans (bt h8)
     refine ad 4 ?_
     exact rz (rs:=[.tmp 2]) (congrArg (fun x=>[Re.c (.bool x)]) hM)
    ·
     have hM:=hM.trans (bf h8)
     refine ad 4 ?_
     rw[Qcv (i:=i_2) om]
     refine ad 2 ?_
     exact Run.again (i_2+1) [0,1,2,3,4,5,6,7] [7,8,9,10,11,12,13,14] ⟨by first | omega | exact trivial | (dsimp only;omega) | (refine⟨by omega,?_⟩;simp_all;try omega),hM⟩ rfl lv1 su (by decide)
   ·
    have h4l: ¬ (i_2<(cutL p0 0 i).length):=by have:=of_decide_eq_false h4;omega
    have hM:=hE.trans ((congrArg (fun n=>Qef p0 i k_2 n i_2) (show((cutL p0 0 i).length) - i_2=0 by omega)).trans (Qef.eq_1 _ _ _ _))
    refine ad 1 ?_
    exact Run.exitkM hk_2 () [0] [0] hM (by trivial) su (by decide)
 ·
  have h1l: ¬ (i<p0.length):=by have:=of_decide_eq_false h1;omega
  have hM:=hE.trans ((congrArg (fun n=>Qeg p0 n i) (show p0.length - i=0 by omega)).trans (Qeg.eq_1 _ _))
  refine ad 5 ?_
  exact rz (rs:=[.tmp 2]) (congrArg (fun x=>[Re.c (.bool x)]) hM)
end
section
theorem Ysa:FnOk Tryz.prog 186:=⟨_,Tryz.func186,rfl,by kernel_rfl⟩
theorem Yr9:FnOk Tryz.prog 187:=⟨_,Tryz.func187,rfl,by kernel_rfl⟩
theorem Yr7:FnOk Tryz.prog 191:=⟨_,Tryz.func191,rfl,by kernel_rfl⟩
theorem Yr6:FnOk Tryz.prog 192:=⟨_,Tryz.func192,rfl,by kernel_rfl⟩
def Qdk (p0:Kernel):Nat→Nat→Bool
 | 0,i=>(((Qfc p0.Store)&&(Qdz p0.Disk))&&(Qcd p0.Seq 0 99000))&&(Qke p0.Txs)
 | n+1,i=>bif (decide (((nth p0.Txs i).Id)≥p0.Next))||(!decide ((Qh7 p0.Txs ((nth p0.Txs i).Id))=(i:Int))) then false else(Qdk p0 n (i+1))
def Qhs (p0:Kernel):Bool:=Qdk p0 (p0.Txs.length - 0) 0
theorem Q06 (p0:Kernel):CTs 125 [.o (.st Kernel _ inferInstance p0)] [Re.c (.bool (Qhs p0))]:=by
 refine en Tryz.func125 Tryz.ntmps125 fun w hG hgd=>?_
 obtain⟨hg_p0,_⟩:=hgd
 have hM:=Qhs.eq_1 p0
 have hlt:p0.Txs.length≤9223372036854775807:=hg_p0.2.1.1
 refine ad 11 ?_
 refine Run.loopM (ι:=Nat) (fun s=>Qdk p0 (p0.Txs.length - s) s) (fun s=>⟨51,6,[(1,.pt 0 0),(3,.v (.int .i64 (s:Int)))],[(0,.var [.sl 1 p0.Store.length,.sl 2 p0.Txs.length,.sl 3 p0.Disk.Slots.length,.v (.string p0.Disk.Journal.Text),.v (.int .i64 p0.Disk.Journal.Sure),.v (.int .i64 p0.Seq),.v (.int .i64 p0.Next),.v (.int .i64 p0.Time),.sl 4 p0.History.length,.sl 5 p0.Seen.length,.v (.bool p0.Room)] 43),(1,.ros Cell instDatCell p0.Store),(2,.ros Tx instDatTx p0.Txs),(3,.ros Slot instDatSlot p0.Disk.Slots),(4,.ros Entry instDatEntry p0.History),(5,.ros ByteArray instDatByteArray p0.Seen)]⟩) (fun s=>s≤p0.Txs.length) (fun s=>p0.Txs.length - s) 0 [5,0,1,2,3,4] [0,1,2,3,4,5] hM lv0 su (by decide) ?_
 rintro i hv hE
 try dsimp only at hE
 have hi:=hv
 try dsimp only at hi
 refine ad 9 ?_
 refine cd (fun h1=>?_) (fun h1=>?_)
 ·
  have h1l:i<p0.Txs.length:=by have:=of_decide_eq_true h1;omega
  have hM:=hE.trans ((congrArg (fun n=>Qdk p0 n i) (show p0.Txs.length - i=(p0.Txs.length - (i+1))+1 by omega)).trans (Qdk.eq_2 _ _ _))
  refine ad 4 ?_
  refine dr 22 fun _ _ _ _ _ hb=>?_
  refine tk [0,1,2] ?_
  refine tx 3 (dx (xs:=p0.Txs) i om) ?_
  refine tk [4,5,6,7,8,9,10,11,12,13,14,19] ?_
  refine on 15 [12,13,14,15,16,17] (iG (xs:=p0.Txs) i om) ?_
  refine tk [16] ?_
  refine on 17 [12,13,14,15,16,17] (gO) ?_
  refine on 18 [12,13,14,15,16,17] (cG (hct:=fun hB=>(Q9u p0.Txs ((nth p0.Txs i).Id))) (hfn:=Ysa)) ?_
  refine tk [20,21] ?_
  refine dn hb ?_
  refine cd (fun h2=>?_) (fun h2=>?_)
  ·
   have hM:=hM.trans (bt h2)
   refine ad 4 ?_
   exact rz (rs:=[.tmp 2]) (congrArg (fun x=>[Re.c (.bool x)]) hM)
  ·
   have hM:=hM.trans (bf h2)
   refine ad 5 ?_
   rw[Qcv (i:=i) om]
   refine ad 2 ?_
   exact Run.again (i+1) [0,1,2,3,4,5] [12,13,14,15,16,17] ⟨by first | omega | exact trivial | (dsimp only;omega) | (refine⟨by omega,?_⟩;simp_all;try omega),hM⟩ rfl lv1 su (by decide)
 ·
  have h1l: ¬ (i<p0.Txs.length):=by have:=of_decide_eq_false h1;omega
  have hM:=hE.trans ((congrArg (fun n=>Qdk p0 n i) (show p0.Txs.length - i=0 by omega)).trans (Qdk.eq_1 _ _))
  refine ad 5 ?_
  refine op (cl (Qpl p0.Store) Yox) ?_
  refine ad 1 ?_
  refine ag 2 ?_
  have hg3:Dat.good (p0.Disk:Disk):=hg_p0.2.2.1
  refine op (cG (hct:=fun hB=>(Qkk p0.Disk)) (hfn:=Ynf)) ?_
  refine ag 1 ?_
  refine ad 1 ?_
  refine ag 2 ?_
  refine op (cG (hct:=fun hB=>(Qgz p0.Seq 0 99000)) (hfn:=Qys)) ?_
  refine ag 1 ?_
  refine ad 1 ?_
  refine ag 2 ?_
  refine op (cG (hct:=fun hB=>(Q08 p0.Txs)) (hfn:=Yr9)) ?_
  refine ag 1 ?_
  refine ad 2 ?_
  exact rz (rs:=[.tmp 2]) (congrArg (fun x=>[Re.c (.bool x)]) hM)
def Qdm (p0:Kernel):Nat→Nat→Bool
 | 0,i=>(Qkh p0.Txs)
 | n+1,i=>bif (decide (((nth p0.Txs i).Id)≥p0.Next))||(decide ((Qk9 (List.take i p0.Txs) ((nth p0.Txs i).Id))≥0)) then false else(Qdm p0 n (i+1))
def Qg6 (p0:Kernel):Bool:=bif ((!(Qik p0.Store))||(!(Qe9 p0.Disk)))||(!(Qb9 p0.Seq 0 99000)) then false else(Qdm p0 (p0.Txs.length - 0) 0)
theorem Q1k (p0:Kernel):CTs 131 [.o (.st Kernel _ inferInstance p0)] [Re.c (.bool (Qg6 p0))]:=by
 refine en Tryz.func131 Tryz.ntmps131 fun w hG hgd=>?_
 obtain⟨hg_p0,_⟩:=hgd
 have hM:=Qg6.eq_1 p0
 have hlt:p0.Txs.length≤9223372036854775807:=hg_p0.2.1.1
 refine ad 10 ?_
 refine op (cl (Qpp p0.Store) You) ?_
 refine ad 2 ?_
 refine ag 2 ?_
 have hg1:Dat.good (p0.Disk:Disk):=hg_p0.2.2.1
 refine op (cG (hct:=fun hB=>(Qkm p0.Disk)) (hfn:=Ynd)) ?_
 refine ag 2 ?_
 refine ad 1 ?_
 refine ag 2 ?_
 refine op (cG (hct:=fun hB=>(Qgl p0.Seq 0 99000)) (hfn:=Qyr)) ?_
 refine ag 2 ?_
 refine ad 1 ?_
 refine cd (fun h2=>?_) (fun h2=>?_)
 ·
  have hM:=hM.trans (bt h2)
  refine ad 4 ?_
  exact rz (rs:=[.tmp 2]) (congrArg (fun x=>[Re.c (.bool x)]) hM)
 ·
  have hM:=hM.trans (bf h2)
  have th2_2:=Qg5 (by have hq:=(Bool.or_eq_false_iff.1 h2).2;simpa using hq)
  refine ad 10 ?_
  refine Run.loopM (ι:=Nat) (fun s=>Qdm p0 (p0.Txs.length - s) s) (fun s=>⟨48,6,[(1,.pt 0 0),(22,.sl 2 p0.Txs.length),(23,.v (.int .i64 (p0.Txs.length:Int))),(24,.v (.int .i64 (s:Int)))],[(0,.var [.sl 1 p0.Store.length,.sl 2 p0.Txs.length,.sl 3 p0.Disk.Slots.length,.v (.string p0.Disk.Journal.Text),.v (.int .i64 p0.Disk.Journal.Sure),.v (.int .i64 p0.Seq),.v (.int .i64 p0.Next),.v (.int .i64 p0.Time),.sl 4 p0.History.length,.sl 5 p0.Seen.length,.v (.bool p0.Room)] 43),(1,.ros Cell instDatCell p0.Store),(2,.ros Tx instDatTx p0.Txs),(3,.ros Slot instDatSlot p0.Disk.Slots),(4,.ros Entry instDatEntry p0.History),(5,.ros ByteArray instDatByteArray p0.Seen)]⟩) (fun s=>s≤p0.Txs.length) (fun s=>p0.Txs.length - s) 0 [5,0,1,2,3,4] [0,1,2,3,4,5] hM lv0 su (by decide) ?_
  rintro i hv hE
  try dsimp only at hE
  have hi:=hv
  try dsimp only at hi
  refine ad 5 ?_
  refine cd (fun h3=>?_) (fun h3=>?_)
  ·
   have h3l:i<p0.Txs.length:=by have:=of_decide_eq_true h3;omega
   have hM:=hE.trans ((congrArg (fun n=>Qdm p0 n i) (show p0.Txs.length - i=(p0.Txs.length - (i+1))+1 by omega)).trans (Qdm.eq_2 _ _ _))
   have hgi1: -9223372036854775808≤(nth p0.Txs i).Id:=(Qan (k:=i) hg_p0.2.1 om).1.1
   have hgi2:(nth p0.Txs i).Id≤9223372036854775807:=(Qan (k:=i) hg_p0.2.1 om).1.2
   refine ad 6 ?_
   refine op (ix (xs:=p0.Txs) i om) ?_
   refine ad 6 ?_
   refine dr 15 fun _ _ _ _ _ hb=>?_
   refine tk [0,1,2,3,4,5,6,7,8,10,11] ?_
   refine on 9 [1,2,3,4,5,6,7,8,9,10,11,12,13] (paG (xs:=p0.Txs) i om) ?_
   refine on 12 [1,2,3,4,5,6,7,8,9,10,11,12,13] (cG (hct:=fun hB=>(Yad (List.take i p0.Txs) ((nth p0.Txs i).Id) (by first | assumption | exact⟨hgi1,hgi2⟩ | exact om))) (hfn:=Yr7)) ?_
   refine tk [13,14] ?_
   refine dn hb ?_
   refine cd (fun h5=>?_) (fun h5=>?_)
   ·
    have hM:=hM.trans (bt h5)
    refine ad 4 ?_
    exact rz (rs:=[.tmp 2]) (congrArg (fun x=>[Re.c (.bool x)]) hM)
   ·
    have hM:=hM.trans (bf h5)
    refine ad 4 ?_
    rw[Qcv (i:=i) om]
    refine ad 2 ?_
    exact Run.again (i+1) [0,1,2,3,4,5] [8,9,10,11,12,13] ⟨by first | omega | exact trivial | (dsimp only;omega) | (refine⟨by omega,?_⟩;simp_all;try omega),hM⟩ rfl lv1 su (by decide)
  ·
   have h3l: ¬ (i<p0.Txs.length):=by have:=of_decide_eq_false h3;omega
   have hM:=hE.trans ((congrArg (fun n=>Qdm p0 n i) (show p0.Txs.length - i=0 by omega)).trans (Qdm.eq_1 _ _))
   refine ad 5 ?_
   refine op (cl (Q1n p0.Txs) Yr6) ?_
   refine ad 2 ?_
   exact rz (rs:=[.tmp 2]) (congrArg (fun x=>[Re.c (.bool x)]) hM)
end
section
theorem Yr8:FnOk Tryz.prog 188:=⟨_,Tryz.func188,rfl,by kernel_rfl⟩
def Qax (p0:Disk):Disk:=bif !(Qdz (Qah p0)) then(Qah p0) else(Disk.mk ((Qah p0).Slots) (Journal.mk (cutS ((Qah p0).Journal.Text) 0 (((Qak ((Qah p0).Journal.Text) (i64.wrap (((nth ((Qah p0).Slots) ((Qaf (Qah p0)).toNat)).Seq)+1))).2).toNat)) ((Qak ((Qah p0).Journal.Text) (i64.wrap (((nth ((Qah p0).Slots) ((Qaf (Qah p0)).toNat)).Seq)+1))).2)))
theorem Q2h (p0:Disk) (hs:Dat.small 1048576 p0):CTs 126 [.o (.st Disk _ inferInstance p0)] [Re.st Disk _ inferInstance (Qax p0)]:=by
 refine en Tryz.func126 Tryz.ntmps126 fun w hG hgd=>?_
 obtain⟨hg_p0,_⟩:=hgd
 have hM:=Qax.eq_1 p0
 have hsmD:=hs
 refine ad 8 ?_
 refine og (clg (Ql3 p0 (by first | assumption | exact hsmD)) Yll) fun hgq=>?_
 obtain⟨hg1,_⟩:=hgq
 refine ad 6 ?_
 refine op (cl (Qkk (Qah p0)) Ynf) ?_
 refine ad 2 ?_
 refine cd (fun h2=>?_) (fun h2=>?_)
 ·
  have hM:=hM.trans (bt h2)
  refine ad 5 ?_
  exact rz (rs:=[.cell 2 40]) (congrArg (fun x=>[Re.st Disk _ inferInstance x]) hM)
 ·
  have hM:=hM.trans (bf h2)
  have hdk:=Qkd (p0:=Qah p0) (by simpa using h2)
  have hrs:=Qp1 (Qah p0).Journal.Text (i64.wrap ((nth (Qah p0).Slots ((Qaf (Qah p0)).toNat)).Seq+1)) (by omega)
  refine ad 2 ?_
  refine dr 17 fun _ _ _ _ _ hb=>?_
  refine tk [0,1,2,3,4,5] ?_
  refine on 6 [0,1,2,3] (cl (Qi1 (Qah p0)) Yne) ?_
  refine on 7 [0,1,2,3] (oi (xs:=(Qah p0).Slots) ((Qaf (Qah p0)).toNat) om (hi:=om)) ?_
  refine tk [8] ?_
  refine on 9 [0,1,2,3] (lf (xs:=(Qah p0).Slots) ((Qaf (Qah p0)).toNat) 0 om) ?_
  refine tk [10] ?_
  refine ong 11 [1,2,3,4] (clg (Qni ((Qah p0).Journal.Text) (i64.wrap (((nth ((Qah p0).Slots) ((Qaf (Qah p0)).toNat)).Seq)+1)) hg1.2.1 lv2) Yq4) fun hgq=>?_
  obtain⟨hg3,_⟩:=hgq
  refine tk [12,13,14,15,16] ?_
  refine dn hb ?_
  refine ad 6 ?_
  refine op (cu 0 (((Qak ((Qah p0).Journal.Text) (i64.wrap (((nth ((Qah p0).Slots) ((Qaf (Qah p0)).toNat)).Seq)+1))).2).toNat) (hl:=rfl)) ?_
  refine ad 10 ?_
  have hg4:Dat.good (Disk.mk ((Qah p0).Slots) (Journal.mk (cutS ((Qah p0).Journal.Text) 0 (((Qak ((Qah p0).Journal.Text) (i64.wrap (((nth ((Qah p0).Slots) ((Qaf (Qah p0)).toNat)).Seq)+1))).2).toNat)) ((Qak ((Qah p0).Journal.Text) (i64.wrap (((nth ((Qah p0).Slots) ((Qaf (Qah p0)).toNat)).Seq)+1))).2)):Disk):=⟨hg1.1,⟨(Qld hg1.2.1),(Qqq _ _)⟩⟩
  exact rz (rs:=[.cell 2 40]) (congrArg (fun x=>[Re.st Disk _ inferInstance x]) hM)
def Qa7 (p0:Disk):Disk:=(Disk.mk ((Qal p0).Slots) (Journal.mk (bif (Qe9 p0) then(cutS p0.Journal.Text 0 (((Qac p0.Journal.Text (i64.wrap (((nth p0.Slots ((Qab p0).toNat)).Seq)+1))).2).toNat)) else((Qal p0).Journal.Text)) (bif (Qe9 p0) then((Qac p0.Journal.Text (i64.wrap (((nth p0.Slots ((Qab p0).toNat)).Seq)+1))).2) else((Qal p0).Journal.Sure))))
theorem Q2y (p0:Disk) (hs:Dat.small 1048576 p0):CTs 132 [.o (.st Disk _ inferInstance p0)] [Re.st Disk _ inferInstance (Qa7 p0)]:=by
 refine en Tryz.func132 Tryz.ntmps132 fun w hG hgd=>?_
 obtain⟨hg_p0,_⟩:=hgd
 have hM:=Qa7.eq_1 p0
 have hsmD:=hs
 refine ad 8 ?_
 refine og (clg (Qh1 p0 (by first | assumption | exact hsmD)) Ygb) fun hgq=>?_
 obtain⟨hg1,_⟩:=hgq
 refine ad 7 ?_
 refine op (cl (Qkm p0) Ynd) ?_
 refine ad 1 ?_
 refine Run.mid ⟨34,3,[(2,.pt 0 0),(3,.pt 1 0)],[(0,.var [.v (.slice none 0 0),.v (.string ⟨#[]⟩),.v (.int .i64 0)] 40),(1,.var [.sl 2 ((Qal p0).Slots.length),.v (.string (bif (Qe9 p0) then(cutS p0.Journal.Text 0 (((Qac p0.Journal.Text (i64.wrap (((nth p0.Slots ((Qab p0).toNat)).Seq)+1))).2).toNat)) else((Qal p0).Journal.Text))),.v (.int .i64 (bif (Qe9 p0) then((Qac p0.Journal.Text (i64.wrap (((nth p0.Slots ((Qab p0).toNat)).Seq)+1))).2) else((Qal p0).Journal.Sure)))] 40),(2,.own Slot instDatSlot ((Qal p0).Slots))]⟩ ?_ ?_
 ·refine cd (fun h2=>?_) (fun h2=>?_)
  ·
   have hdk:=Qrj (p0:=p0) (by simpa using h2)
   have hrs:=Qk8 (p0).Journal.Text (i64.wrap ((nth (p0).Slots ((Qab (p0)).toNat)).Seq+1)) (by omega)
   refine ad 1 ?_
   refine dr 17 fun _ _ _ _ _ hb=>?_
   refine tk [0,1,2,3,4,5] ?_
   refine on 6 [0,1,2,3,4] (cl (Qlf p0) Yp1) ?_
   refine on 7 [2,3,4,5,6] (ix (xs:=p0.Slots) ((Qab p0).toNat) om (hi:=om)) ?_
   refine tk [8] ?_
   refine on 9 [2,3,4,5,6] (OpS.st rfl) ?_
   refine tk [10] ?_
   refine ong 11 [3,4,5,6,7] (clg (Qnn p0.Journal.Text (i64.wrap (((nth p0.Slots ((Qab p0).toNat)).Seq)+1)) lv2) Yq3) fun hgq=>?_
   obtain⟨hg4,_⟩:=hgq
   refine tk [12,13,14,15,16] ?_
   refine dn hb ?_
   refine ad 5 ?_
   refine op (cu 0 (((Qac p0.Journal.Text (i64.wrap (((nth p0.Slots ((Qab p0).toNat)).Seq)+1))).2).toNat) (hl:=rfl)) ?_
   refine ad 5 ?_
   exact Run.at [2,4,3] [5,3,4] (by first | exact su | (rw[h2];exact su)) (by decide)
  ·
   refine ad 1 ?_
   exact Run.at [2,4,3] [2,0,1] (by first | exact su | (rw[h2];exact su)) (by decide)
 refine ad 5 ?_
 have hg5:Dat.good (Disk.mk ((Qal p0).Slots) (Journal.mk (bif (Qe9 p0) then(cutS p0.Journal.Text 0 (((Qac p0.Journal.Text (i64.wrap (((nth p0.Slots ((Qab p0).toNat)).Seq)+1))).2).toNat)) else((Qal p0).Journal.Text)) (bif (Qe9 p0) then((Qac p0.Journal.Text (i64.wrap (((nth p0.Slots ((Qab p0).toNat)).Seq)+1))).2) else((Qal p0).Journal.Sure))):Disk):=⟨hg1.1,⟨(bifS (Qld hg_p0.2.1) hg1.2.1),(bifI (Qlq _ _) hg1.2.2)⟩⟩
 exact rz (rs:=[.cell 2 40]) (congrArg (fun x=>[Re.st Disk _ inferInstance x]) hM)
def Qfi (p0:List Int) (p1:Int):Nat→Nat→Bool
 | 0,i=>false
 | n+1,i=>bif decide ((nth p0 i)=p1) then true else(Qfi p0 p1 n (i+1))
def Qgb (p0:List Int) (p1:Int):Bool:=Qfi p0 p1 (p0.length - 0) 0
theorem Q9s (p0:List Int) (p1:Int):CTs 188 [.o (.sl Int instDatInt p0),.o (.c (.int .i64 p1))] [Re.c (.bool (Qgb p0 p1))]:=by
 refine en Tryz.func188 Tryz.ntmps188 fun w hG hgd=>?_
 obtain⟨hg_p0,_⟩:=hgd
 have hl_p0:p0.length≤9223372036854775807:=hg_p0.1
 have hM:=Qgb.eq_1 p0 p1
 refine ad 10 ?_
 refine Run.loopM (ι:=Nat) (fun s=>Qfi p0 p1 (p0.length - s) s) (fun s=>⟨18,1,[(0,.sl 0 p0.length),(1,.v (.int .i64 p1)),(5,.v (.int .i64 (s:Int)))],[(0,.ros Int instDatInt p0)]⟩) (fun s=>s≤p0.length) (fun s=>p0.length - s) 0 [0] [0] hM lv0 su (by decide) ?_
 rintro i hv hE
 try dsimp only at hE
 have hi:=hv
 try dsimp only at hi
 refine ad 8 ?_
 refine cd (fun h1=>?_) (fun h1=>?_)
 ·
  have h1l:i<p0.length:=by have:=of_decide_eq_true h1;omega
  have hM:=hE.trans ((congrArg (fun n=>Qfi p0 p1 n i) (show p0.length - i=(p0.length - (i+1))+1 by omega)).trans (Qfi.eq_2 _ _ _ _))
  refine ad 7 ?_
  have hg3:=Qan (k:=i) hg_p0 om
  refine op (ix (xs:=p0) i om) ?_
  refine ad 4 ?_
  refine cd (fun h4=>?_) (fun h4=>?_)
  ·
   have hM:=hM.trans (bt h4)
   refine ad 4 ?_
   exact rz (rs:=[.tmp 4]) (congrArg (fun x=>[Re.c (.bool x)]) hM)
  ·
   have hM:=hM.trans (bf h4)
   refine ad 5 ?_
   rw[Qcv (i:=i) om]
   refine ad 2 ?_
   exact Run.again (i+1) [0] [1] ⟨by first | omega | exact trivial | (dsimp only;omega) | (refine⟨by omega,?_⟩;simp_all;try omega),hM⟩ rfl lv1 su (by decide)
 ·
  have h1l: ¬ (i<p0.length):=by have:=of_decide_eq_false h1;omega
  have hM:=hE.trans ((congrArg (fun n=>Qfi p0 p1 n i) (show p0.length - i=0 by omega)).trans (Qfi.eq_1 _ _ _))
  refine ad 5 ?_
  exact rz (rs:=[.tmp 4]) (congrArg (fun x=>[Re.c (.bool x)]) hM)
def Qer (p0:List Tx) (p1:List Int):Nat→(List Tx)→Nat→(List Tx)
 | 0,w2,i=>w2
 | n+1,w2,i=>Qer p0 p1 n (bif ((decide (((nth w2 i).State)=1))&&(Qgb p1 ((nth w2 i).Id))) then(w2.set i { nth w2 i with State:=3 }) else w2) (i+1)
def Qd0 (p0:List Tx) (p1:List Int):(List Tx):=Qer p0 p1 (((Qcc p0).length) - 0) (Qcc p0) 0
theorem Ql6 (p0:List Tx) (p1:List Int) (hs:Dat.small 1048576 p0):CTs 127 [.o (.sl Tx instDatTx p0),.o (.sl Int instDatInt p1)] [Re.sl Tx instDatTx (Qd0 p0 p1)]:=by
 refine en Tryz.func127 Tryz.ntmps127 fun w hG hgd=>?_
 obtain⟨hg_p0,hg_p1,_⟩:=hgd
 have hl_p0:p0.length≤9223372036854775807:=hg_p0.1
 have hl_p1:p1.length≤9223372036854775807:=hg_p1.1
 have hM:=Qd0.eq_1 p0 p1
 have hs1:(Qcc p0).length≤1048576:=by rw[Yk0];exact hs.1
 refine ad 7 ?_
 refine og (clg (Qpk p0 (by first | assumption | exact hsmX)) Yon) fun hgq=>?_
 obtain⟨hg1,_⟩:=hgq
 refine ad 8 ?_
 refine Run.loopM (ι:=(List Tx)×Nat) (fun s=>Qer p0 p1 (((Qcc p0).length) - s.2) s.1 s.2) (fun s=>⟨35,2,[(1,.sl 0 p1.length),(5,.sl 1 s.1.length),(6,.v (.int .i64 (s.2:Int)))],[(0,.ros Int instDatInt p1),(1,.own Tx instDatTx s.1)]⟩) (fun s=>s.2≤(Qcc p0).length∧s.1.length=(Qcc p0).length) (fun s=>((Qcc p0).length) - s.2) ((Qcc p0),0) [1,2] [2,0] hM lv0 su (by decide) ?_
 rintro ⟨w2,i⟩ hv hE
 try dsimp only at hE
 obtain⟨hi,hv0⟩:=hv
 try dsimp only at hi hv0
 refine ad 8 ?_
 refine cd (fun h2=>?_) (fun h2=>?_)
 ·
  have h2l:i<(Qcc p0).length:=by have:=of_decide_eq_true h2;omega
  have hM:=hE.trans ((congrArg (fun n=>Qer p0 p1 n w2 i) (show((Qcc p0).length) - i=(((Qcc p0).length) - (i+1))+1 by omega)).trans (Qer.eq_2 _ _ _ _ _))
  refine ad 7 ?_
  refine op (oi (xs:=w2) i om) ?_
  refine ad 1 ?_
  refine op (lf (xs:=w2) i 9 om) ?_
  refine ad 2 ?_
  refine ag 3 ?_
  refine op (oiG (xs:=w2) i om) ?_
  refine ag 1 ?_
  refine op (lfG (xs:=w2) i 0 om) ?_
  refine op (cG (hct:=fun hB=>(Q9s p1 ((nth w2 i).Id))) (hfn:=Yr8)) ?_
  refine ag 1 ?_
  refine ad 1 ?_
  refine Run.mid ⟨35,2,[(1,.sl 0 p1.length),(5,.sl 1 ((bif ((decide (((nth w2 i).State)=1))&&(Qgb p1 ((nth w2 i).Id))) then(w2.set i { nth w2 i with State:=3 }) else w2).length)),(6,.v (.int .i64 (i:Int)))],[(0,.ros Int instDatInt p1),(1,.own Tx instDatTx (bif ((decide (((nth w2 i).State)=1))&&(Qgb p1 ((nth w2 i).Id))) then(w2.set i { nth w2 i with State:=3 }) else w2))]⟩ ?_ ?_
  ·refine cd (fun h3=>?_) (fun h3=>?_)
   ·
    refine ad 3 ?_
    refine op (oi (xs:=w2) i om) ?_
    refine ad 1 ?_
    refine op (sF (xs:=w2) i 9 { nth w2 i with State:=3 } (by dsimp only[Str.fk,FkUp,FkSm,Fk.same,Fk.scal,cond,Nat.beq,Nat.pred];(repeat' apply And.intro)<;>first | rfl | trivial | decide | exact om) om) ?_
    refine ad 1 ?_
    exact Run.at [0,1] [0,1] (by first | exact su | (rw[h3];exact su)) (by decide)
   ·
    refine ad 1 ?_
    exact Run.at [0,1] [0,1] (by first | exact su | (rw[h3];exact su)) (by decide)
  refine ad 4 ?_
  rw[Qcv (i:=i) om]
  refine ad 2 ?_
  exact Run.again (bif ((decide (((nth w2 i).State)=1))&&(Qgb p1 ((nth w2 i).Id))) then(w2.set i { nth w2 i with State:=3 }) else w2,(i+1)) [0,1] [0,1] ⟨by exact⟨by(try dsimp only);omega,by(try dsimp only);cases((decide (((nth w2 i).State)=1))&&(Qgb p1 ((nth w2 i).Id)))<;>simp only[cond_true,cond_false,List.length_set]<;>omega⟩,hM⟩ rfl lv1 su (by decide)
 ·
  have h2l: ¬ (i<(Qcc p0).length):=by have:=of_decide_eq_false h2;omega
  have hM:=hE.trans ((congrArg (fun n=>Qer p0 p1 n w2 i) (show((Qcc p0).length) - i=0 by omega)).trans (Qer.eq_1 _ _ _ _))
  refine ad 6 ?_
  exact rz (rs:=[.tmp 4]) (congrArg (fun x=>[Re.sl Tx instDatTx x]) hM)
end
section
attribute [local irreducible] Qae Qaa Qbb Qa0 Qa7 Qax Qar Qao Qk7 Qd0 Qc4 Qhs Qg6
set_option maxHeartbeats 4000000
theorem Yng:FnOk Tryz.prog 68:=⟨_,Tryz.func68,rfl,by kernel_rfl⟩
theorem Ys8:FnOk Tryz.prog 124:=⟨_,Tryz.func124,rfl,by kernel_rfl⟩
theorem Ys7:FnOk Tryz.prog 125:=⟨_,Tryz.func125,rfl,by kernel_rfl⟩
theorem Ys6:FnOk Tryz.prog 126:=⟨_,Tryz.func126,rfl,by kernel_rfl⟩
theorem Ylk:FnOk Tryz.prog 127:=⟨_,Tryz.func127,rfl,by kernel_rfl⟩
theorem Ys3:FnOk Tryz.prog 130:=⟨_,Tryz.func130,rfl,by kernel_rfl⟩
theorem Ys2:FnOk Tryz.prog 131:=⟨_,Tryz.func131,rfl,by kernel_rfl⟩
theorem Ys1:FnOk Tryz.prog 132:=⟨_,Tryz.func132,rfl,by kernel_rfl⟩
def Qb6 (p0:Kernel) (p1:Int):Nat→(List Tx)→Nat→Kernel
 | 0,w8,i=>(Kernel.mk ((Qbb (Qa7 (Qar p0.Disk p1))).1) w8 (Qa7 (Qar p0.Disk p1)) ((Qbb (Qa7 (Qar p0.Disk p1))).2) ((Qae p0).Next) ((Qae p0).Time) (Qk7 ((Qae p0).History) ((Qbb (Qa7 (Qar p0.Disk p1))).2)) ((Qae p0).Seen) ((Qae p0).Room))
 | n+1,w8,i=>Qb6 p0 p1 n (bif (decide (((nth w8 i).State)=1)) then(w8.set i { nth w8 i with State:=3 }) else w8) (i+1)
def Qe8 (p0:Kernel) (p1:Int):Kernel:=bif !(Qg6 p0) then(Qae p0) else(Qb6 p0 p1 (((Qae p0).Txs.length) - 0) ((Qae p0).Txs) 0)
theorem Qsy (p0:Kernel) (p1:Int) (hs:KSm p0):CTs 71 [.o (.st Kernel _ inferInstance p0),.o (.c (.int .i64 p1))] [Re.st Kernel _ inferInstance (Qe8 p0 p1)]:=by
 refine en Tryz.func71 Tryz.ntmps71 fun w hG hgd=>?_
 obtain⟨hg_p0,_⟩:=hgd
 have hM:=Qe8.eq_1 p0 p1
 have hsmD:Dat.small 1048576 p0.Disk:=hs.2.2.1
 refine ad 8 ?_
 refine og (clg (Qqj p0 (by first | assumption | exact hsK2)) Ys3) fun hgq=>?_
 obtain⟨hg1,_⟩:=hgq
 refine ad 7 ?_
 refine op (cl (Q1k p0) Ys2) ?_
 refine ad 2 ?_
 refine cd (fun h2=>?_) (fun h2=>?_)
 ·
  have hM:=hM.trans (bt h2)
  refine ad 5 ?_
  exact rz (rs:=[.cell 4 43]) (congrArg (fun x=>[Re.st Kernel _ inferInstance x]) hM)
 ·
  have hM:=hM.trans (bf h2)
  have hsmD2:Dat.small 1048576 (Qae p0).Disk:=by rw[Qmq];exact hsmD
  have hsmX:Dat.small 1048576 (Qae p0).Txs:=by rw[Qmq];exact hs.2.1
  have hlX:(Qae p0).Txs.length≤1048576:=hsmX.1
  have hlH:(Qae p0).History.length≤1048576:=by rw[Qmq];exact hs.2.2.2.1.1
  have hsmF:=Qqh hsmD p1
  have hrin:=Qmr (Qa7 (Qar p0.Disk p1))
  refine ad 6 ?_
  have hg3:Dat.good (p0.Disk:Disk):=hg_p0.2.2.1
  refine og (clg (Q1m p0.Disk p1 (by first | assumption | exact hsmD)) Yvh) fun hgq=>?_
  obtain⟨hg4,_⟩:=hgq
  refine og (clg (Q2y (Qar p0.Disk p1) (by first | assumption | exact hsmF)) Ys1) fun hgq=>?_
  obtain⟨hg5,_⟩:=hgq
  refine ad 7 ?_
  refine og (clg (Qzk (Qa7 (Qar p0.Disk p1))) Yvl) fun hgq=>?_
  obtain⟨hg6,_⟩:=hgq
  refine ad 17 ?_
  refine Run.loopM (ι:=(List Tx)×Nat) (fun s=>Qb6 p0 p1 (((Qae p0).Txs.length) - s.2) s.1 s.2) (fun s=>⟨52,7,[(4,.pt 0 0),(5,.pt 1 0),(29,.sl 3 s.1.length),(30,.v (.int .i64 ((Qae p0).Txs.length:Int))),(31,.v (.int .i64 (s.2:Int)))],[(0,.var [.v (.slice none 0 0),.v (.slice none 0 0),.v (.slice none 0 0),.v (.string ⟨#[]⟩),.v (.int .i64 0),.v (.int .i64 0),.v (.int .i64 0),.v (.int .i64 0),.v (.slice none 0 0),.v (.slice none 0 0),.v (.bool false)] 43),(1,.var [.sl 2 (((Qbb (Qa7 (Qar p0.Disk p1))).1).length),.sl 3 s.1.length,.sl 4 ((Qa7 (Qar p0.Disk p1)).Slots.length),.v (.string ((Qa7 (Qar p0.Disk p1)).Journal.Text)),.v (.int .i64 ((Qa7 (Qar p0.Disk p1)).Journal.Sure)),.v (.int .i64 ((Qbb (Qa7 (Qar p0.Disk p1))).2)),.v (.int .i64 ((Qae p0).Next)),.v (.int .i64 ((Qae p0).Time)),.sl 5 ((Qae p0).History.length),.sl 6 ((Qae p0).Seen.length),.v (.bool ((Qae p0).Room))] 43),(2,.own Cell instDatCell ((Qbb (Qa7 (Qar p0.Disk p1))).1)),(3,.own Tx instDatTx s.1),(4,.own Slot instDatSlot ((Qa7 (Qar p0.Disk p1)).Slots)),(5,.own Entry instDatEntry ((Qae p0).History)),(6,.own ByteArray instDatByteArray ((Qae p0).Seen))]⟩) (fun s=>s.2≤(Qae p0).Txs.length∧s.1.length=((Qae p0).Txs).length) (fun s=>((Qae p0).Txs.length) - s.2) ((Qae p0).Txs,0) [6,12,15,8,14,10,11] [9,3,0,5,1,7,8] hM lv0 su (by decide) ?_
  rintro ⟨w8,i⟩ hv hE
  try dsimp only at hE
  obtain⟨hi,hv0⟩:=hv
  try dsimp only at hi hv0
  refine ad 5 ?_
  refine cd (fun h7=>?_) (fun h7=>?_)
  ·
   have h7l:i<(Qae p0).Txs.length:=by have:=of_decide_eq_true h7;omega
   have hM:=hE.trans ((congrArg (fun n=>Qb6 p0 p1 n w8 i) (show((Qae p0).Txs.length) - i=(((Qae p0).Txs.length) - (i+1))+1 by omega)).trans (Qb6.eq_2 _ _ _ _ _))
   refine ad 6 ?_
   refine op (oi (xs:=w8) i om) ?_
   refine oW (lW (xs:=w8) i (fun u8=>[.v (.int .i64 ((nth w8 i).Id)),.v (.int .i64 ((nth w8 i).Age)),.v (.int .i64 ((nth w8 i).Proc)),.v (.int .i64 ((nth w8 i).Began)),.v (.slice (u8 0).1 (u8 0).2.1 (u8 0).2.2),.v (.slice (u8 1).1 (u8 1).2.1 (u8 1).2.2),.v (.slice (u8 2).1 (u8 2).2.1 (u8 2).2.2),.v (.slice (u8 3).1 (u8 3).2.1 (u8 3).2.2),.v (.slice (u8 4).1 (u8 4).2.1 (u8 4).2.2),.v (.int .i64 ((nth w8 i).State))]) om) fun u8=>?_
   refine ad 10 ?_
   refine Run.mid ⟨52,7,[(4,.pt 0 0),(5,.pt 1 0),(29,.sl 3 ((bif (decide (((nth w8 i).State)=1)) then(w8.set i { nth w8 i with State:=3 }) else w8).length)),(30,.v (.int .i64 ((Qae p0).Txs.length:Int))),(31,.v (.int .i64 (i:Int)))],[(0,.var [.v (.slice none 0 0),.v (.slice none 0 0),.v (.slice none 0 0),.v (.string ⟨#[]⟩),.v (.int .i64 0),.v (.int .i64 0),.v (.int .i64 0),.v (.int .i64 0),.v (.slice none 0 0),.v (.slice none 0 0),.v (.bool false)] 43),(1,.var [.sl 2 (((Qbb (Qa7 (Qar p0.Disk p1))).1).length),.sl 3 ((bif (decide (((nth w8 i).State)=1)) then(w8.set i { nth w8 i with State:=3 }) else w8).length),.sl 4 ((Qa7 (Qar p0.Disk p1)).Slots.length),.v (.string ((Qa7 (Qar p0.Disk p1)).Journal.Text)),.v (.int .i64 ((Qa7 (Qar p0.Disk p1)).Journal.Sure)),.v (.int .i64 ((Qbb (Qa7 (Qar p0.Disk p1))).2)),.v (.int .i64 ((Qae p0).Next)),.v (.int .i64 ((Qae p0).Time)),.sl 5 ((Qae p0).History.length),.sl 6 ((Qae p0).Seen.length),.v (.bool ((Qae p0).Room))] 43),(2,.own Cell instDatCell ((Qbb (Qa7 (Qar p0.Disk p1))).1)),(3,.own Tx instDatTx (bif (decide (((nth w8 i).State)=1)) then(w8.set i { nth w8 i with State:=3 }) else w8)),(4,.own Slot instDatSlot ((Qa7 (Qar p0.Disk p1)).Slots)),(5,.own Entry instDatEntry ((Qae p0).History)),(6,.own ByteArray instDatByteArray ((Qae p0).Seen))]⟩ ?_ ?_
   ·refine cd (fun h9=>?_) (fun h9=>?_)
    ·
     refine ad 4 ?_
     refine op (oi (xs:=w8) i om) ?_
     refine ad 1 ?_
     refine op (sF (xs:=w8) i 9 { nth w8 i with State:=3 } (by dsimp only[Str.fk,FkUp,FkSm,Fk.same,Fk.scal,cond,Nat.beq,Nat.pred];(repeat' apply And.intro)<;>first | rfl | trivial | decide | exact om) om) ?_
     refine ad 1 ?_
     exact Run.at [0,1,2,3,4,5,6] [1,2,3,4,5,6,7] (by first | exact su | (rw[h9];exact su)) (by decide)
    ·
     refine ad 1 ?_
     exact Run.at [0,1,2,3,4,5,6] [1,2,3,4,5,6,7] (by first | exact su | (rw[h9];exact su)) (by decide)
   refine ad 3 ?_
   rw[Qcv (i:=i) om]
   refine ad 2 ?_
   exact Run.again (bif (decide (((nth w8 i).State)=1)) then(w8.set i { nth w8 i with State:=3 }) else w8,(i+1)) [0,1,2,3,4,5,6] [0,1,2,3,4,5,6] ⟨by exact⟨by(try dsimp only);omega,by(try dsimp only);cases(decide (((nth w8 i).State)=1))<;>simp only[cond_true,cond_false,List.length_set]<;>omega⟩,hM⟩ rfl lv1 su (by decide)
  ·
   have h7l: ¬ (i<(Qae p0).Txs.length):=by have:=of_decide_eq_false h7;omega
   have hM:=hE.trans ((congrArg (fun n=>Qb6 p0 p1 n w8 i) (show((Qae p0).Txs.length) - i=0 by omega)).trans (Qb6.eq_1 _ _ _ _))
   refine ad 7 ?_
   refine og (cm [5] [] [5] [] [0,1,2,3,4,6] (Yfb ((Qae p0).History) ((Qbb (Qa7 (Qar p0.Disk p1))).2) (by first | assumption | exact Q0p _)) Yvf) fun _=>?_
   refine ad 8 ?_
   refine gd 7 fun hg10=>?_
   refine gd 3 fun hg11=>?_
   refine gd 6 fun hg12=>?_
   have hg13:Dat.good (Kernel.mk ((Qbb (Qa7 (Qar p0.Disk p1))).1) w8 (Qa7 (Qar p0.Disk p1)) ((Qbb (Qa7 (Qar p0.Disk p1))).2) ((Qae p0).Next) ((Qae p0).Time) (Qk7 ((Qae p0).History) ((Qbb (Qa7 (Qar p0.Disk p1))).2)) ((Qae p0).Seen) ((Qae p0).Room):Kernel):=⟨hg6,hg11,hg5,lv3,hg1.2.2.2.2.1,hg1.2.2.2.2.2.1,hg10,hg12,hg1.2.2.2.2.2.2.2.2⟩
   exact rz (rs:=[.cell 4 43]) (congrArg (fun x=>[Re.st Kernel _ inferInstance x]) hM)
def Qc1 (p0:Kernel) (p1:Int):Nat→Nat→Kernel
 | 0,i=>(Kernel.mk ((Qa0 (Qax (Qao ((Qaa p0).Disk) p1))).1) (Qd0 ((Qaa p0).Txs) (Qc4 ((Qaa p0).Txs))) (Qax (Qao ((Qaa p0).Disk) p1)) ((Qa0 (Qax (Qao ((Qaa p0).Disk) p1))).2) ((Qaa p0).Next) ((Qaa p0).Time) ((Qaa p0).History) ((Qaa p0).Seen) ((Qaa p0).Room))
 | n+1,i=>bif ((nth ((Qaa p0).History) i).Laid)&&(decide (((nth ((Qaa p0).History) i).Seq)>((Qa0 (Qax (Qao ((Qaa p0).Disk) p1))).2))) then(Kernel.mk ((Qa0 (Qax (Qao ((Qaa p0).Disk) p1))).1) (Qd0 ((Qaa p0).Txs) (Qc4 ((Qaa p0).Txs))) (Qax (Qao ((Qaa p0).Disk) p1)) ((Qa0 (Qax (Qao ((Qaa p0).Disk) p1))).2) ((Qaa p0).Next) ((Qaa p0).Time) (List.take i ((Qaa p0).History)) ((Qaa p0).Seen) ((Qaa p0).Room)) else(Qc1 p0 p1 n (i+1))
def Qfo (p0:Kernel) (p1:Int):Kernel:=bif !(Qhs (Qaa p0)) then(Qaa p0) else(Qc1 p0 p1 (((Qaa p0).History.length) - 0) 0)
theorem Qsv (p0:Kernel) (p1:Int) (hs:KSm p0):CTs 69 [.o (.st Kernel _ inferInstance p0),.o (.c (.int .i64 p1))] [Re.st Kernel _ inferInstance (Qfo p0 p1)]:=by
 refine en Tryz.func69 Tryz.ntmps69 fun w hG hgd=>?_
 obtain⟨hg_p0,_⟩:=hgd
 have hM:=Qfo.eq_1 p0 p1
 have hsmD:Dat.small 1048576 p0.Disk:=hs.2.2.1
 refine ad 8 ?_
 refine og (clg (Q2c p0 (by first | assumption | exact hsK2)) Ys8) fun hgq=>?_
 obtain⟨hg1,_⟩:=hgq
 refine ad 6 ?_
 refine op (cl (Q06 (Qaa p0)) Ys7) ?_
 refine ad 2 ?_
 refine cd (fun h2=>?_) (fun h2=>?_)
 ·
  have hM:=hM.trans (bt h2)
  refine ad 5 ?_
  exact rz (rs:=[.cell 4 43]) (congrArg (fun x=>[Re.st Kernel _ inferInstance x]) hM)
 ·
  have hM:=hM.trans (bf h2)
  have hsmD2:Dat.small 1048576 (Qaa p0).Disk:=by rw[Q8t];exact hsmD
  have hsmX:Dat.small 1048576 (Qaa p0).Txs:=by rw[Q8t];exact hs.2.1
  have hlX:(Qaa p0).Txs.length≤1048576:=hsmX.1
  have hlH:(Qaa p0).History.length≤1048576:=by rw[Q8t];exact hs.2.2.2.1.1
  have hsmF:=Qpt hsmD2 p1
  refine ad 6 ?_
  have hg3:Dat.good ((Qaa p0).Disk:Disk):=hg1.2.2.1
  refine og (clg (Q07 ((Qaa p0).Disk) p1 (by first | assumption | exact hsmD)) Yvi) fun hgq=>?_
  obtain⟨hg4,_⟩:=hgq
  refine og (clg (Q2h (Qao ((Qaa p0).Disk) p1) (by first | assumption | exact hsmF)) Ys6) fun hgq=>?_
  obtain⟨hg5,_⟩:=hgq
  refine ad 7 ?_
  refine og (clg (Qzf (Qax (Qao ((Qaa p0).Disk) p1))) Yvp) fun hgq=>?_
  obtain⟨hg6,_⟩:=hgq
  refine ad 9 ?_
  refine Run.mid ⟨63,7,[(2,.pt 0 0),(4,.pt 6 0)],[(0,.var [.sl 1 (((Qa0 (Qax (Qao ((Qaa p0).Disk) p1))).1).length),.sl 2 ((Qd0 ((Qaa p0).Txs) (Qc4 ((Qaa p0).Txs))).length),.sl 3 ((Qax (Qao ((Qaa p0).Disk) p1)).Slots.length),.v (.string ((Qax (Qao ((Qaa p0).Disk) p1)).Journal.Text)),.v (.int .i64 ((Qax (Qao ((Qaa p0).Disk) p1)).Journal.Sure)),.v (.int .i64 ((Qa0 (Qax (Qao ((Qaa p0).Disk) p1))).2)),.v (.int .i64 ((Qaa p0).Next)),.v (.int .i64 ((Qaa p0).Time)),.sl 4 ((Qaa p0).History.length),.sl 5 ((Qaa p0).Seen.length),.v (.bool ((Qaa p0).Room))] 43),(1,.own Cell instDatCell ((Qa0 (Qax (Qao ((Qaa p0).Disk) p1))).1)),(2,.own Tx instDatTx (Qd0 ((Qaa p0).Txs) (Qc4 ((Qaa p0).Txs)))),(3,.own Slot instDatSlot ((Qax (Qao ((Qaa p0).Disk) p1)).Slots)),(4,.own Entry instDatEntry ((Qaa p0).History)),(5,.own ByteArray instDatByteArray ((Qaa p0).Seen)),(6,.var [.v (.slice none 0 0),.v (.slice none 0 0),.v (.slice none 0 0),.v (.string ⟨#[]⟩),.v (.int .i64 0),.v (.int .i64 0),.v (.int .i64 0),.v (.int .i64 0),.v (.slice none 0 0),.v (.slice none 0 0),.v (.bool false)] 43)]⟩ ?_ ?_
  ·
   refine ds 8 [0,1,2,3,4,5,6,7,8,10,11,12,13,14] fun _ _ _ _ _ hb=>?_
   refine tk [0,2] ?_
   refine o2 1 3 ?_ ?_
   ·
    refine on1 1 [0,1,2,3,4,5,6,7,8,10,11,12,13,14] (OpS.st rfl) ?_
    refine on 3 [0,1,2,3,4,5,6,7,8,10,11,12,13,14] (OpS.st rfl) ?_
    refine ong 4 [1,2,3,4,5,6,7,8,9,11,12,13,14,15] (clg (Qkj ((Qaa p0).Txs) lv2) Yng) fun hgq=>?_
    obtain⟨hg7,_⟩:=hgq
    refine ong 5 [2,3,4,5,6,7,8,9,10,12,13,14,15,16] (clg (Ql6 ((Qaa p0).Txs) (Qc4 ((Qaa p0).Txs)) (by first | assumption | exact hsmX)) Ylk) fun hgq=>?_
    obtain⟨hg8,_⟩:=hgq
    refine tk [6] ?_
    refine on 7 [2,3,4,5,6,7,8,9,10,12,13,14,15,16] (OpS.st rfl) ?_
    refine dn hb ?_
    exact Run.at [5,14,16,13,10,11,6] [11,2,0,3,8,9,10] su (by decide)
   ·
    refine on1 3 [0,1,2,3,4,5,6,7,8,10,11,12,13,14] (OpS.st rfl) ?_
    refine o2 1 4 ?_ ?_
    ·
     refine on1 1 [0,1,2,3,4,5,6,7,8,10,11,12,13,14] (OpS.st rfl) ?_
     refine ong 4 [1,2,3,4,5,6,7,8,9,11,12,13,14,15] (clg (Qkj ((Qaa p0).Txs) lv2) Yng) fun hgq=>?_
     obtain⟨hg9,_⟩:=hgq
     refine ong 5 [2,3,4,5,6,7,8,9,10,12,13,14,15,16] (clg (Ql6 ((Qaa p0).Txs) (Qc4 ((Qaa p0).Txs)) (by first | assumption | exact hsmX)) Ylk) fun hgq=>?_
     obtain⟨hg10,_⟩:=hgq
     refine tk [6] ?_
     refine on 7 [2,3,4,5,6,7,8,9,10,12,13,14,15,16] (OpS.st rfl) ?_
     refine dn hb ?_
     exact Run.at [5,14,16,13,10,11,6] [11,2,0,3,8,9,10] su (by decide)
    ·
     refine ong1 4 [1,2,3,4,5,6,7,8,9,11,12,13,14,15] (clg (Qkj ((Qaa p0).Txs) lv2) Yng) fun hgq=>?_
     obtain⟨hg11,_⟩:=hgq
     refine on 1 [1,2,3,4,5,6,7,8,9,11,12,13,14,15] (OpS.st rfl) ?_
     refine ong 5 [2,3,4,5,6,7,8,9,10,12,13,14,15,16] (clg (Ql6 ((Qaa p0).Txs) (Qc4 ((Qaa p0).Txs)) (by first | assumption | exact hsmX)) Ylk) fun hgq=>?_
     obtain⟨hg12,_⟩:=hgq
     refine tk [6] ?_
     refine on 7 [2,3,4,5,6,7,8,9,10,12,13,14,15,16] (OpS.st rfl) ?_
     refine dn hb ?_
     exact Run.at [5,14,16,13,10,11,6] [11,2,0,3,8,9,10] su (by decide)
  refine ad 6 ?_
  refine Run.loopM (ι:=Nat) (fun s=>Qc1 p0 p1 (((Qaa p0).History.length) - s) s) (fun s=>⟨63,7,[(2,.pt 0 0),(4,.pt 6 0),(5,.v (.int .i64 (s:Int)))],[(0,.var [.sl 1 (((Qa0 (Qax (Qao ((Qaa p0).Disk) p1))).1).length),.sl 2 ((Qd0 ((Qaa p0).Txs) (Qc4 ((Qaa p0).Txs))).length),.sl 3 ((Qax (Qao ((Qaa p0).Disk) p1)).Slots.length),.v (.string ((Qax (Qao ((Qaa p0).Disk) p1)).Journal.Text)),.v (.int .i64 ((Qax (Qao ((Qaa p0).Disk) p1)).Journal.Sure)),.v (.int .i64 ((Qa0 (Qax (Qao ((Qaa p0).Disk) p1))).2)),.v (.int .i64 ((Qaa p0).Next)),.v (.int .i64 ((Qaa p0).Time)),.sl 4 ((Qaa p0).History.length),.sl 5 ((Qaa p0).Seen.length),.v (.bool ((Qaa p0).Room))] 43),(1,.own Cell instDatCell ((Qa0 (Qax (Qao ((Qaa p0).Disk) p1))).1)),(2,.own Tx instDatTx (Qd0 ((Qaa p0).Txs) (Qc4 ((Qaa p0).Txs)))),(3,.own Slot instDatSlot ((Qax (Qao ((Qaa p0).Disk) p1)).Slots)),(4,.own Entry instDatEntry ((Qaa p0).History)),(5,.own ByteArray instDatByteArray ((Qaa p0).Seen)),(6,.var [.v (.slice none 0 0),.v (.slice none 0 0),.v (.slice none 0 0),.v (.string ⟨#[]⟩),.v (.int .i64 0),.v (.int .i64 0),.v (.int .i64 0),.v (.int .i64 0),.v (.slice none 0 0),.v (.slice none 0 0),.v (.bool false)] 43)]⟩) (fun s=>s≤(Qaa p0).History.length) (fun s=>((Qaa p0).History.length) - s) 0 [0,1,2,3,4,5,6] [0,1,2,3,4,5,6] hM lv0 su (by decide) ?_
  rintro i hv hE
  try dsimp only at hE
  have hi:=hv
  try dsimp only at hi
  refine ad 9 ?_
  refine cd (fun h13=>?_) (fun h13=>?_)
  ·
   have h13l:i<(Qaa p0).History.length:=by have:=of_decide_eq_true h13;omega
   have hM:=hE.trans ((congrArg (fun n=>Qc1 p0 p1 n i) (show((Qaa p0).History.length) - i=(((Qaa p0).History.length) - (i+1))+1 by omega)).trans (Qc1.eq_2 _ _ _ _))
   refine ad 4 ?_
   refine dr 17 fun _ _ _ _ _ hb=>?_
   refine tk [0,1,2] ?_
   refine on 3 [0,1,2,3,4,5,6] (oi (xs:=(Qaa p0).History) i om) ?_
   refine tk [4] ?_
   refine on 5 [0,1,2,3,4,5,6] (lf (xs:=(Qaa p0).History) i 7 om) ?_
   refine tk [6,7,8,9,13,14] ?_
   refine on 10 [0,1,2,3,4,5,6] (oiG (xs:=(Qaa p0).History) i om) ?_
   refine tk [11] ?_
   refine on 12 [0,1,2,3,4,5,6] (lfG (xs:=(Qaa p0).History) i 0 om) ?_
   refine tk [15,16] ?_
   refine dn hb ?_
   refine cd (fun h14=>?_) (fun h14=>?_)
   ·
    have hM:=hM.trans (bt h14)
    refine ad 5 ?_
    refine op (cO (xs:=(Qaa p0).History) i (by first | omega | exact om | (simp only[List.length_append,List.length_take,List.length_replicate,List.length_set];omega)) (hl:=by first | rfl | (simp only[List.length_append,List.length_take,List.length_replicate,List.length_set];omega))) ?_
    refine ad 9 ?_
    refine gd 7 fun hg15=>?_
    refine gd 2 fun hg16=>?_
    refine gd 5 fun hg17=>?_
    have hg18:Dat.good (Kernel.mk ((Qa0 (Qax (Qao ((Qaa p0).Disk) p1))).1) (Qd0 ((Qaa p0).Txs) (Qc4 ((Qaa p0).Txs))) (Qax (Qao ((Qaa p0).Disk) p1)) ((Qa0 (Qax (Qao ((Qaa p0).Disk) p1))).2) ((Qaa p0).Next) ((Qaa p0).Time) (List.take i ((Qaa p0).History)) ((Qaa p0).Seen) ((Qaa p0).Room):Kernel):=⟨hg6,hg16,hg5,(Qmg _),hg1.2.2.2.2.1,hg1.2.2.2.2.2.1,hg15,hg17,hg1.2.2.2.2.2.2.2.2⟩
    exact rz (rs:=[.cell 4 43]) (congrArg (fun x=>[Re.st Kernel _ inferInstance x]) hM)
   ·
    have hM:=hM.trans (bf h14)
    refine ad 5 ?_
    rw[Qcv (i:=i) om]
    refine ad 2 ?_
    exact Run.again (i+1) [0,1,2,3,4,5,6] [0,1,2,3,4,5,6] ⟨by first | omega | exact trivial | (dsimp only;omega) | (refine⟨by omega,?_⟩;simp_all;try omega),hM⟩ rfl lv1 su (by decide)
  ·
   have h13l: ¬ (i<(Qaa p0).History.length):=by have:=of_decide_eq_false h13;omega
   have hM:=hE.trans ((congrArg (fun n=>Qc1 p0 p1 n i) (show((Qaa p0).History.length) - i=0 by omega)).trans (Qc1.eq_1 _ _ _))
   refine ad 6 ?_
   refine gd 2 fun hg19=>?_
   refine gd 4 fun hg20=>?_
   refine gd 5 fun hg21=>?_
   have hg22:Dat.good (Kernel.mk ((Qa0 (Qax (Qao ((Qaa p0).Disk) p1))).1) (Qd0 ((Qaa p0).Txs) (Qc4 ((Qaa p0).Txs))) (Qax (Qao ((Qaa p0).Disk) p1)) ((Qa0 (Qax (Qao ((Qaa p0).Disk) p1))).2) ((Qaa p0).Next) ((Qaa p0).Time) ((Qaa p0).History) ((Qaa p0).Seen) ((Qaa p0).Room):Kernel):=⟨hg6,hg19,hg5,(Qmg _),hg1.2.2.2.2.1,hg1.2.2.2.2.2.1,hg20,hg21,hg1.2.2.2.2.2.2.2.2⟩
   exact rz (rs:=[.cell 4 43]) (congrArg (fun x=>[Re.st Kernel _ inferInstance x]) hM)
end
section
theorem Ynl (s:ByteArray) (n:Nat) (h:s.size=n+1):cutS s n s.size=⟨#[Qav s n]⟩:=by
 obtain⟨⟨l⟩⟩:=s
 have hl:l.length=n+1:=h
 apply ByteArray.ext
 unfold cutS
 rw[Ylz]
 simp only[ByteArray.data_extract]
 show(l.toArray.extract n _)=_
 rw[show(⟨l.toArray⟩:ByteArray).size=n+1 from hl]
 apply Array.ext
 ·simp[hl]
 ·intro i h1 h2
  have:i=0:=by simp at h2;omega
  subst this
  simp[List.getElem?_eq_getElem (show n<l.length by omega)]
theorem Ypv (s:ByteArray) (hs:s.size≤9223372036854775807):Qbv s ⟨#[42]⟩=((decide ((s.size:Int)>0))&&(decide (((Qav s ((i64.wrap ((s.size:Int) - 1)).toNat)).toNat:Int)=42))):=by
 unfold Qbv
 by_cases h:s.size=0
 ·rw[decide_eq_false (show ¬ (s.size:Int)>0 by omega),decide_eq_false (show ¬ (s.size:Int)≥((⟨#[42]⟩:ByteArray).size:Int) by show ¬ (s.size:Int)≥1;omega),Bool.false_and,Bool.false_and]
 ·obtain⟨n,hn⟩: ∃ n,s.size=n+1:=⟨s.size - 1,by omega⟩
  rw[decide_eq_true (show(s.size:Int)>0 by omega),decide_eq_true (show(s.size:Int)≥((⟨#[42]⟩:ByteArray).size:Int) by show(s.size:Int)≥1;omega),Bool.true_and,Bool.true_and]
  have hw:(IntKind.i64.wrap ((s.size:Int) - 1)).toNat=n:=by rw[IntWalk.i64_in _ (by omega)];omega
  rw[show((⟨#[42]⟩:ByteArray).size:Int)=1 from rfl,hw,Ynl s n hn]
  apply decide_eq_decide.2
  constructor
  ·intro e
   injection e with e
   have:Qav s n=42:=by simpa using e
   rw[this];rfl
  ·intro e
   have:Qav s n=42:=by
    have h3:(Qav s n).toNat=42:=by omega
    exact UInt8.toNat_inj.1 h3
   rw[this]
theorem Qoi (s:ByteArray) (hs:s.size≤9223372036854775807):Qbc s ⟨#[42]⟩=Qbn s:=by
 unfold Qbc Qce Qbn
 rw[Ypv s hs]
 cases(decide ((s.size:Int)>0))&&(decide (((Qav s ((i64.wrap ((s.size:Int) - 1)).toNat)).toNat:Int)=42)) with
 | true=>rfl
 | false=>rfl
theorem Qyz (a b:ByteArray) (ha:a.size≤9223372036854775807):Qil a b=Qhi a b:=by
 unfold Qil Qhi
 rw[Qoi a ha]
 rfl
theorem Q21 (a b:ByteArray) (ha:a.size≤9223372036854775807) (hb:b.size≤9223372036854775807):Qgq a b=Qco a b:=by
 unfold Qgq Qco
 rw[Qyz a b ha,Qyz b a hb,Qoi a ha,Qoi b hb]
 unfold Qhi
 cases(Qbn a).2<;>cases(Qbn b).2<;>rfl
theorem Qps (a b:ByteArray):Qco a b=Qco b a:=by
 unfold Qco Qhi
 cases(Qbn a).2<;>cases(Qbn b).2
 ·simp only[Bool.and_self,cond_false]
  exact decide_eq_decide.2 eq_comm
 ·rfl
 ·rfl
 ·simp only[Bool.and_self,cond_true]
  exact Bool.or_comm _ _
def anyN (f:Nat→Bool):Nat→Nat→Bool
 | 0,_=>false
 | n+1,i=>f i||anyN f n (i+1)
theorem Yae (f:Nat→Bool): ∀ n i,anyN f n i=true ↔ ∃ j,i≤j∧j<i+n∧f j=true:=by
  intro n
  induction n with
  | zero => intro i; simp only [anyN]; constructor; · intro h; cases h
            · rintro ⟨j,h1,h2,_⟩;omega
  | succ n ih =>
    intro i
    rw[anyN,Bool.or_eq_true,ih]
    constructor
    · rintro (h | ⟨j, h1, h2, h3⟩)
      · exact⟨i,Nat.le_refl _,by omega,h⟩
      · exact⟨j,by omega,by omega,h3⟩
    · rintro ⟨j, h1, h2, h3⟩
      by_cases e:j=i
      · subst e;exact .inl h3
      · exact .inr ⟨j,by omega,by omega,h3⟩
theorem Yj1 {f g:Nat→Bool}: ∀ n i,(∀ j,i≤j→j<i+n→f j=g j)→anyN f n i=anyN g n i:=by
 intro n
 induction n with
 | zero=>intro i _;rfl
 | succ n ih=>intro i h;rw[anyN,anyN,h i (Nat.le_refl _) (by omega),ih (i+1) fun j h1 h2=>h j (by omega) (by omega)]
theorem Ydf (p q:List ByteArray) (i:Nat) (k:Unit→Bool): ∀ n j,Qep p q i k n j=(anyN (fun j=>Qco (nth p i) (nth q j)) n j||k ()):=by
 intro n
 induction n with
 | zero=>intro j;rfl
 | succ n ih =>
  intro j
  rw[Qep,anyN,ih]
  cases Qco (nth p i) (nth q j)<;>rfl
theorem Qyn (p q:List ByteArray): ∀ n i,Qeq p q n i=anyN (fun i=>anyN (fun j=>Qco (nth p i) (nth q j)) (q.length - 0) 0) n i:=by
 intro n
 induction n with
 | zero=>intro i;rfl
 | succ n ih=>intro i;rw[Qeq,Ydf,anyN,ih]
theorem Q1x (p q:List ByteArray):Qfn p q=true ↔ ∃ i j,i<p.length∧j<q.length∧Qco (nth p i) (nth q j)=true:=by
 unfold Qfn
 rw[Qyn,Yae]
 constructor
 ·rintro ⟨i,_,h2,h3⟩
  obtain⟨j,_,h5,h6⟩:=(Yae _ _ _).1 h3
  exact⟨i,j,by omega,by omega,h6⟩
 ·rintro ⟨i,j,h1,h2,h3⟩
  exact⟨i,by omega,by omega,(Yae _ _ _).2 ⟨j,by omega,by omega,h3⟩⟩
theorem Yef (p q:List ByteArray):Qfn p q=Qfn q p:=by
 rw[Bool.eq_iff_iff,Q1x,Q1x]
 constructor
 ·rintro ⟨i,j,h1,h2,h3⟩;exact⟨j,i,h2,h1,by rw[Qps];exact h3⟩
 ·rintro ⟨i,j,h1,h2,h3⟩;exact⟨j,i,h2,h1,by rw[Qps];exact h3⟩
theorem Yk4 (q:List ByteArray) (x:ByteArray): ∀ n i,decide (Qbp q x n i≥0)=anyN (fun j=>Qgq x (nth q j)) n i:=by
 intro n
 induction n with
 | zero=>intro i;rfl
 | succ n ih =>
  intro i
  rw[Qbp,anyN,←ih]
  unfold Qjj
  cases Qgq x (nth q i) with
  | true=>rw[cond_true,decide_eq_true (show((i:Nat):Int)≥0 by omega)];rfl
  | false=>rfl
theorem Qos {p q:List ByteArray} (hp:Dat.good p) (hq:Dat.good q):Qhn p q=Qfn p q:=by
 have sz: ∀ {l:List ByteArray},Dat.good l→ ∀ {i},i<l.length→(nth l i).size≤9223372036854775807:=fun h _ hi=>Qan h hi
 have key: ∀ n i,i+n≤p.length→Qe7 p q n i=anyN (fun i=>anyN (fun j=>Qco (nth p i) (nth q j)) (q.length - 0) 0) n i:=by
  intro n
  induction n with
  | zero=>intro i _;rfl
  | succ n ih =>
   intro i h
   rw[Qe7,anyN,ih (i+1) (by omega)]
   unfold Qff Qfz
   rw[Yk4,Yj1 (g:=fun j=>Qco (nth p i) (nth q j)) (q.length - 0) 0 fun j _ h2=>Q21 _ _ (sz hp (by omega)) (sz hq (by omega))]
   cases anyN (fun j=>Qco (nth p i) (nth q j)) (q.length - 0) 0<;>rfl
 unfold Qhn Qfn
 rw[key _ _ (by omega),Qyn]
theorem Yj5 {a b:Touch} (ha:Dat.good a) (hb:Dat.good b):Qms a b=Qko a b:=by
 unfold Qms Qko
 rw[Qos ha.2 hb.1,Qos ha.2 hb.2,Qos hb.2 ha.1,Yef b.Writes a.Reads]
theorem Yf0 {α:Type} [Inhabited α] (xs:List α) {i j:Nat} (h:j<i):nth (xs.take i) j=nth xs j:=by
 unfold nth
 rw[List.getD_eq_getElem?_getD,List.getD_eq_getElem?_getD,List.getElem?_take,if_pos h]
theorem Qzt {l:List Tx} (hg:Dat.good l) {i:Nat} (hi:i<l.length) {k:Unit→Bool}: ∀ n j,j+n=i→Qef l i k n j=Qd9 l i k n j:=by
 intro n
 induction n with
 | zero=>intro j _;rfl
 | succ n ih =>
  intro j h
  have e:nth (cutL l 0 i) j=nth l j:=Yf0 l (by omega)
  rw[Qef,Qd9,ih (j+1) (by omega),e,Yj5 (Qan hg hi).2.2.2.2.2.2.1 (Qan hg (k:=j) (by omega)).2.2.2.2.2.2.1]
theorem Yas {l:List Tx} (hg:Dat.good l):Qkh l=Qke l:=by
 have key: ∀ n i,i+n=l.length→Qeg l n i=Qea l n i:=by
  intro n
  induction n with
  | zero=>intro i _;rfl
  | succ n ih =>
   intro i h
   have hc:(cutL l 0 i).length=i:=by unfold cutL;rw[List.length_drop,List.length_take];omega
   rw[Qeg,Qea,hc,Qzt hg (by omega) (i - 0) 0 (by omega),ih (i+1) (by omega)]
 exact key _ 0 (by omega)
theorem Q25 (l:List Tx) (x:Int): ∀ n i,Qcb l x n i=Qcp l x n i:=by
 intro n
 induction n with
 | zero=>intro i;rfl
 | succ n ih=>intro i;rw[Qcb,Qcp,ih];rfl
theorem Yfk (l:List Tx) (x:Int):Qk9 l x=Qh7 l x:=Q25 l x _ _
theorem Yao {l:List Tx} {i:Nat} (hi:i<l.length): ∀ n j,j+n=i→decide (Qcp (l.take i) (nth l i).Id n j≥0)=!decide (Qcp l (nth l i).Id (l.length - j) j=(i:Int)):=by
 intro n
 induction n with
 | zero =>
  intro j h
  obtain rfl:j=i:=by omega
  obtain⟨m,hm⟩: ∃ m,l.length - j=m+1:=⟨l.length - j - 1,by omega⟩
  rw[hm,Qcp,Qcp,decide_eq_true rfl,cond_true,decide_eq_true rfl]
  rfl
 | succ n ih =>
  intro j h
  obtain⟨m,hm⟩: ∃ m,l.length - j=m+1:=⟨l.length - j - 1,by omega⟩
  rw[hm,Qcp,Qcp,Yf0 l (show j<i by omega)]
  cases decide ((nth l j).Id=(nth l i).Id) with
  | true=>rw[cond_true,cond_true,decide_eq_true (show((j:Nat):Int)≥0 by omega),decide_eq_false (show ¬ ((j:Nat):Int)=(i:Int) by omega)];rfl
  | false =>
   rw[cond_false,cond_false,ih (j+1) (by omega),show m=l.length - (j+1) by omega]
theorem Qzp {k:Kernel} (hg:Dat.good k.Txs): ∀ n i,i+n=k.Txs.length→Qdk k n i=((((Qfc k.Store)&&(Qdz k.Disk))&&(Qcd k.Seq 0 99000))&&Qdm k n i):=by
 intro n
 induction n with
 | zero=>intro i _;rw[Qdk,Qdm,Yas hg]
 | succ n ih =>
  intro i h
  have hb:=Yao (l:=k.Txs) (i:=i) (by omega) i 0 (by omega)
  have e:decide (Qk9 (List.take i k.Txs) (nth k.Txs i).Id≥0)=!decide (Qh7 k.Txs (nth k.Txs i).Id=(i:Int)):=by
   rw[Yfk]
   unfold Qh7
   rw[show(List.take i k.Txs).length - 0=i by rw[List.length_take];omega]
   exact hb
  rw[Qdk,Qdm,e,ih (i+1) (by omega)]
  cases(decide (((nth k.Txs i).Id)≥k.Next))||(!decide ((Qh7 k.Txs ((nth k.Txs i).Id))=(i:Int))) with
  | true=>rw[cond_true,cond_true,Bool.and_false]
  | false=>rfl
theorem Yam {k:Kernel} (hg:Dat.good k.Txs):Qg6 k=Qhs k:=by
 unfold Qg6 Qhs
 rw[Qzp hg _ _ (by omega),Qyy,Qlh,Qnw]
 cases Qfc k.Store<;>cases Qdz k.Disk<;>cases Qcd k.Seq 0 99000<;>rfl
end
section
theorem Qnt (p0:Kernel) (p1:Int): ∀ n w i,(Qb6 p0 p1 n w i).Txs.length=w.length:=by
 intro n
 induction n with
 | zero=>intro w i;rfl
 | succ n ih =>
  intro w i
  rw[Qb6,ih]
  cases decide ((nth w i).State=1) with
  | true=>rw[cond_true,List.length_set]
  | false=>rfl
theorem Qla (p0:Kernel) (p1:Int):(Qe8 p0 p1).Txs.length=p0.Txs.length:=by
 unfold Qe8
 rw[Qmq]
 cases !(Qg6 p0) with
 | true=>rfl
 | false=>exact Qnt p0 p1 _ _ _
theorem Ypz (l:List Int) (x:Int): ∀ n i,Qfi l x n i=true ↔ ∃ j,i≤j∧j<i+n∧nth l j=x:=by
 intro n
 induction n with
 | zero =>
  intro i
  constructor
  ·intro h;cases h
  ·rintro ⟨j,h1,h2,_⟩;omega
 | succ n ih =>
  intro i
  rw[Qfi]
  cases h:decide (nth l i=x) with
  | true=>exact⟨fun _=>⟨i,Nat.le_refl _,by omega,of_decide_eq_true h⟩,fun _=>rfl⟩
  | false =>
   rw[cond_false,ih]
   constructor
   ·rintro ⟨j,h1,h2,h3⟩;exact⟨j,by omega,by omega,h3⟩
   ·rintro ⟨j,h1,h2,h3⟩
    refine⟨j,?_,by omega,h3⟩
    rcases Nat.eq_or_lt_of_le h1 with e | e
    ·subst e;exact absurd h3 (of_decide_eq_false h)
    ·exact e
theorem Ypy {l:List Int} {x:Int} (h:x∈l):Qgb l x=true:=by
 obtain⟨j,hj,e⟩:=List.getElem_of_mem h
 exact(Ypz l x _ 0).2 ⟨j,Nat.zero_le _,by omega,by unfold nth;rw[List.getD_eq_getElem?_getD,List.getElem?_eq_getElem hj];exact e⟩
theorem Yaj (l:List Tx): ∀ n v i,(∀ x∈v,x∈Qdj l n v i)∧ ∀ j,i≤j→j<i+n→(nth l j).State=1→(nth l j).Id∈Qdj l n v i:=by
 intro n
 induction n with
 | zero=>intro v i;exact⟨fun _ h=>h,fun j h1 h2=>by omega⟩
 | succ n ih =>
  intro v i
  rw[Qdj]
  obtain⟨h1,h2⟩:=ih (bif (decide (((nth l i).State)=1)) then(v++[(nth l i).Id]) else v) (i+1)
  refine⟨fun x hx=>h1 x ?_,fun j hj1 hj2 hs=>?_⟩
  ·cases decide ((nth l i).State=1) with
   | true=>exact List.mem_append_left _ hx
   | false=>exact hx
  ·rcases Nat.eq_or_lt_of_le hj1 with e | e
   ·subst e
    refine h1 _ ?_
    rw[decide_eq_true hs,cond_true]
    exact List.mem_append_right _ (List.mem_singleton.2 rfl)
   ·exact h2 j (by omega) (by omega) hs
theorem Yj3 (l:List Tx) (j:Nat) (hj:j<l.length) (h:(nth l j).State=1):Qgb (Qc4 l) (nth l j).Id=true:=Ypy ((Yaj l _ _ 0).2 j (Nat.zero_le _) (by omega) h)
theorem Yfh (l:List Tx):Qm6 l=Qc4 l:=by
 have key: ∀ n v i,Qf4 l n v i=Qdj l n v i:=by
  intro n
  induction n with
  | zero=>intro v i;rfl
  | succ n ih=>intro v i;rw[Qf4,Qdj,ih];rfl
 exact key _ _ _
theorem Q9e {α:Type} [Inhabited α] {xs:List α} {i j:Nat} {x:α} (h:i≠j):nth (xs.set i x) j=nth xs j:=by
 simp[nth,List.getD_eq_getElem?_getD,List.getElem?_set_ne h]
def Yls:Nat→List Tx→Nat→List Tx
  | 0,w,_=>w
  | n+1,w,i=>Yls n (bif (decide (((nth w i).State)=1)) then(w.set i { nth w i with State:=3 }) else w) (i+1)
theorem Yap (l:List Tx) (ids:List Int) (h: ∀ j,j<l.length→(nth l j).State=1→Qgb ids (nth l j).Id=true): ∀ n w i,i+n=l.length→(∀ j,i≤j→nth w j=nth l j)→Qer l ids n w i=Yls n w i:=by
 intro n
 induction n with
 | zero=>intro w i _ _;rfl
 | succ n ih =>
  intro w i hi hw
  rw[Qer,Yls]
  have e:=hw i (Nat.le_refl _)
  have hc:((decide (((nth w i).State)=1))&&(Qgb ids ((nth w i).Id)))=decide (((nth w i).State)=1):=by
   rw[e]
   cases hd:decide ((nth l i).State=1) with
   | true=>rw[h i (by omega) (of_decide_eq_true hd)];rfl
   | false=>rfl
  rw[hc]
  refine ih _ (i+1) (by omega) fun j hj=>?_
  cases decide ((nth w i).State=1) with
  | true=>rw[cond_true,Q9e (by omega)];exact hw j (by omega)
  | false=>exact hw j (by omega)
theorem Yj4 (l:List Tx):Qd0 l (Qc4 l)=Yls (l.length - 0) l 0:=by
 unfold Qd0
 rw[Yk0]
 exact Yap l _ (Yj3 l) _ _ 0 (by omega) fun _ _=>rfl
theorem Qoh (p0:Kernel) (p1:Int): ∀ n w i,Qb6 p0 p1 n w i=(Kernel.mk ((Qbb (Qa7 (Qar p0.Disk p1))).1) (Yls n w i) (Qa7 (Qar p0.Disk p1)) ((Qbb (Qa7 (Qar p0.Disk p1))).2) p0.Next p0.Time (Qk7 p0.History ((Qbb (Qa7 (Qar p0.Disk p1))).2)) p0.Seen p0.Room):=by
 intro n
 induction n with
 | zero=>intro w i;rw[Qb6,Qmq];rfl
 | succ n ih=>intro w i;rw[Qb6,ih];rfl
theorem Qn4 (p0:Kernel) (p1:Int): ∀ n i,i+n=p0.History.length→Qc1 p0 p1 n i=(Kernel.mk ((Qa0 (Qax (Qao p0.Disk p1))).1) (Qd0 p0.Txs (Qc4 p0.Txs)) (Qax (Qao p0.Disk p1)) ((Qa0 (Qax (Qao p0.Disk p1))).2) p0.Next p0.Time (bif decide (Qay p0.History ((Qa0 (Qax (Qao p0.Disk p1))).2) n i<0) then p0.History else p0.History.take (Qay p0.History ((Qa0 (Qax (Qao p0.Disk p1))).2) n i).toNat) p0.Seen p0.Room):=by
 intro n
 induction n with
 | zero=>intro i _;rw[Qc1,Qay,Q8t];rfl
 | succ n ih =>
  intro i hi
  rw[Qc1,Qay,Q8t]
  unfold Qk6
  cases(nth p0.History i).Laid&&decide ((nth p0.History i).Seq>(Qa0 (Qax (Qao p0.Disk p1))).2) with
  | true =>
   rw[cond_true,cond_true,decide_eq_false (show ¬ ((i:Nat):Int)<0 by omega),cond_false]
   rfl
  | false=>rw[cond_false,cond_false];exact ih (i+1) (by omega)
theorem Yeh (d:Disk):Qa7 d=Qax d:=by
 unfold Qa7 Qax
 rw[Q9q,Q00,Qlh,Qg7,Qf7]
 cases Qdz d<;>rfl
theorem Qou {k:Kernel} (hg:Dat.good k.Txs) (p:Int):Qe8 k p=Qfo k p:=by
 unfold Qe8 Qfo
 rw[Yam hg,Qmq,Q8t,Qoh,Qn4 k p _ 0 (by omega),Yj4,Qr1,Yeh,Qjn]
 rfl
theorem Qp4 {k:Kernel} (hg:Dat.good k.Txs) (p:Int):(Qfo k p).Txs.length=k.Txs.length:=by
 rw[←Qou hg]
 exact Qla k p
end
section
theorem Yvc:FnOk Tryz.prog 69:=⟨_,Tryz.func69,rfl,by kernel_rfl⟩
theorem Yvb:FnOk Tryz.prog 70:=⟨_,Tryz.func70,rfl,by kernel_rfl⟩
theorem Yva:FnOk Tryz.prog 71:=⟨_,Tryz.func71,rfl,by kernel_rfl⟩
def Qiy (p0:Kernel) (p1:Int):Bool:=decide (((Qm6 ((Qe8 p0 p1).Txs)).length:Int)=0)
theorem Q1j (p0:Kernel) (p1:Int) (hs:Dat.small 1048576 p0):CTs 28 [.o (.st Kernel _ inferInstance p0),.o (.c (.int .i64 p1))] [Re.c (.bool (Qiy p0 p1))]:=by
 refine en Tryz.func28 Tryz.ntmps28 fun w hG hgd=>?_
 obtain⟨hg_p0,_⟩:=hgd
 have hM:=Qiy.eq_1 p0 p1
 have hsK2:=Yo9 hs
 have hlT:(Qe8 p0 p1).Txs.length≤1048576:=by rw[Qla];exact hs.2.1.1
 refine ad 9 ?_
 refine og (clg (Qsy p0 p1 (by first | assumption | exact hsK2)) Yva) fun hgq=>?_
 obtain⟨hg1,_⟩:=hgq
 refine op (fd 1 (fdt:=36) (sz:=1) (hf:=by kernel_rfl)) ?_
 refine og (clg (Yac ((Qe8 p0 p1).Txs) lv2) Yvb) fun hgq=>?_
 obtain⟨hg2,_⟩:=hgq
 refine ad 4 ?_
 exact rz (rs:=[.tmp 4]) (congrArg (fun x=>[Re.c (.bool x)]) hM)
def Qit (p0:Kernel) (p1:Int):Bool:=decide (((Qc4 ((Qfo p0 p1).Txs)).length:Int)=0)
theorem Q05 (p0:Kernel) (p1:Int) (hs:Dat.small 1048576 p0):CTs 27 [.o (.st Kernel _ inferInstance p0),.o (.c (.int .i64 p1))] [Re.c (.bool (Qit p0 p1))]:=by
 refine en Tryz.func27 Tryz.ntmps27 fun w hG hgd=>?_
 obtain⟨hg_p0,_⟩:=hgd
 have hM:=Qit.eq_1 p0 p1
 have hsK2:=Yo9 hs
 have hlT:(Qfo p0 p1).Txs.length≤1048576:=by rw[Qp4 hg_p0.2.1];exact hs.2.1.1
 refine ad 9 ?_
 refine og (clg (Qsv p0 p1 (by first | assumption | exact hsK2)) Yvc) fun hgq=>?_
 obtain⟨hg1,_⟩:=hgq
 refine op (fd 1 (fdt:=36) (sz:=1) (hf:=by kernel_rfl)) ?_
 refine og (clg (Qkj ((Qfo p0 p1).Txs) lv2) Yng) fun hgq=>?_
 obtain⟨hg2,_⟩:=hgq
 refine ad 4 ?_
 exact rz (rs:=[.tmp 4]) (congrArg (fun x=>[Re.c (.bool x)]) hM)
end
section
theorem Yq8:FnOk Tryz.prog 31:=⟨_,Tryz.func31,rfl,by kernel_rfl⟩
theorem Yvs:FnOk Tryz.prog 32:=⟨_,Tryz.func32,rfl,by kernel_rfl⟩
theorem Yvr:FnOk Tryz.prog 33:=⟨_,Tryz.func33,rfl,by kernel_rfl⟩
theorem Yvq:FnOk Tryz.prog 34:=⟨_,Tryz.func34,rfl,by kernel_rfl⟩
theorem Yp3:FnOk Tryz.prog 35:=⟨_,Tryz.func35,rfl,by kernel_rfl⟩
theorem Yu9:FnOk Tryz.prog 74:=⟨_,Tryz.func74,rfl,by kernel_rfl⟩
theorem Yu8:FnOk Tryz.prog 75:=⟨_,Tryz.func75,rfl,by kernel_rfl⟩
theorem Yu7:FnOk Tryz.prog 76:=⟨_,Tryz.func76,rfl,by kernel_rfl⟩
theorem Yu6:FnOk Tryz.prog 77:=⟨_,Tryz.func77,rfl,by kernel_rfl⟩
theorem Yu5:FnOk Tryz.prog 78:=⟨_,Tryz.func78,rfl,by kernel_rfl⟩
theorem Ys0:FnOk Tryz.prog 140:=⟨_,Tryz.func140,rfl,by kernel_rfl⟩
theorem Yoy:FnOk Tryz.prog 141:=⟨_,Tryz.func141,rfl,by kernel_rfl⟩
theorem Ysz:FnOk Tryz.prog 142:=⟨_,Tryz.func142,rfl,by kernel_rfl⟩
theorem Ysy:FnOk Tryz.prog 143:=⟨_,Tryz.func143,rfl,by kernel_rfl⟩
theorem Ysx:FnOk Tryz.prog 144:=⟨_,Tryz.func144,rfl,by kernel_rfl⟩
theorem Ysw:FnOk Tryz.prog 145:=⟨_,Tryz.func145,rfl,by kernel_rfl⟩
theorem Yom:FnOk Tryz.prog 206:=⟨_,Tryz.func206,rfl,by kernel_rfl⟩
theorem Yr5:FnOk Tryz.prog 207:=⟨_,Tryz.func207,rfl,by kernel_rfl⟩
theorem Yr4:FnOk Tryz.prog 208:=⟨_,Tryz.func208,rfl,by kernel_rfl⟩
def Qge (p0:Cell) (p1:Int):Int:=bif decide ((i64.wrap (p1 - (p0.Key.size:Int)))<0) then(-1) else(bif decide ((i64.wrap ((i64.wrap (p1 - (p0.Key.size:Int))) - (p0.Val.size:Int)))<0) then(-1) else(i64.wrap ((i64.wrap (p1 - (p0.Key.size:Int))) - (p0.Val.size:Int))))
theorem Q94 (p0:Cell) (p1:Int):CTs 74 [.o (.st Cell _ inferInstance p0),.o (.c (.int .i64 p1))] [Re.c (.int .i64 (Qge p0 p1))]:=by
 refine en Tryz.func74 Tryz.ntmps74 fun w hG hgd=>?_
 obtain⟨hg_p0,_⟩:=hgd
 have hM:=Qge.eq_1 p0 p1
 refine ad 20 ?_
 refine cd (fun h1=>?_) (fun h1=>?_)
 ·
  have hM:=hM.trans (bt h1)
  refine ad 4 ?_
  exact rz (rs:=[.tmp 4]) (congrArg (fun x=>[Re.c (.int .i64 x)]) hM)
 ·
  have hM:=hM.trans (bf h1)
  refine ad 16 ?_
  refine cd (fun h2=>?_) (fun h2=>?_)
  ·
   have hM:=hM.trans (bt h2)
   refine ad 4 ?_
   exact rz (rs:=[.tmp 4]) (congrArg (fun x=>[Re.c (.int .i64 x)]) hM)
  ·
   have hM:=hM.trans (bf h2)
   refine ad 6 ?_
   exact rz (rs:=[.tmp 4]) (congrArg (fun x=>[Re.c (.int .i64 x)]) hM)
def Qez (p0:List Cell) (p1:Int):Nat→Int→Nat→Int
 | 0,v1,i=>v1
 | n+1,v1,i=>bif decide ((Qge (nth p0 i) v1)<0) then(-1) else(Qez p0 p1 n (Qge (nth p0 i) v1) (i+1))
def Qbh (p0:List Cell) (p1:Int):Int:=bif decide ((i64.wrap (p1 - (p0.length:Int)))<0) then(-1) else(Qez p0 p1 (p0.length - 0) (i64.wrap (p1 - (p0.length:Int))) 0)
theorem Qpn (p0:List Cell) (p1:Int):CTs 31 [.o (.sl Cell instDatCell p0),.o (.c (.int .i64 p1))] [Re.c (.int .i64 (Qbh p0 p1))]:=by
 refine en Tryz.func31 Tryz.ntmps31 fun w hG hgd=>?_
 obtain⟨hg_p0,_⟩:=hgd
 have hl_p0:p0.length≤9223372036854775807:=hg_p0.1
 have hM:=Qbh.eq_1 p0 p1
 refine ad 18 ?_
 refine cd (fun h1=>?_) (fun h1=>?_)
 ·
  have hM:=hM.trans (bt h1)
  refine ad 4 ?_
  exact rz (rs:=[.tmp 4]) (congrArg (fun x=>[Re.c (.int .i64 x)]) hM)
 ·
  have hM:=hM.trans (bf h1)
  refine ad 7 ?_
  refine Run.loopM (ι:=Int×Nat) (fun s=>Qez p0 p1 (p0.length - s.2) s.1 s.2) (fun s=>⟨27,1,[(0,.sl 0 p0.length),(1,.v (.int .i64 s.1)),(5,.v (.int .i64 (s.2:Int)))],[(0,.ros Cell instDatCell p0)]⟩) (fun s=>s.2≤p0.length) (fun s=>p0.length - s.2) (i64.wrap (p1 - (p0.length:Int)),0) [0] [0] hM lv0 su (by decide) ?_
  rintro ⟨v1,i⟩ hv hE
  try dsimp only at hE
  have hi:=hv
  try dsimp only at hi
  refine ad 8 ?_
  refine cd (fun h2=>?_) (fun h2=>?_)
  ·
   have h2l:i<p0.length:=by have:=of_decide_eq_true h2;omega
   have hM:=hE.trans ((congrArg (fun n=>Qez p0 p1 n v1 i) (show p0.length - i=(p0.length - (i+1))+1 by omega)).trans (Qez.eq_2 _ _ _ _ _))
   refine ad 7 ?_
   have hg4:=Qan (k:=i) hg_p0 om
   refine op (ix (xs:=p0) i om) ?_
   refine ad 2 ?_
   have hg5:Dat.good (nth p0 i:Cell):=hg4
   refine op (cl (Q94 (nth p0 i) v1) Yu9) ?_
   refine ad 7 ?_
   refine cd (fun h6=>?_) (fun h6=>?_)
   ·
    have hM:=hM.trans (bt h6)
    refine ad 4 ?_
    exact rz (rs:=[.tmp 4]) (congrArg (fun x=>[Re.c (.int .i64 x)]) hM)
   ·
    have hM:=hM.trans (bf h6)
    refine ad 5 ?_
    rw[Qcv (i:=i) om]
    refine ad 2 ?_
    exact Run.again ((Qge (nth p0 i) v1),(i+1)) [0] [1] ⟨by first | omega | exact trivial | (dsimp only;omega) | (refine⟨by omega,?_⟩;simp_all;try omega),hM⟩ rfl lv1 su (by decide)
  ·
   have h2l: ¬ (i<p0.length):=by have:=of_decide_eq_false h2;omega
   have hM:=hE.trans ((congrArg (fun n=>Qez p0 p1 n v1 i) (show p0.length - i=0 by omega)).trans (Qez.eq_1 _ _ _ _))
   refine ad 6 ?_
   exact rz (rs:=[.tmp 4]) (congrArg (fun x=>[Re.c (.int .i64 x)]) hM)
def Qe1 (p0:Call) (p1:Int):Int:=bif decide ((i64.wrap (p1 - (p0.Name.size:Int)))<0) then(-1) else(bif decide ((i64.wrap ((i64.wrap (p1 - (p0.Name.size:Int))) - (p0.To.size:Int)))<0) then(-1) else(bif decide ((i64.wrap ((i64.wrap ((i64.wrap (p1 - (p0.Name.size:Int))) - (p0.To.size:Int))) - (p0.Text.size:Int)))<0) then(-1) else(i64.wrap ((i64.wrap ((i64.wrap (p1 - (p0.Name.size:Int))) - (p0.To.size:Int))) - (p0.Text.size:Int)))))
theorem Qru (p0:Call) (p1:Int):CTs 206 [.o (.st Call _ inferInstance p0),.o (.c (.int .i64 p1))] [Re.c (.int .i64 (Qe1 p0 p1))]:=by
 refine en Tryz.func206 Tryz.ntmps206 fun w hG hgd=>?_
 obtain⟨hg_p0,_⟩:=hgd
 have hM:=Qe1.eq_1 p0 p1
 refine ad 20 ?_
 refine cd (fun h1=>?_) (fun h1=>?_)
 ·
  have hM:=hM.trans (bt h1)
  refine ad 4 ?_
  exact rz (rs:=[.tmp 4]) (congrArg (fun x=>[Re.c (.int .i64 x)]) hM)
 ·
  have hM:=hM.trans (bf h1)
  refine ad 16 ?_
  refine cd (fun h2=>?_) (fun h2=>?_)
  ·
   have hM:=hM.trans (bt h2)
   refine ad 4 ?_
   exact rz (rs:=[.tmp 4]) (congrArg (fun x=>[Re.c (.int .i64 x)]) hM)
  ·
   have hM:=hM.trans (bf h2)
   refine ad 16 ?_
   refine cd (fun h3=>?_) (fun h3=>?_)
   ·
    have hM:=hM.trans (bt h3)
    refine ad 4 ?_
    exact rz (rs:=[.tmp 4]) (congrArg (fun x=>[Re.c (.int .i64 x)]) hM)
   ·
    have hM:=hM.trans (bf h3)
    refine ad 6 ?_
    exact rz (rs:=[.tmp 4]) (congrArg (fun x=>[Re.c (.int .i64 x)]) hM)
def Qe0 (p0:List Call) (p1:Int):Nat→Int→Nat→Int
 | 0,v1,i=>v1
 | n+1,v1,i=>bif decide ((Qe1 (nth p0 i) v1)<0) then(-1) else(Qe0 p0 p1 n (Qe1 (nth p0 i) v1) (i+1))
def Qb2 (p0:List Call) (p1:Int):Int:=bif decide ((i64.wrap (p1 - (p0.length:Int)))<0) then(-1) else(Qe0 p0 p1 (p0.length - 0) (i64.wrap (p1 - (p0.length:Int))) 0)
theorem Q2r (p0:List Call) (p1:Int):CTs 140 [.o (.sl Call instDatCall p0),.o (.c (.int .i64 p1))] [Re.c (.int .i64 (Qb2 p0 p1))]:=by
 refine en Tryz.func140 Tryz.ntmps140 fun w hG hgd=>?_
 obtain⟨hg_p0,_⟩:=hgd
 have hl_p0:p0.length≤9223372036854775807:=hg_p0.1
 have hM:=Qb2.eq_1 p0 p1
 refine ad 18 ?_
 refine cd (fun h1=>?_) (fun h1=>?_)
 ·
  have hM:=hM.trans (bt h1)
  refine ad 4 ?_
  exact rz (rs:=[.tmp 4]) (congrArg (fun x=>[Re.c (.int .i64 x)]) hM)
 ·
  have hM:=hM.trans (bf h1)
  refine ad 7 ?_
  refine Run.loopM (ι:=Int×Nat) (fun s=>Qe0 p0 p1 (p0.length - s.2) s.1 s.2) (fun s=>⟨27,1,[(0,.sl 0 p0.length),(1,.v (.int .i64 s.1)),(5,.v (.int .i64 (s.2:Int)))],[(0,.ros Call instDatCall p0)]⟩) (fun s=>s.2≤p0.length) (fun s=>p0.length - s.2) (i64.wrap (p1 - (p0.length:Int)),0) [0] [0] hM lv0 su (by decide) ?_
  rintro ⟨v1,i⟩ hv hE
  try dsimp only at hE
  have hi:=hv
  try dsimp only at hi
  refine ad 8 ?_
  refine cd (fun h2=>?_) (fun h2=>?_)
  ·
   have h2l:i<p0.length:=by have:=of_decide_eq_true h2;omega
   have hM:=hE.trans ((congrArg (fun n=>Qe0 p0 p1 n v1 i) (show p0.length - i=(p0.length - (i+1))+1 by omega)).trans (Qe0.eq_2 _ _ _ _ _))
   refine ad 7 ?_
   have hg4:=Qan (k:=i) hg_p0 om
   refine op (ix (xs:=p0) i om) ?_
   refine ad 2 ?_
   have hg5:Dat.good (nth p0 i:Call):=hg4
   refine op (cl (Qru (nth p0 i) v1) Yom) ?_
   refine ad 7 ?_
   refine cd (fun h6=>?_) (fun h6=>?_)
   ·
    have hM:=hM.trans (bt h6)
    refine ad 4 ?_
    exact rz (rs:=[.tmp 4]) (congrArg (fun x=>[Re.c (.int .i64 x)]) hM)
   ·
    have hM:=hM.trans (bf h6)
    refine ad 5 ?_
    rw[Qcv (i:=i) om]
    refine ad 2 ?_
    exact Run.again ((Qe1 (nth p0 i) v1),(i+1)) [0] [1] ⟨by first | omega | exact trivial | (dsimp only;omega) | (refine⟨by omega,?_⟩;simp_all;try omega),hM⟩ rfl lv1 su (by decide)
  ·
   have h2l: ¬ (i<p0.length):=by have:=of_decide_eq_false h2;omega
   have hM:=hE.trans ((congrArg (fun n=>Qe0 p0 p1 n v1 i) (show p0.length - i=0 by omega)).trans (Qe0.eq_1 _ _ _ _))
   refine ad 6 ?_
   exact rz (rs:=[.tmp 4]) (congrArg (fun x=>[Re.c (.int .i64 x)]) hM)
def Qe2 (p0:Answer) (p1:Int):Int:=bif decide ((i64.wrap (p1 - (p0.Text.size:Int)))<0) then(-1) else(i64.wrap (p1 - (p0.Text.size:Int)))
theorem Q1d (p0:Answer) (p1:Int):CTs 207 [.o (.st Answer _ inferInstance p0),.o (.c (.int .i64 p1))] [Re.c (.int .i64 (Qe2 p0 p1))]:=by
 refine en Tryz.func207 Tryz.ntmps207 fun w hG hgd=>?_
 obtain⟨hg_p0,_⟩:=hgd
 have hM:=Qe2.eq_1 p0 p1
 refine ad 20 ?_
 refine cd (fun h1=>?_) (fun h1=>?_)
 ·
  have hM:=hM.trans (bt h1)
  refine ad 4 ?_
  exact rz (rs:=[.tmp 4]) (congrArg (fun x=>[Re.c (.int .i64 x)]) hM)
 ·
  have hM:=hM.trans (bf h1)
  refine ad 6 ?_
  exact rz (rs:=[.tmp 4]) (congrArg (fun x=>[Re.c (.int .i64 x)]) hM)
def Qdu (p0:List Answer) (p1:Int):Nat→Int→Nat→Int
 | 0,v1,i=>v1
 | n+1,v1,i=>bif decide ((Qe2 (nth p0 i) v1)<0) then(-1) else(Qdu p0 p1 n (Qe2 (nth p0 i) v1) (i+1))
def Qbo (p0:List Answer) (p1:Int):Int:=bif decide ((i64.wrap (p1 - (p0.length:Int)))<0) then(-1) else(Qdu p0 p1 (p0.length - 0) (i64.wrap (p1 - (p0.length:Int))) 0)
theorem Qnl (p0:List Answer) (p1:Int):CTs 141 [.o (.sl Answer instDatAnswer p0),.o (.c (.int .i64 p1))] [Re.c (.int .i64 (Qbo p0 p1))]:=by
 refine en Tryz.func141 Tryz.ntmps141 fun w hG hgd=>?_
 obtain⟨hg_p0,_⟩:=hgd
 have hl_p0:p0.length≤9223372036854775807:=hg_p0.1
 have hM:=Qbo.eq_1 p0 p1
 refine ad 18 ?_
 refine cd (fun h1=>?_) (fun h1=>?_)
 ·
  have hM:=hM.trans (bt h1)
  refine ad 4 ?_
  exact rz (rs:=[.tmp 4]) (congrArg (fun x=>[Re.c (.int .i64 x)]) hM)
 ·
  have hM:=hM.trans (bf h1)
  refine ad 7 ?_
  refine Run.loopM (ι:=Int×Nat) (fun s=>Qdu p0 p1 (p0.length - s.2) s.1 s.2) (fun s=>⟨27,1,[(0,.sl 0 p0.length),(1,.v (.int .i64 s.1)),(5,.v (.int .i64 (s.2:Int)))],[(0,.ros Answer instDatAnswer p0)]⟩) (fun s=>s.2≤p0.length) (fun s=>p0.length - s.2) (i64.wrap (p1 - (p0.length:Int)),0) [0] [0] hM lv0 su (by decide) ?_
  rintro ⟨v1,i⟩ hv hE
  try dsimp only at hE
  have hi:=hv
  try dsimp only at hi
  refine ad 8 ?_
  refine cd (fun h2=>?_) (fun h2=>?_)
  ·
   have h2l:i<p0.length:=by have:=of_decide_eq_true h2;omega
   have hM:=hE.trans ((congrArg (fun n=>Qdu p0 p1 n v1 i) (show p0.length - i=(p0.length - (i+1))+1 by omega)).trans (Qdu.eq_2 _ _ _ _ _))
   refine ad 7 ?_
   have hg4:=Qan (k:=i) hg_p0 om
   refine op (ix (xs:=p0) i om) ?_
   refine ad 2 ?_
   have hg5:Dat.good (nth p0 i:Answer):=hg4
   refine op (cl (Q1d (nth p0 i) v1) Yr5) ?_
   refine ad 7 ?_
   refine cd (fun h6=>?_) (fun h6=>?_)
   ·
    have hM:=hM.trans (bt h6)
    refine ad 4 ?_
    exact rz (rs:=[.tmp 4]) (congrArg (fun x=>[Re.c (.int .i64 x)]) hM)
   ·
    have hM:=hM.trans (bf h6)
    refine ad 5 ?_
    rw[Qcv (i:=i) om]
    refine ad 2 ?_
    exact Run.again ((Qe2 (nth p0 i) v1),(i+1)) [0] [1] ⟨by first | omega | exact trivial | (dsimp only;omega) | (refine⟨by omega,?_⟩;simp_all;try omega),hM⟩ rfl lv1 su (by decide)
  ·
   have h2l: ¬ (i<p0.length):=by have:=of_decide_eq_false h2;omega
   have hM:=hE.trans ((congrArg (fun n=>Qdu p0 p1 n v1 i) (show p0.length - i=0 by omega)).trans (Qdu.eq_1 _ _ _ _))
   refine ad 6 ?_
   exact rz (rs:=[.tmp 4]) (congrArg (fun x=>[Re.c (.int .i64 x)]) hM)
def Qds (p0:List ByteArray) (p1:Int):Nat→Int→Nat→Int
 | 0,v1,i=>v1
 | n+1,v1,i=>bif decide ((i64.wrap (v1 - ((nth p0 i).size:Int)))<0) then(-1) else(Qds p0 p1 n (i64.wrap (v1 - ((nth p0 i).size:Int))) (i+1))
def Qbt (p0:List ByteArray) (p1:Int):Int:=bif decide ((i64.wrap (p1 - (p0.length:Int)))<0) then(-1) else(Qds p0 p1 (p0.length - 0) (i64.wrap (p1 - (p0.length:Int))) 0)
theorem Qj9 (p0:List ByteArray) (p1:Int):CTs 35 [.o (.sl ByteArray instDatByteArray p0),.o (.c (.int .i64 p1))] [Re.c (.int .i64 (Qbt p0 p1))]:=by
 refine en Tryz.func35 Tryz.ntmps35 fun w hG hgd=>?_
 obtain⟨hg_p0,_⟩:=hgd
 have hl_p0:p0.length≤9223372036854775807:=hg_p0.1
 have hM:=Qbt.eq_1 p0 p1
 refine ad 18 ?_
 refine cd (fun h1=>?_) (fun h1=>?_)
 ·
  have hM:=hM.trans (bt h1)
  refine ad 4 ?_
  exact rz (rs:=[.tmp 4]) (congrArg (fun x=>[Re.c (.int .i64 x)]) hM)
 ·
  have hM:=hM.trans (bf h1)
  refine ad 7 ?_
  refine Run.loopM (ι:=Int×Nat) (fun s=>Qds p0 p1 (p0.length - s.2) s.1 s.2) (fun s=>⟨28,1,[(0,.sl 0 p0.length),(1,.v (.int .i64 s.1)),(5,.v (.int .i64 (s.2:Int)))],[(0,.ros ByteArray instDatByteArray p0)]⟩) (fun s=>s.2≤p0.length) (fun s=>p0.length - s.2) (i64.wrap (p1 - (p0.length:Int)),0) [0] [0] hM lv0 su (by decide) ?_
  rintro ⟨v1,i⟩ hv hE
  try dsimp only at hE
  have hi:=hv
  try dsimp only at hi
  refine ad 8 ?_
  refine cd (fun h2=>?_) (fun h2=>?_)
  ·
   have h2l:i<p0.length:=by have:=of_decide_eq_true h2;omega
   have hM:=hE.trans ((congrArg (fun n=>Qds p0 p1 n v1 i) (show p0.length - i=(p0.length - (i+1))+1 by omega)).trans (Qds.eq_2 _ _ _ _ _))
   refine ad 8 ?_
   have hg4:=Qan (k:=i) hg_p0 om
   refine op (ix (xs:=p0) i om) ?_
   refine ad 10 ?_
   refine cd (fun h5=>?_) (fun h5=>?_)
   ·
    have hM:=hM.trans (bt h5)
    refine ad 4 ?_
    exact rz (rs:=[.tmp 4]) (congrArg (fun x=>[Re.c (.int .i64 x)]) hM)
   ·
    have hM:=hM.trans (bf h5)
    refine ad 5 ?_
    rw[Qcv (i:=i) om]
    refine ad 2 ?_
    exact Run.again (i64.wrap (v1 - ((nth p0 i).size:Int)),(i+1)) [0] [1] ⟨by first | omega | exact trivial | (dsimp only;omega) | (refine⟨by omega,?_⟩;simp_all;try omega),hM⟩ rfl lv1 su (by decide)
  ·
   have h2l: ¬ (i<p0.length):=by have:=of_decide_eq_false h2;omega
   have hM:=hE.trans ((congrArg (fun n=>Qds p0 p1 n v1 i) (show p0.length - i=0 by omega)).trans (Qds.eq_1 _ _ _ _))
   refine ad 6 ?_
   exact rz (rs:=[.tmp 4]) (congrArg (fun x=>[Re.c (.int .i64 x)]) hM)
def Qek (p0:Touch) (p1:Int):Int:=bif decide ((Qbt p0.Reads p1)<0) then(-1) else(bif decide ((Qbt p0.Writes (Qbt p0.Reads p1))<0) then(-1) else(Qbt p0.Writes (Qbt p0.Reads p1)))
theorem Q2n (p0:Touch) (p1:Int):CTs 142 [.o (.st Touch _ inferInstance p0),.o (.c (.int .i64 p1))] [Re.c (.int .i64 (Qek p0 p1))]:=by
 refine en Tryz.func142 Tryz.ntmps142 fun w hG hgd=>?_
 obtain⟨hg_p0,_⟩:=hgd
 have hM:=Qek.eq_1 p0 p1
 refine ad 10 ?_
 refine op (cl (Qj9 p0.Reads p1) Yp3) ?_
 refine ad 8 ?_
 refine cd (fun h1=>?_) (fun h1=>?_)
 ·
  have hM:=hM.trans (bt h1)
  refine ad 4 ?_
  exact rz (rs:=[.tmp 4]) (congrArg (fun x=>[Re.c (.int .i64 x)]) hM)
 ·
  have hM:=hM.trans (bf h1)
  refine ad 6 ?_
  refine op (cl (Qj9 p0.Writes (Qbt p0.Reads p1)) Yp3) ?_
  refine ad 8 ?_
  refine cd (fun h2=>?_) (fun h2=>?_)
  ·
   have hM:=hM.trans (bt h2)
   refine ad 4 ?_
   exact rz (rs:=[.tmp 4]) (congrArg (fun x=>[Re.c (.int .i64 x)]) hM)
  ·
   have hM:=hM.trans (bf h2)
   refine ad 6 ?_
   exact rz (rs:=[.tmp 4]) (congrArg (fun x=>[Re.c (.int .i64 x)]) hM)
def Qg4 (p0:List Int) (p1:Int):Int:=bif decide ((i64.wrap (p1 - (p0.length:Int)))<0) then(-1) else(i64.wrap (p1 - (p0.length:Int)))
theorem Q92 (p0:List Int) (p1:Int):CTs 143 [.o (.sl Int instDatInt p0),.o (.c (.int .i64 p1))] [Re.c (.int .i64 (Qg4 p0 p1))]:=by
 refine en Tryz.func143 Tryz.ntmps143 fun w hG hgd=>?_
 obtain⟨hg_p0,_⟩:=hgd
 have hl_p0:p0.length≤9223372036854775807:=hg_p0.1
 have hM:=Qg4.eq_1 p0 p1
 refine ad 18 ?_
 refine cd (fun h1=>?_) (fun h1=>?_)
 ·
  have hM:=hM.trans (bt h1)
  refine ad 4 ?_
  exact rz (rs:=[.tmp 4]) (congrArg (fun x=>[Re.c (.int .i64 x)]) hM)
 ·
  have hM:=hM.trans (bf h1)
  refine ad 6 ?_
  exact rz (rs:=[.tmp 4]) (congrArg (fun x=>[Re.c (.int .i64 x)]) hM)
def Qhm (p0:Tx) (p1:Int):Int:=bif decide ((Qb2 p0.Calls p1)<0) then(-1) else(bif decide ((Qbo p0.Answers (Qb2 p0.Calls p1))<0) then(-1) else(bif decide ((Qek p0.Touch (Qbo p0.Answers (Qb2 p0.Calls p1)))<0) then(-1) else(bif decide ((Qg4 p0.Marks (Qek p0.Touch (Qbo p0.Answers (Qb2 p0.Calls p1))))<0) then(-1) else(Qg4 p0.Marks (Qek p0.Touch (Qbo p0.Answers (Qb2 p0.Calls p1)))))))
theorem Ye9 (p0:Tx) (p1:Int):CTs 75 [.o (.st Tx _ inferInstance p0),.o (.c (.int .i64 p1))] [Re.c (.int .i64 (Qhm p0 p1))]:=by
 refine en Tryz.func75 Tryz.ntmps75 fun w hG hgd=>?_
 obtain⟨hg_p0,_⟩:=hgd
 have hM:=Qhm.eq_1 p0 p1
 refine ad 10 ?_
 refine op (cl (Q2r p0.Calls p1) Ys0) ?_
 refine ad 8 ?_
 refine cd (fun h1=>?_) (fun h1=>?_)
 ·
  have hM:=hM.trans (bt h1)
  refine ad 4 ?_
  exact rz (rs:=[.tmp 4]) (congrArg (fun x=>[Re.c (.int .i64 x)]) hM)
 ·
  have hM:=hM.trans (bf h1)
  refine ad 6 ?_
  refine op (cl (Qnl p0.Answers (Qb2 p0.Calls p1)) Yoy) ?_
  refine ad 8 ?_
  refine cd (fun h2=>?_) (fun h2=>?_)
  ·
   have hM:=hM.trans (bt h2)
   refine ad 4 ?_
   exact rz (rs:=[.tmp 4]) (congrArg (fun x=>[Re.c (.int .i64 x)]) hM)
  ·
   have hM:=hM.trans (bf h2)
   refine ad 6 ?_
   have hg3:Dat.good (p0.Touch:Touch):=hg_p0.2.2.2.2.2.2.1
   refine op (cl (Q2n p0.Touch (Qbo p0.Answers (Qb2 p0.Calls p1))) Ysz) ?_
   refine ad 8 ?_
   refine cd (fun h4=>?_) (fun h4=>?_)
   ·
    have hM:=hM.trans (bt h4)
    refine ad 4 ?_
    exact rz (rs:=[.tmp 4]) (congrArg (fun x=>[Re.c (.int .i64 x)]) hM)
   ·
    have hM:=hM.trans (bf h4)
    refine ad 6 ?_
    refine op (cl (Q92 p0.Marks (Qek p0.Touch (Qbo p0.Answers (Qb2 p0.Calls p1)))) Ysy) ?_
    refine ad 8 ?_
    refine cd (fun h5=>?_) (fun h5=>?_)
    ·
     have hM:=hM.trans (bt h5)
     refine ad 4 ?_
     exact rz (rs:=[.tmp 4]) (congrArg (fun x=>[Re.c (.int .i64 x)]) hM)
    ·
     have hM:=hM.trans (bf h5)
     refine ad 6 ?_
     exact rz (rs:=[.tmp 4]) (congrArg (fun x=>[Re.c (.int .i64 x)]) hM)
def Qf2 (p0:List Tx) (p1:Int):Nat→Int→Nat→Int
 | 0,v1,i=>v1
 | n+1,v1,i=>bif decide ((Qhm (nth p0 i) v1)<0) then(-1) else(Qf2 p0 p1 n (Qhm (nth p0 i) v1) (i+1))
def Qdb (p0:List Tx) (p1:Int):Int:=bif decide ((i64.wrap (p1 - (p0.length:Int)))<0) then(-1) else(Qf2 p0 p1 (p0.length - 0) (i64.wrap (p1 - (p0.length:Int))) 0)
theorem Yd3 (p0:List Tx) (p1:Int):CTs 32 [.o (.sl Tx instDatTx p0),.o (.c (.int .i64 p1))] [Re.c (.int .i64 (Qdb p0 p1))]:=by
 refine en Tryz.func32 Tryz.ntmps32 fun w hG hgd=>?_
 obtain⟨hg_p0,_⟩:=hgd
 have hl_p0:p0.length≤9223372036854775807:=hg_p0.1
 have hM:=Qdb.eq_1 p0 p1
 refine ad 18 ?_
 refine cd (fun h1=>?_) (fun h1=>?_)
 ·
  have hM:=hM.trans (bt h1)
  refine ad 4 ?_
  exact rz (rs:=[.tmp 4]) (congrArg (fun x=>[Re.c (.int .i64 x)]) hM)
 ·
  have hM:=hM.trans (bf h1)
  refine ad 7 ?_
  refine Run.loopM (ι:=Int×Nat) (fun s=>Qf2 p0 p1 (p0.length - s.2) s.1 s.2) (fun s=>⟨27,1,[(0,.sl 0 p0.length),(1,.v (.int .i64 s.1)),(5,.v (.int .i64 (s.2:Int)))],[(0,.ros Tx instDatTx p0)]⟩) (fun s=>s.2≤p0.length) (fun s=>p0.length - s.2) (i64.wrap (p1 - (p0.length:Int)),0) [0] [0] hM lv0 su (by decide) ?_
  rintro ⟨v1,i⟩ hv hE
  try dsimp only at hE
  have hi:=hv
  try dsimp only at hi
  refine ad 8 ?_
  refine cd (fun h2=>?_) (fun h2=>?_)
  ·
   have h2l:i<p0.length:=by have:=of_decide_eq_true h2;omega
   have hM:=hE.trans ((congrArg (fun n=>Qf2 p0 p1 n v1 i) (show p0.length - i=(p0.length - (i+1))+1 by omega)).trans (Qf2.eq_2 _ _ _ _ _))
   refine ad 7 ?_
   have hg4:=Qan (k:=i) hg_p0 om
   refine op (ix (xs:=p0) i om) ?_
   refine ad 2 ?_
   have hg5:Dat.good (nth p0 i:Tx):=hg4
   refine op (cl (Ye9 (nth p0 i) v1) Yu8) ?_
   refine ad 7 ?_
   refine cd (fun h6=>?_) (fun h6=>?_)
   ·
    have hM:=hM.trans (bt h6)
    refine ad 4 ?_
    exact rz (rs:=[.tmp 4]) (congrArg (fun x=>[Re.c (.int .i64 x)]) hM)
   ·
    have hM:=hM.trans (bf h6)
    refine ad 5 ?_
    rw[Qcv (i:=i) om]
    refine ad 2 ?_
    exact Run.again ((Qhm (nth p0 i) v1),(i+1)) [0] [6] ⟨by first | omega | exact trivial | (dsimp only;omega) | (refine⟨by omega,?_⟩;simp_all;try omega),hM⟩ rfl lv1 su (by decide)
  ·
   have h2l: ¬ (i<p0.length):=by have:=of_decide_eq_false h2;omega
   have hM:=hE.trans ((congrArg (fun n=>Qf2 p0 p1 n v1 i) (show p0.length - i=0 by omega)).trans (Qf2.eq_1 _ _ _ _))
   refine ad 6 ?_
   exact rz (rs:=[.tmp 4]) (congrArg (fun x=>[Re.c (.int .i64 x)]) hM)
def Qgd (p0:Slot) (p1:Int):Int:=bif decide ((Qbh p0.Cells p1)<0) then(-1) else(Qbh p0.Cells p1)
theorem Q91 (p0:Slot) (p1:Int):CTs 144 [.o (.st Slot _ inferInstance p0),.o (.c (.int .i64 p1))] [Re.c (.int .i64 (Qgd p0 p1))]:=by
 refine en Tryz.func144 Tryz.ntmps144 fun w hG hgd=>?_
 obtain⟨hg_p0,_⟩:=hgd
 have hM:=Qgd.eq_1 p0 p1
 refine ad 10 ?_
 refine op (cl (Qpn p0.Cells p1) Yq8) ?_
 refine ad 8 ?_
 refine cd (fun h1=>?_) (fun h1=>?_)
 ·
  have hM:=hM.trans (bt h1)
  refine ad 4 ?_
  exact rz (rs:=[.tmp 4]) (congrArg (fun x=>[Re.c (.int .i64 x)]) hM)
 ·
  have hM:=hM.trans (bf h1)
  refine ad 6 ?_
  exact rz (rs:=[.tmp 4]) (congrArg (fun x=>[Re.c (.int .i64 x)]) hM)
def Qey (p0:List Slot) (p1:Int):Nat→Int→Nat→Int
 | 0,v1,i=>v1
 | n+1,v1,i=>bif decide ((Qgd (nth p0 i) v1)<0) then(-1) else(Qey p0 p1 n (Qgd (nth p0 i) v1) (i+1))
def Qem (p0:List Slot) (p1:Int):Int:=bif decide ((i64.wrap (p1 - (p0.length:Int)))<0) then(-1) else(Qey p0 p1 (p0.length - 0) (i64.wrap (p1 - (p0.length:Int))) 0)
theorem Q2p (p0:List Slot) (p1:Int):CTs 76 [.o (.sl Slot instDatSlot p0),.o (.c (.int .i64 p1))] [Re.c (.int .i64 (Qem p0 p1))]:=by
 refine en Tryz.func76 Tryz.ntmps76 fun w hG hgd=>?_
 obtain⟨hg_p0,_⟩:=hgd
 have hl_p0:p0.length≤9223372036854775807:=hg_p0.1
 have hM:=Qem.eq_1 p0 p1
 refine ad 18 ?_
 refine cd (fun h1=>?_) (fun h1=>?_)
 ·
  have hM:=hM.trans (bt h1)
  refine ad 4 ?_
  exact rz (rs:=[.tmp 4]) (congrArg (fun x=>[Re.c (.int .i64 x)]) hM)
 ·
  have hM:=hM.trans (bf h1)
  refine ad 7 ?_
  refine Run.loopM (ι:=Int×Nat) (fun s=>Qey p0 p1 (p0.length - s.2) s.1 s.2) (fun s=>⟨27,1,[(0,.sl 0 p0.length),(1,.v (.int .i64 s.1)),(5,.v (.int .i64 (s.2:Int)))],[(0,.ros Slot instDatSlot p0)]⟩) (fun s=>s.2≤p0.length) (fun s=>p0.length - s.2) (i64.wrap (p1 - (p0.length:Int)),0) [0] [0] hM lv0 su (by decide) ?_
  rintro ⟨v1,i⟩ hv hE
  try dsimp only at hE
  have hi:=hv
  try dsimp only at hi
  refine ad 8 ?_
  refine cd (fun h2=>?_) (fun h2=>?_)
  ·
   have h2l:i<p0.length:=by have:=of_decide_eq_true h2;omega
   have hM:=hE.trans ((congrArg (fun n=>Qey p0 p1 n v1 i) (show p0.length - i=(p0.length - (i+1))+1 by omega)).trans (Qey.eq_2 _ _ _ _ _))
   refine ad 7 ?_
   have hg4:=Qan (k:=i) hg_p0 om
   refine op (ix (xs:=p0) i om) ?_
   refine ad 2 ?_
   have hg5:Dat.good (nth p0 i:Slot):=hg4
   refine op (cl (Q91 (nth p0 i) v1) Ysx) ?_
   refine ad 7 ?_
   refine cd (fun h6=>?_) (fun h6=>?_)
   ·
    have hM:=hM.trans (bt h6)
    refine ad 4 ?_
    exact rz (rs:=[.tmp 4]) (congrArg (fun x=>[Re.c (.int .i64 x)]) hM)
   ·
    have hM:=hM.trans (bf h6)
    refine ad 5 ?_
    rw[Qcv (i:=i) om]
    refine ad 2 ?_
    exact Run.again ((Qgd (nth p0 i) v1),(i+1)) [0] [2] ⟨by first | omega | exact trivial | (dsimp only;omega) | (refine⟨by omega,?_⟩;simp_all;try omega),hM⟩ rfl lv1 su (by decide)
  ·
   have h2l: ¬ (i<p0.length):=by have:=of_decide_eq_false h2;omega
   have hM:=hE.trans ((congrArg (fun n=>Qey p0 p1 n v1 i) (show p0.length - i=0 by omega)).trans (Qey.eq_1 _ _ _ _))
   refine ad 6 ?_
   exact rz (rs:=[.tmp 4]) (congrArg (fun x=>[Re.c (.int .i64 x)]) hM)
def Qfk (p0:Journal) (p1:Int):Int:=bif decide ((i64.wrap (p1 - (p0.Text.size:Int)))<0) then(-1) else(i64.wrap (p1 - (p0.Text.size:Int)))
theorem Qzh (p0:Journal) (p1:Int):CTs 77 [.o (.st Journal _ inferInstance p0),.o (.c (.int .i64 p1))] [Re.c (.int .i64 (Qfk p0 p1))]:=by
 refine en Tryz.func77 Tryz.ntmps77 fun w hG hgd=>?_
 obtain⟨hg_p0,_⟩:=hgd
 have hM:=Qfk.eq_1 p0 p1
 refine ad 20 ?_
 refine cd (fun h1=>?_) (fun h1=>?_)
 ·
  have hM:=hM.trans (bt h1)
  refine ad 4 ?_
  exact rz (rs:=[.tmp 4]) (congrArg (fun x=>[Re.c (.int .i64 x)]) hM)
 ·
  have hM:=hM.trans (bf h1)
  refine ad 6 ?_
  exact rz (rs:=[.tmp 4]) (congrArg (fun x=>[Re.c (.int .i64 x)]) hM)
def Qdh (p0:Disk) (p1:Int):Int:=bif decide ((Qem p0.Slots p1)<0) then(-1) else(bif decide ((Qfk p0.Journal (Qem p0.Slots p1))<0) then(-1) else(Qfk p0.Journal (Qem p0.Slots p1)))
theorem Q93 (p0:Disk) (p1:Int):CTs 33 [.o (.st Disk _ inferInstance p0),.o (.c (.int .i64 p1))] [Re.c (.int .i64 (Qdh p0 p1))]:=by
 refine en Tryz.func33 Tryz.ntmps33 fun w hG hgd=>?_
 obtain⟨hg_p0,_⟩:=hgd
 have hM:=Qdh.eq_1 p0 p1
 refine ad 10 ?_
 refine op (cl (Q2p p0.Slots p1) Yu7) ?_
 refine ad 8 ?_
 refine cd (fun h1=>?_) (fun h1=>?_)
 ·
  have hM:=hM.trans (bt h1)
  refine ad 4 ?_
  exact rz (rs:=[.tmp 4]) (congrArg (fun x=>[Re.c (.int .i64 x)]) hM)
 ·
  have hM:=hM.trans (bf h1)
  refine ad 6 ?_
  have hg2:Dat.good (p0.Journal:Journal):=hg_p0.2
  refine op (cl (Qzh p0.Journal (Qem p0.Slots p1)) Yu6) ?_
  refine ad 8 ?_
  refine cd (fun h3=>?_) (fun h3=>?_)
  ·
   have hM:=hM.trans (bt h3)
   refine ad 4 ?_
   exact rz (rs:=[.tmp 4]) (congrArg (fun x=>[Re.c (.int .i64 x)]) hM)
  ·
   have hM:=hM.trans (bf h3)
   refine ad 6 ?_
   exact rz (rs:=[.tmp 4]) (congrArg (fun x=>[Re.c (.int .i64 x)]) hM)
def Qgc (p0:Step) (p1:Int):Int:=bif decide ((Qe1 p0.Call p1)<0) then(-1) else(Qe1 p0.Call p1)
theorem Q90 (p0:Step) (p1:Int):CTs 208 [.o (.st Step _ inferInstance p0),.o (.c (.int .i64 p1))] [Re.c (.int .i64 (Qgc p0 p1))]:=by
 refine en Tryz.func208 Tryz.ntmps208 fun w hG hgd=>?_
 obtain⟨hg_p0,_⟩:=hgd
 have hM:=Qgc.eq_1 p0 p1
 refine ad 10 ?_
 have hg1:Dat.good (p0.Call:Call):=hg_p0.2
 refine op (cl (Qru p0.Call p1) Yom) ?_
 refine ad 8 ?_
 refine cd (fun h2=>?_) (fun h2=>?_)
 ·
  have hM:=hM.trans (bt h2)
  refine ad 4 ?_
  exact rz (rs:=[.tmp 4]) (congrArg (fun x=>[Re.c (.int .i64 x)]) hM)
 ·
  have hM:=hM.trans (bf h2)
  refine ad 6 ?_
  exact rz (rs:=[.tmp 4]) (congrArg (fun x=>[Re.c (.int .i64 x)]) hM)
def Qex (p0:List Step) (p1:Int):Nat→Int→Nat→Int
 | 0,v1,i=>v1
 | n+1,v1,i=>bif decide ((Qgc (nth p0 i) v1)<0) then(-1) else(Qex p0 p1 n (Qgc (nth p0 i) v1) (i+1))
def Qel (p0:List Step) (p1:Int):Int:=bif decide ((i64.wrap (p1 - (p0.length:Int)))<0) then(-1) else(Qex p0 p1 (p0.length - 0) (i64.wrap (p1 - (p0.length:Int))) 0)
theorem Q2o (p0:List Step) (p1:Int):CTs 145 [.o (.sl Step instDatStep p0),.o (.c (.int .i64 p1))] [Re.c (.int .i64 (Qel p0 p1))]:=by
 refine en Tryz.func145 Tryz.ntmps145 fun w hG hgd=>?_
 obtain⟨hg_p0,_⟩:=hgd
 have hl_p0:p0.length≤9223372036854775807:=hg_p0.1
 have hM:=Qel.eq_1 p0 p1
 refine ad 18 ?_
 refine cd (fun h1=>?_) (fun h1=>?_)
 ·
  have hM:=hM.trans (bt h1)
  refine ad 4 ?_
  exact rz (rs:=[.tmp 4]) (congrArg (fun x=>[Re.c (.int .i64 x)]) hM)
 ·
  have hM:=hM.trans (bf h1)
  refine ad 7 ?_
  refine Run.loopM (ι:=Int×Nat) (fun s=>Qex p0 p1 (p0.length - s.2) s.1 s.2) (fun s=>⟨27,1,[(0,.sl 0 p0.length),(1,.v (.int .i64 s.1)),(5,.v (.int .i64 (s.2:Int)))],[(0,.ros Step instDatStep p0)]⟩) (fun s=>s.2≤p0.length) (fun s=>p0.length - s.2) (i64.wrap (p1 - (p0.length:Int)),0) [0] [0] hM lv0 su (by decide) ?_
  rintro ⟨v1,i⟩ hv hE
  try dsimp only at hE
  have hi:=hv
  try dsimp only at hi
  refine ad 8 ?_
  refine cd (fun h2=>?_) (fun h2=>?_)
  ·
   have h2l:i<p0.length:=by have:=of_decide_eq_true h2;omega
   have hM:=hE.trans ((congrArg (fun n=>Qex p0 p1 n v1 i) (show p0.length - i=(p0.length - (i+1))+1 by omega)).trans (Qex.eq_2 _ _ _ _ _))
   refine ad 7 ?_
   have hg4:=Qan (k:=i) hg_p0 om
   refine op (ix (xs:=p0) i om) ?_
   refine ad 2 ?_
   have hg5:Dat.good (nth p0 i:Step):=hg4
   refine op (cl (Q90 (nth p0 i) v1) Yr4) ?_
   refine ad 7 ?_
   refine cd (fun h6=>?_) (fun h6=>?_)
   ·
    have hM:=hM.trans (bt h6)
    refine ad 4 ?_
    exact rz (rs:=[.tmp 4]) (congrArg (fun x=>[Re.c (.int .i64 x)]) hM)
   ·
    have hM:=hM.trans (bf h6)
    refine ad 5 ?_
    rw[Qcv (i:=i) om]
    refine ad 2 ?_
    exact Run.again ((Qgc (nth p0 i) v1),(i+1)) [0] [1] ⟨by first | omega | exact trivial | (dsimp only;omega) | (refine⟨by omega,?_⟩;simp_all;try omega),hM⟩ rfl lv1 su (by decide)
  ·
   have h2l: ¬ (i<p0.length):=by have:=of_decide_eq_false h2;omega
   have hM:=hE.trans ((congrArg (fun n=>Qex p0 p1 n v1 i) (show p0.length - i=0 by omega)).trans (Qex.eq_1 _ _ _ _))
   refine ad 6 ?_
   exact rz (rs:=[.tmp 4]) (congrArg (fun x=>[Re.c (.int .i64 x)]) hM)
def Qfq (p0:Entry) (p1:Int):Int:=bif decide ((Qel p0.Steps p1)<0) then(-1) else(bif decide ((Qbo p0.Answers (Qel p0.Steps p1))<0) then(-1) else(Qbo p0.Answers (Qel p0.Steps p1)))
theorem Q2q (p0:Entry) (p1:Int):CTs 78 [.o (.st Entry _ inferInstance p0),.o (.c (.int .i64 p1))] [Re.c (.int .i64 (Qfq p0 p1))]:=by
 refine en Tryz.func78 Tryz.ntmps78 fun w hG hgd=>?_
 obtain⟨hg_p0,_⟩:=hgd
 have hM:=Qfq.eq_1 p0 p1
 refine ad 10 ?_
 refine op (cl (Q2o p0.Steps p1) Ysw) ?_
 refine ad 8 ?_
 refine cd (fun h1=>?_) (fun h1=>?_)
 ·
  have hM:=hM.trans (bt h1)
  refine ad 4 ?_
  exact rz (rs:=[.tmp 4]) (congrArg (fun x=>[Re.c (.int .i64 x)]) hM)
 ·
  have hM:=hM.trans (bf h1)
  refine ad 6 ?_
  refine op (cl (Qnl p0.Answers (Qel p0.Steps p1)) Yoy) ?_
  refine ad 8 ?_
  refine cd (fun h2=>?_) (fun h2=>?_)
  ·
   have hM:=hM.trans (bt h2)
   refine ad 4 ?_
   exact rz (rs:=[.tmp 4]) (congrArg (fun x=>[Re.c (.int .i64 x)]) hM)
  ·
   have hM:=hM.trans (bf h2)
   refine ad 6 ?_
   exact rz (rs:=[.tmp 4]) (congrArg (fun x=>[Re.c (.int .i64 x)]) hM)
def Qec (p0:List Entry) (p1:Int):Nat→Int→Nat→Int
 | 0,v1,i=>v1
 | n+1,v1,i=>bif decide ((Qfq (nth p0 i) v1)<0) then(-1) else(Qec p0 p1 n (Qfq (nth p0 i) v1) (i+1))
def Qdt (p0:List Entry) (p1:Int):Int:=bif decide ((i64.wrap (p1 - (p0.length:Int)))<0) then(-1) else(Qec p0 p1 (p0.length - 0) (i64.wrap (p1 - (p0.length:Int))) 0)
theorem Q1c (p0:List Entry) (p1:Int):CTs 34 [.o (.sl Entry instDatEntry p0),.o (.c (.int .i64 p1))] [Re.c (.int .i64 (Qdt p0 p1))]:=by
 refine en Tryz.func34 Tryz.ntmps34 fun w hG hgd=>?_
 obtain⟨hg_p0,_⟩:=hgd
 have hl_p0:p0.length≤9223372036854775807:=hg_p0.1
 have hM:=Qdt.eq_1 p0 p1
 refine ad 18 ?_
 refine cd (fun h1=>?_) (fun h1=>?_)
 ·
  have hM:=hM.trans (bt h1)
  refine ad 4 ?_
  exact rz (rs:=[.tmp 4]) (congrArg (fun x=>[Re.c (.int .i64 x)]) hM)
 ·
  have hM:=hM.trans (bf h1)
  refine ad 7 ?_
  refine Run.loopM (ι:=Int×Nat) (fun s=>Qec p0 p1 (p0.length - s.2) s.1 s.2) (fun s=>⟨27,1,[(0,.sl 0 p0.length),(1,.v (.int .i64 s.1)),(5,.v (.int .i64 (s.2:Int)))],[(0,.ros Entry instDatEntry p0)]⟩) (fun s=>s.2≤p0.length) (fun s=>p0.length - s.2) (i64.wrap (p1 - (p0.length:Int)),0) [0] [0] hM lv0 su (by decide) ?_
  rintro ⟨v1,i⟩ hv hE
  try dsimp only at hE
  have hi:=hv
  try dsimp only at hi
  refine ad 8 ?_
  refine cd (fun h2=>?_) (fun h2=>?_)
  ·
   have h2l:i<p0.length:=by have:=of_decide_eq_true h2;omega
   have hM:=hE.trans ((congrArg (fun n=>Qec p0 p1 n v1 i) (show p0.length - i=(p0.length - (i+1))+1 by omega)).trans (Qec.eq_2 _ _ _ _ _))
   refine ad 7 ?_
   have hg4:=Qan (k:=i) hg_p0 om
   refine op (ix (xs:=p0) i om) ?_
   refine ad 2 ?_
   have hg5:Dat.good (nth p0 i:Entry):=hg4
   refine op (cl (Q2q (nth p0 i) v1) Yu5) ?_
   refine ad 7 ?_
   refine cd (fun h6=>?_) (fun h6=>?_)
   ·
    have hM:=hM.trans (bt h6)
    refine ad 4 ?_
    exact rz (rs:=[.tmp 4]) (congrArg (fun x=>[Re.c (.int .i64 x)]) hM)
   ·
    have hM:=hM.trans (bf h6)
    refine ad 5 ?_
    rw[Qcv (i:=i) om]
    refine ad 2 ?_
    exact Run.again ((Qfq (nth p0 i) v1),(i+1)) [0] [3] ⟨by first | omega | exact trivial | (dsimp only;omega) | (refine⟨by omega,?_⟩;simp_all;try omega),hM⟩ rfl lv1 su (by decide)
  ·
   have h2l: ¬ (i<p0.length):=by have:=of_decide_eq_false h2;omega
   have hM:=hE.trans ((congrArg (fun n=>Qec p0 p1 n v1 i) (show p0.length - i=0 by omega)).trans (Qec.eq_1 _ _ _ _))
   refine ad 6 ?_
   exact rz (rs:=[.tmp 4]) (congrArg (fun x=>[Re.c (.int .i64 x)]) hM)
def Qgk (p0:Kernel) (p1:Int):Int:=bif decide ((Qbh p0.Store p1)<0) then(-1) else(bif decide ((Qdb p0.Txs (Qbh p0.Store p1))<0) then(-1) else(bif decide ((Qdh p0.Disk (Qdb p0.Txs (Qbh p0.Store p1)))<0) then(-1) else(bif decide ((Qdt p0.History (Qdh p0.Disk (Qdb p0.Txs (Qbh p0.Store p1))))<0) then(-1) else(bif decide ((Qbt p0.Seen (Qdt p0.History (Qdh p0.Disk (Qdb p0.Txs (Qbh p0.Store p1)))))<0) then(-1) else(Qbt p0.Seen (Qdt p0.History (Qdh p0.Disk (Qdb p0.Txs (Qbh p0.Store p1)))))))))
theorem Q1b (p0:Kernel) (p1:Int):CTs 9 [.o (.st Kernel _ inferInstance p0),.o (.c (.int .i64 p1))] [Re.c (.int .i64 (Qgk p0 p1))]:=by
 refine en Tryz.func9 Tryz.ntmps9 fun w hG hgd=>?_
 obtain⟨hg_p0,_⟩:=hgd
 have hM:=Qgk.eq_1 p0 p1
 refine ad 10 ?_
 refine op (cl (Qpn p0.Store p1) Yq8) ?_
 refine ad 8 ?_
 refine cd (fun h1=>?_) (fun h1=>?_)
 ·
  have hM:=hM.trans (bt h1)
  refine ad 4 ?_
  exact rz (rs:=[.tmp 4]) (congrArg (fun x=>[Re.c (.int .i64 x)]) hM)
 ·
  have hM:=hM.trans (bf h1)
  refine ad 6 ?_
  refine op (cl (Yd3 p0.Txs (Qbh p0.Store p1)) Yvs) ?_
  refine ad 8 ?_
  refine cd (fun h2=>?_) (fun h2=>?_)
  ·
   have hM:=hM.trans (bt h2)
   refine ad 4 ?_
   exact rz (rs:=[.tmp 4]) (congrArg (fun x=>[Re.c (.int .i64 x)]) hM)
  ·
   have hM:=hM.trans (bf h2)
   refine ad 6 ?_
   have hg3:Dat.good (p0.Disk:Disk):=hg_p0.2.2.1
   refine op (cl (Q93 p0.Disk (Qdb p0.Txs (Qbh p0.Store p1))) Yvr) ?_
   refine ad 8 ?_
   refine cd (fun h4=>?_) (fun h4=>?_)
   ·
    have hM:=hM.trans (bt h4)
    refine ad 4 ?_
    exact rz (rs:=[.tmp 4]) (congrArg (fun x=>[Re.c (.int .i64 x)]) hM)
   ·
    have hM:=hM.trans (bf h4)
    refine ad 6 ?_
    refine op (cl (Q1c p0.History (Qdh p0.Disk (Qdb p0.Txs (Qbh p0.Store p1)))) Yvq) ?_
    refine ad 8 ?_
    refine cd (fun h5=>?_) (fun h5=>?_)
    ·
     have hM:=hM.trans (bt h5)
     refine ad 4 ?_
     exact rz (rs:=[.tmp 4]) (congrArg (fun x=>[Re.c (.int .i64 x)]) hM)
    ·
     have hM:=hM.trans (bf h5)
     refine ad 6 ?_
     refine op (cl (Qj9 p0.Seen (Qdt p0.History (Qdh p0.Disk (Qdb p0.Txs (Qbh p0.Store p1))))) Yp3) ?_
     refine ad 8 ?_
     refine cd (fun h6=>?_) (fun h6=>?_)
     ·
      have hM:=hM.trans (bt h6)
      refine ad 4 ?_
      exact rz (rs:=[.tmp 4]) (congrArg (fun x=>[Re.c (.int .i64 x)]) hM)
     ·
      have hM:=hM.trans (bf h6)
      refine ad 6 ?_
      exact rz (rs:=[.tmp 4]) (congrArg (fun x=>[Re.c (.int .i64 x)]) hM)
end
section
theorem Yn7 {α:Type} [Inhabited α] {xs:List α} {i:Nat} {x:α} (h:xs[i]?=some x):nth xs i=x:=by
 simp[nth,List.getD_eq_getElem?_getD,h]
def szL {α:Type} [Inhabited α] (f:α→Int→Int) (xs:List α):Nat→Int→Nat→Int
 | 0,s,_=>s
 | n+1,s,i=>bif decide (f (nth xs i) s<0) then(-1) else szL f xs n (f (nth xs i) s) (i+1)
theorem Qjp {α:Type} [Inhabited α] [Dat α] {f:α→Int→Int} {xs:List α} (hf: ∀ x s,0≤s→s≤1048576→Dat.good x→ ¬ f x s<0→Dat.small 1048576 x∧0≤f x s∧f x s≤1048576) (hg: ∀ x∈xs,Dat.good x):
  ∀ (n:Nat) (s:Int) (i:Nat),n=xs.length - i→0≤s→s≤1048576→ ¬ szL f xs n s i<0→(∀ j x,i≤j→xs[j]?=some x→Dat.small 1048576 x)∧0≤szL f xs n s i∧szL f xs n s i≤1048576:=by
 intro n
 induction n with
 | zero =>
  intro s i hn h0 h1 _
  refine⟨fun j x hj hx=>?_,h0,h1⟩
  have:=(List.getElem?_eq_some_iff.1 hx).1
  omega
 | succ n ih =>
  intro s i hn h0 h1 h
  unfold szL at h ⊢
  by_cases hc:f (nth xs i) s<0
  ·rw[decide_eq_true hc] at h
   exact absurd (show((-1:Int))<0 by decide) h
  ·rw[decide_eq_false hc] at h ⊢
   have hi:i<xs.length:=by omega
   have hx:xs[i]?=some xs[i]:=List.getElem?_eq_getElem hi
   have hgi:Dat.good (nth xs i):=by rw[Yn7 hx];exact hg _ (List.getElem_mem hi)
   obtain⟨h2,h3,h4⟩:=hf _ _ h0 h1 hgi hc
   obtain⟨h5,h6,h7⟩:=ih _ (i+1) (by omega) h3 h4 h
   refine⟨fun j x hj hjx=>?_,h6,h7⟩
   by_cases e:j=i
   ·subst e
    rw[←Yn7 hjx]
    exact h2
   ·exact h5 j x (by omega) hjx
theorem Qls {s:ByteArray} (h:Dat.good s):s.size≤9223372036854775807:=by
 have h':s.size≤maxLen:=h
 unfold maxLen at h'
 omega
theorem Qgg {a:Int} {n:Nat} (h0:0≤a) (h1:a≤1048576) (hn:n≤9223372036854775807):i64.wrap (a - (n:Int))=a - n:=IntWalk.i64_in _ (by omega)
def Qhx (x:ByteArray) (s:Int):Int:=i64.wrap (s - (x.size:Int))
theorem Qp7 (p0:ByteArray) (p1:Int) (h0:0≤p1) (h1:p1≤1048576) (hg:Dat.good p0) (h: ¬ Qhx p0 p1<0):Dat.small 1048576 p0∧0≤Qhx p0 p1∧Qhx p0 p1≤1048576:=by
 unfold Qhx at h ⊢
 rw[Qgg h0 h1 (Qls hg)] at h ⊢
 have e:p0.size≤1048576:=by omega
 exact⟨e,by omega,by omega⟩
theorem Qfu {a:Int} {x:Int} (h: ¬ (bif decide (a<0) then(-1:Int) else x)<0): ¬ a<0:=fun hc=>h (by rw[decide_eq_true hc];show(-1:Int)<0;decide)
theorem Qsg (p0:Cell) (p1:Int) (h0:0≤p1) (h1:p1≤1048576) (hg:Dat.good p0) (h: ¬ Qge p0 p1<0):Dat.small 1048576 p0∧0≤Qge p0 p1∧Qge p0 p1≤1048576:=by
 unfold Qge at h ⊢
 obtain⟨g0,g1⟩:=hg
 rw[Qgg (a:=p1) h0 h1 (n:=p0.Key.size) (Qls g0)] at h ⊢
 have c1: ¬ (p1 - (p0.Key.size:Int))<0:=Qfu h
 rw[decide_eq_false c1,cond_false] at h ⊢
 have b1:0≤(p1 - (p0.Key.size:Int)):=by omega
 have e1:(p1 - (p0.Key.size:Int))≤1048576:=by omega
 have s0:p0.Key.size≤1048576:=by omega
 rw[Qgg (a:=(p1 - (p0.Key.size:Int))) b1 e1 (n:=p0.Val.size) (Qls g1)] at h ⊢
 have c2: ¬ ((p1 - (p0.Key.size:Int)) - (p0.Val.size:Int))<0:=Qfu h
 rw[decide_eq_false c2,cond_false] at h ⊢
 have b2:0≤((p1 - (p0.Key.size:Int)) - (p0.Val.size:Int)):=by omega
 have e2:((p1 - (p0.Key.size:Int)) - (p0.Val.size:Int))≤1048576:=by omega
 have s1:p0.Val.size≤1048576:=by omega
 exact⟨⟨s0,s1⟩,b2,e2⟩
theorem Qq8 (p0:List Cell) (p1:Int): ∀ n s i,Qez p0 p1 n s i=szL Qge p0 n s i:=by
 intro n
 induction n with
 | zero=>intro s i;rfl
 | succ n ih=>intro s i;rw[Qez,szL,ih]
theorem Qlp (p0:List Cell) (p1:Int) (h0:0≤p1) (h1:p1≤1048576) (hg:Dat.good p0) (h: ¬ Qbh p0 p1<0):Dat.small 1048576 p0∧0≤Qbh p0 p1∧Qbh p0 p1≤1048576:=by
 unfold Qbh at h ⊢
 rw[Qgg h0 h1 hg.1] at h ⊢
 have hc:=Qfu h
 rw[decide_eq_false hc,cond_false,Qq8] at h ⊢
 obtain⟨h2,h3,h4⟩:=Qjp (f:=Qge) (xs:=p0) Qsg hg.2 _ _ 0 rfl (by omega) (by omega) h
 refine⟨⟨by omega,fun x hx=>?_⟩,h3,h4⟩
 obtain⟨j,hj⟩:=List.getElem?_of_mem hx
 exact h2 j x (Nat.zero_le _) hj
theorem Qmm (p0:Call) (p1:Int) (h0:0≤p1) (h1:p1≤1048576) (hg:Dat.good p0) (h: ¬ Qe1 p0 p1<0):Dat.small 1048576 p0∧0≤Qe1 p0 p1∧Qe1 p0 p1≤1048576:=by
 unfold Qe1 at h ⊢
 obtain⟨g0,g1,g2,g3,g4,g5⟩:=hg
 rw[Qgg (a:=p1) h0 h1 (n:=p0.Name.size) (Qls g1)] at h ⊢
 have c1: ¬ (p1 - (p0.Name.size:Int))<0:=Qfu h
 rw[decide_eq_false c1,cond_false] at h ⊢
 have b1:0≤(p1 - (p0.Name.size:Int)):=by omega
 have e1:(p1 - (p0.Name.size:Int))≤1048576:=by omega
 have s1:p0.Name.size≤1048576:=by omega
 rw[Qgg (a:=(p1 - (p0.Name.size:Int))) b1 e1 (n:=p0.To.size) (Qls g2)] at h ⊢
 have c2: ¬ ((p1 - (p0.Name.size:Int)) - (p0.To.size:Int))<0:=Qfu h
 rw[decide_eq_false c2,cond_false] at h ⊢
 have b2:0≤((p1 - (p0.Name.size:Int)) - (p0.To.size:Int)):=by omega
 have e2:((p1 - (p0.Name.size:Int)) - (p0.To.size:Int))≤1048576:=by omega
 have s2:p0.To.size≤1048576:=by omega
 rw[Qgg (a:=((p1 - (p0.Name.size:Int)) - (p0.To.size:Int))) b2 e2 (n:=p0.Text.size) (Qls g5)] at h ⊢
 have c3: ¬ (((p1 - (p0.Name.size:Int)) - (p0.To.size:Int)) - (p0.Text.size:Int))<0:=Qfu h
 rw[decide_eq_false c3,cond_false] at h ⊢
 have b3:0≤(((p1 - (p0.Name.size:Int)) - (p0.To.size:Int)) - (p0.Text.size:Int)):=by omega
 have e3:(((p1 - (p0.Name.size:Int)) - (p0.To.size:Int)) - (p0.Text.size:Int))≤1048576:=by omega
 have s5:p0.Text.size≤1048576:=by omega
 exact⟨⟨trivial,s1,s2,trivial,trivial,s5⟩,b3,e3⟩
theorem Qra (p0:List Call) (p1:Int): ∀ n s i,Qe0 p0 p1 n s i=szL Qe1 p0 n s i:=by
 intro n
 induction n with
 | zero=>intro s i;rfl
 | succ n ih=>intro s i;rw[Qe0,szL,ih]
theorem Qq9 (p0:List Call) (p1:Int) (h0:0≤p1) (h1:p1≤1048576) (hg:Dat.good p0) (h: ¬ Qb2 p0 p1<0):Dat.small 1048576 p0∧0≤Qb2 p0 p1∧Qb2 p0 p1≤1048576:=by
 unfold Qb2 at h ⊢
 rw[Qgg h0 h1 hg.1] at h ⊢
 have hc:=Qfu h
 rw[decide_eq_false hc,cond_false,Qra] at h ⊢
 obtain⟨h2,h3,h4⟩:=Qjp (f:=Qe1) (xs:=p0) Qmm hg.2 _ _ 0 rfl (by omega) (by omega) h
 refine⟨⟨by omega,fun x hx=>?_⟩,h3,h4⟩
 obtain⟨j,hj⟩:=List.getElem?_of_mem hx
 exact h2 j x (Nat.zero_le _) hj
theorem Qqb (p0:Answer) (p1:Int) (h0:0≤p1) (h1:p1≤1048576) (hg:Dat.good p0) (h: ¬ Qe2 p0 p1<0):Dat.small 1048576 p0∧0≤Qe2 p0 p1∧Qe2 p0 p1≤1048576:=by
 unfold Qe2 at h ⊢
 obtain⟨g0,g1,g2⟩:=hg
 rw[Qgg (a:=p1) h0 h1 (n:=p0.Text.size) (Qls g2)] at h ⊢
 have c1: ¬ (p1 - (p0.Text.size:Int))<0:=Qfu h
 rw[decide_eq_false c1,cond_false] at h ⊢
 have b1:0≤(p1 - (p0.Text.size:Int)):=by omega
 have e1:(p1 - (p0.Text.size:Int))≤1048576:=by omega
 have s2:p0.Text.size≤1048576:=by omega
 exact⟨⟨trivial,trivial,s2⟩,b1,e1⟩
theorem Qo6 (p0:List Answer) (p1:Int): ∀ n s i,Qdu p0 p1 n s i=szL Qe2 p0 n s i:=by
 intro n
 induction n with
 | zero=>intro s i;rfl
 | succ n ih=>intro s i;rw[Qdu,szL,ih]
theorem Qkc (p0:List Answer) (p1:Int) (h0:0≤p1) (h1:p1≤1048576) (hg:Dat.good p0) (h: ¬ Qbo p0 p1<0):Dat.small 1048576 p0∧0≤Qbo p0 p1∧Qbo p0 p1≤1048576:=by
 unfold Qbo at h ⊢
 rw[Qgg h0 h1 hg.1] at h ⊢
 have hc:=Qfu h
 rw[decide_eq_false hc,cond_false,Qo6] at h ⊢
 obtain⟨h2,h3,h4⟩:=Qjp (f:=Qe2) (xs:=p0) Qqb hg.2 _ _ 0 rfl (by omega) (by omega) h
 refine⟨⟨by omega,fun x hx=>?_⟩,h3,h4⟩
 obtain⟨j,hj⟩:=List.getElem?_of_mem hx
 exact h2 j x (Nat.zero_le _) hj
theorem Qo4 (p0:List ByteArray) (p1:Int): ∀ n s i,Qds p0 p1 n s i=szL Qhx p0 n s i:=by
 intro n
 induction n with
 | zero=>intro s i;rfl
 | succ n ih=>intro s i;rw[Qds,szL,ih];rfl
theorem Qh2 (p0:List ByteArray) (p1:Int) (h0:0≤p1) (h1:p1≤1048576) (hg:Dat.good p0) (h: ¬ Qbt p0 p1<0):Dat.small 1048576 p0∧0≤Qbt p0 p1∧Qbt p0 p1≤1048576:=by
 unfold Qbt at h ⊢
 rw[Qgg h0 h1 hg.1] at h ⊢
 have hc:=Qfu h
 rw[decide_eq_false hc,cond_false,Qo4] at h ⊢
 obtain⟨h2,h3,h4⟩:=Qjp (f:=Qhx) (xs:=p0) Qp7 hg.2 _ _ 0 rfl (by omega) (by omega) h
 refine⟨⟨by omega,fun x hx=>?_⟩,h3,h4⟩
 obtain⟨j,hj⟩:=List.getElem?_of_mem hx
 exact h2 j x (Nat.zero_le _) hj
theorem Qq2 (p0:Touch) (p1:Int) (h0:0≤p1) (h1:p1≤1048576) (hg:Dat.good p0) (h: ¬ Qek p0 p1<0):Dat.small 1048576 p0∧0≤Qek p0 p1∧Qek p0 p1≤1048576:=by
 unfold Qek at h ⊢
 obtain⟨g0,g1⟩:=hg
 have c1: ¬ (Qbt p0.Reads p1)<0:=Qfu h
 rw[decide_eq_false c1,cond_false] at h ⊢
 obtain⟨s0,b1,e1⟩:=Qh2 p0.Reads p1 h0 h1 g0 c1
 have c2: ¬ (Qbt p0.Writes (Qbt p0.Reads p1))<0:=Qfu h
 rw[decide_eq_false c2,cond_false] at h ⊢
 obtain⟨s1,b2,e2⟩:=Qh2 p0.Writes (Qbt p0.Reads p1) b1 e1 g1 c2
 exact⟨⟨s0,s1⟩,b2,e2⟩
theorem Qse (p0:List Int) (p1:Int) (h0:0≤p1) (h1:p1≤1048576) (hg:Dat.good p0) (h: ¬ Qg4 p0 p1<0):Dat.small 1048576 p0∧0≤Qg4 p0 p1∧Qg4 p0 p1≤1048576:=by
 unfold Qg4 at h ⊢
 rw[Qgg h0 h1 hg.1] at h ⊢
 have hc:=Qfu h
 rw[decide_eq_false hc] at h ⊢
 exact⟨⟨by omega,fun _ _=>trivial⟩,by show 0≤p1 - (p0.length:Int);omega,by show p1 - (p0.length:Int)≤1048576;omega⟩
theorem Q0l (p0:Tx) (p1:Int) (h0:0≤p1) (h1:p1≤1048576) (hg:Dat.good p0) (h: ¬ Qhm p0 p1<0):Dat.small 1048576 p0∧0≤Qhm p0 p1∧Qhm p0 p1≤1048576:=by
 unfold Qhm at h ⊢
 obtain⟨g0,g1,g2,g3,g4,g5,g6,g7,g8⟩:=hg
 have c1: ¬ (Qb2 p0.Calls p1)<0:=Qfu h
 rw[decide_eq_false c1,cond_false] at h ⊢
 obtain⟨s4,b1,e1⟩:=Qq9 p0.Calls p1 h0 h1 g4 c1
 have c2: ¬ (Qbo p0.Answers (Qb2 p0.Calls p1))<0:=Qfu h
 rw[decide_eq_false c2,cond_false] at h ⊢
 obtain⟨s5,b2,e2⟩:=Qkc p0.Answers (Qb2 p0.Calls p1) b1 e1 g5 c2
 have c3: ¬ (Qek p0.Touch (Qbo p0.Answers (Qb2 p0.Calls p1)))<0:=Qfu h
 rw[decide_eq_false c3,cond_false] at h ⊢
 obtain⟨s6,b3,e3⟩:=Qq2 p0.Touch (Qbo p0.Answers (Qb2 p0.Calls p1)) b2 e2 g6 c3
 have c4: ¬ (Qg4 p0.Marks (Qek p0.Touch (Qbo p0.Answers (Qb2 p0.Calls p1))))<0:=Qfu h
 rw[decide_eq_false c4,cond_false] at h ⊢
 obtain⟨s7,b4,e4⟩:=Qse p0.Marks (Qek p0.Touch (Qbo p0.Answers (Qb2 p0.Calls p1))) b3 e3 g7 c4
 exact⟨⟨trivial,trivial,trivial,trivial,s4,s5,s6,s7,trivial⟩,b4,e4⟩
theorem Qy5 (p0:List Tx) (p1:Int): ∀ n s i,Qf2 p0 p1 n s i=szL Qhm p0 n s i:=by
 intro n
 induction n with
 | zero=>intro s i;rfl
 | succ n ih=>intro s i;rw[Qf2,szL,ih]
theorem Qy4 (p0:List Tx) (p1:Int) (h0:0≤p1) (h1:p1≤1048576) (hg:Dat.good p0) (h: ¬ Qdb p0 p1<0):Dat.small 1048576 p0∧0≤Qdb p0 p1∧Qdb p0 p1≤1048576:=by
 unfold Qdb at h ⊢
 rw[Qgg h0 h1 hg.1] at h ⊢
 have hc:=Qfu h
 rw[decide_eq_false hc,cond_false,Qy5] at h ⊢
 obtain⟨h2,h3,h4⟩:=Qjp (f:=Qhm) (xs:=p0) Q0l hg.2 _ _ 0 rfl (by omega) (by omega) h
 refine⟨⟨by omega,fun x hx=>?_⟩,h3,h4⟩
 obtain⟨j,hj⟩:=List.getElem?_of_mem hx
 exact h2 j x (Nat.zero_le _) hj
theorem Qsd (p0:Slot) (p1:Int) (h0:0≤p1) (h1:p1≤1048576) (hg:Dat.good p0) (h: ¬ Qgd p0 p1<0):Dat.small 1048576 p0∧0≤Qgd p0 p1∧Qgd p0 p1≤1048576:=by
 unfold Qgd at h ⊢
 obtain⟨g0,g1,g2⟩:=hg
 have c1: ¬ (Qbh p0.Cells p1)<0:=Qfu h
 rw[decide_eq_false c1,cond_false] at h ⊢
 obtain⟨s1,b1,e1⟩:=Qlp p0.Cells p1 h0 h1 g1 c1
 exact⟨⟨trivial,s1,trivial⟩,b1,e1⟩
theorem Qq6 (p0:List Slot) (p1:Int): ∀ n s i,Qey p0 p1 n s i=szL Qgd p0 n s i:=by
 intro n
 induction n with
 | zero=>intro s i;rfl
 | succ n ih=>intro s i;rw[Qey,szL,ih]
theorem Qq5 (p0:List Slot) (p1:Int) (h0:0≤p1) (h1:p1≤1048576) (hg:Dat.good p0) (h: ¬ Qem p0 p1<0):Dat.small 1048576 p0∧0≤Qem p0 p1∧Qem p0 p1≤1048576:=by
 unfold Qem at h ⊢
 rw[Qgg h0 h1 hg.1] at h ⊢
 have hc:=Qfu h
 rw[decide_eq_false hc,cond_false,Qq6] at h ⊢
 obtain⟨h2,h3,h4⟩:=Qjp (f:=Qgd) (xs:=p0) Qsd hg.2 _ _ 0 rfl (by omega) (by omega) h
 refine⟨⟨by omega,fun x hx=>?_⟩,h3,h4⟩
 obtain⟨j,hj⟩:=List.getElem?_of_mem hx
 exact h2 j x (Nat.zero_le _) hj
theorem Qo5 (p0:Journal) (p1:Int) (h0:0≤p1) (h1:p1≤1048576) (hg:Dat.good p0) (h: ¬ Qfk p0 p1<0):Dat.small 1048576 p0∧0≤Qfk p0 p1∧Qfk p0 p1≤1048576:=by
 unfold Qfk at h ⊢
 obtain⟨g0,g1⟩:=hg
 rw[Qgg (a:=p1) h0 h1 (n:=p0.Text.size) (Qls g0)] at h ⊢
 have c1: ¬ (p1 - (p0.Text.size:Int))<0:=Qfu h
 rw[decide_eq_false c1,cond_false] at h ⊢
 have b1:0≤(p1 - (p0.Text.size:Int)):=by omega
 have e1:(p1 - (p0.Text.size:Int))≤1048576:=by omega
 have s0:p0.Text.size≤1048576:=by omega
 exact⟨⟨s0,trivial⟩,b1,e1⟩
theorem Qsf (p0:Disk) (p1:Int) (h0:0≤p1) (h1:p1≤1048576) (hg:Dat.good p0) (h: ¬ Qdh p0 p1<0):Dat.small 1048576 p0∧0≤Qdh p0 p1∧Qdh p0 p1≤1048576:=by
 unfold Qdh at h ⊢
 obtain⟨g0,g1⟩:=hg
 have c1: ¬ (Qem p0.Slots p1)<0:=Qfu h
 rw[decide_eq_false c1,cond_false] at h ⊢
 obtain⟨s0,b1,e1⟩:=Qq5 p0.Slots p1 h0 h1 g0 c1
 have c2: ¬ (Qfk p0.Journal (Qem p0.Slots p1))<0:=Qfu h
 rw[decide_eq_false c2,cond_false] at h ⊢
 obtain⟨s1,b2,e2⟩:=Qo5 p0.Journal (Qem p0.Slots p1) b1 e1 g1 c2
 exact⟨⟨s0,s1⟩,b2,e2⟩
theorem Qsc (p0:Step) (p1:Int) (h0:0≤p1) (h1:p1≤1048576) (hg:Dat.good p0) (h: ¬ Qgc p0 p1<0):Dat.small 1048576 p0∧0≤Qgc p0 p1∧Qgc p0 p1≤1048576:=by
 unfold Qgc at h ⊢
 obtain⟨g0,g1⟩:=hg
 have c1: ¬ (Qe1 p0.Call p1)<0:=Qfu h
 rw[decide_eq_false c1,cond_false] at h ⊢
 obtain⟨s1,b1,e1⟩:=Qmm p0.Call p1 h0 h1 g1 c1
 exact⟨⟨trivial,s1⟩,b1,e1⟩
theorem Qq4 (p0:List Step) (p1:Int): ∀ n s i,Qex p0 p1 n s i=szL Qgc p0 n s i:=by
 intro n
 induction n with
 | zero=>intro s i;rfl
 | succ n ih=>intro s i;rw[Qex,szL,ih]
theorem Qq3 (p0:List Step) (p1:Int) (h0:0≤p1) (h1:p1≤1048576) (hg:Dat.good p0) (h: ¬ Qel p0 p1<0):Dat.small 1048576 p0∧0≤Qel p0 p1∧Qel p0 p1≤1048576:=by
 unfold Qel at h ⊢
 rw[Qgg h0 h1 hg.1] at h ⊢
 have hc:=Qfu h
 rw[decide_eq_false hc,cond_false,Qq4] at h ⊢
 obtain⟨h2,h3,h4⟩:=Qjp (f:=Qgc) (xs:=p0) Qsc hg.2 _ _ 0 rfl (by omega) (by omega) h
 refine⟨⟨by omega,fun x hx=>?_⟩,h3,h4⟩
 obtain⟨j,hj⟩:=List.getElem?_of_mem hx
 exact h2 j x (Nat.zero_le _) hj
theorem Qq7 (p0:Entry) (p1:Int) (h0:0≤p1) (h1:p1≤1048576) (hg:Dat.good p0) (h: ¬ Qfq p0 p1<0):Dat.small 1048576 p0∧0≤Qfq p0 p1∧Qfq p0 p1≤1048576:=by
 unfold Qfq at h ⊢
 obtain⟨g0,g1,g2,g3,g4,g5,g6,g7⟩:=hg
 have c1: ¬ (Qel p0.Steps p1)<0:=Qfu h
 rw[decide_eq_false c1,cond_false] at h ⊢
 obtain⟨s3,b1,e1⟩:=Qq3 p0.Steps p1 h0 h1 g3 c1
 have c2: ¬ (Qbo p0.Answers (Qel p0.Steps p1))<0:=Qfu h
 rw[decide_eq_false c2,cond_false] at h ⊢
 obtain⟨s4,b2,e2⟩:=Qkc p0.Answers (Qel p0.Steps p1) b1 e1 g4 c2
 exact⟨⟨trivial,trivial,trivial,s3,s4,trivial,trivial,trivial⟩,b2,e2⟩
theorem Qqa (p0:List Entry) (p1:Int): ∀ n s i,Qec p0 p1 n s i=szL Qfq p0 n s i:=by
 intro n
 induction n with
 | zero=>intro s i;rfl
 | succ n ih=>intro s i;rw[Qec,szL,ih]
theorem Qp9 (p0:List Entry) (p1:Int) (h0:0≤p1) (h1:p1≤1048576) (hg:Dat.good p0) (h: ¬ Qdt p0 p1<0):Dat.small 1048576 p0∧0≤Qdt p0 p1∧Qdt p0 p1≤1048576:=by
 unfold Qdt at h ⊢
 rw[Qgg h0 h1 hg.1] at h ⊢
 have hc:=Qfu h
 rw[decide_eq_false hc,cond_false,Qqa] at h ⊢
 obtain⟨h2,h3,h4⟩:=Qjp (f:=Qfq) (xs:=p0) Qq7 hg.2 _ _ 0 rfl (by omega) (by omega) h
 refine⟨⟨by omega,fun x hx=>?_⟩,h3,h4⟩
 obtain⟨j,hj⟩:=List.getElem?_of_mem hx
 exact h2 j x (Nat.zero_le _) hj
theorem Qp8 (p0:Kernel) (p1:Int) (h0:0≤p1) (h1:p1≤1048576) (hg:Dat.good p0) (h: ¬ Qgk p0 p1<0):Dat.small 1048576 p0∧0≤Qgk p0 p1∧Qgk p0 p1≤1048576:=by
 unfold Qgk at h ⊢
 obtain⟨g0,g1,g2,g3,g4,g5,g6,g7,g8⟩:=hg
 have c1: ¬ (Qbh p0.Store p1)<0:=Qfu h
 rw[decide_eq_false c1,cond_false] at h ⊢
 obtain⟨s0,b1,e1⟩:=Qlp p0.Store p1 h0 h1 g0 c1
 have c2: ¬ (Qdb p0.Txs (Qbh p0.Store p1))<0:=Qfu h
 rw[decide_eq_false c2,cond_false] at h ⊢
 obtain⟨s1,b2,e2⟩:=Qy4 p0.Txs (Qbh p0.Store p1) b1 e1 g1 c2
 have c3: ¬ (Qdh p0.Disk (Qdb p0.Txs (Qbh p0.Store p1)))<0:=Qfu h
 rw[decide_eq_false c3,cond_false] at h ⊢
 obtain⟨s2,b3,e3⟩:=Qsf p0.Disk (Qdb p0.Txs (Qbh p0.Store p1)) b2 e2 g2 c3
 have c4: ¬ (Qdt p0.History (Qdh p0.Disk (Qdb p0.Txs (Qbh p0.Store p1))))<0:=Qfu h
 rw[decide_eq_false c4,cond_false] at h ⊢
 obtain⟨s6,b4,e4⟩:=Qp9 p0.History (Qdh p0.Disk (Qdb p0.Txs (Qbh p0.Store p1))) b3 e3 g6 c4
 have c5: ¬ (Qbt p0.Seen (Qdt p0.History (Qdh p0.Disk (Qdb p0.Txs (Qbh p0.Store p1)))))<0:=Qfu h
 rw[decide_eq_false c5,cond_false] at h ⊢
 obtain⟨s7,b5,e5⟩:=Qh2 p0.Seen (Qdt p0.History (Qdh p0.Disk (Qdb p0.Txs (Qbh p0.Store p1)))) b4 e4 g7 c5
 exact⟨⟨s0,s1,s2,trivial,trivial,trivial,s6,s7,trivial⟩,b5,e5⟩
end
end Go.Proofs.YtppialklomgajaaGreatDoor.Fw
