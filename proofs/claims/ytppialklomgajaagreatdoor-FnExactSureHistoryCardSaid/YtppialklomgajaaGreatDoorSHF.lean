/-
  The texts HT, HQ, WL, VP, LM, VS, VR, W2, WS, GEi of this proof, one behind the other: what each proves stands at its head. No condition.
-/
import Derived.Test.YtppialklomgajaaGreatDoorSHA
import Derived.Test.YtppialklomgajaaGreatDoorSHB
import Derived.Test.YtppialklomgajaaGreatDoorSHC
import Derived.Test.YtppialklomgajaaGreatDoorSHD
import Derived.Test.YtppialklomgajaaGreatDoorSHE
set_option linter.unusedVariables false
set_option linter.unusedSimpArgs false
set_option maxRecDepth 100000
namespace Go.Proofs.YtppialklomgajaaGreatDoor.Fw
open Go.RowKit
open IntKind (i64)
open List (length_set length_replicate)
section
set_option maxHeartbeats 2000000
theorem Ynx:FnOk Tryz.prog 18:=⟨_,Tryz.func18,rfl,by kernel_rfl⟩
theorem Ylh:FnOk Tryz.prog 24:=⟨_,Tryz.func24,rfl,by kernel_rfl⟩
theorem Ypn:FnOk Tryz.prog 38:=⟨_,Tryz.func38,rfl,by kernel_rfl⟩
theorem Yt1:FnOk Tryz.prog 39:=⟨_,Tryz.func39,rfl,by kernel_rfl⟩
theorem Yt0:FnOk Tryz.prog 40:=⟨_,Tryz.func40,rfl,by kernel_rfl⟩
theorem Ytz:FnOk Tryz.prog 41:=⟨_,Tryz.func41,rfl,by kernel_rfl⟩
theorem Ynv:FnOk Tryz.prog 42:=⟨_,Tryz.func42,rfl,by kernel_rfl⟩
theorem Ypm:FnOk Tryz.prog 45:=⟨_,Tryz.func45,rfl,by kernel_rfl⟩
theorem Ytx:FnOk Tryz.prog 46:=⟨_,Tryz.func46,rfl,by kernel_rfl⟩
theorem Ytw:FnOk Tryz.prog 47:=⟨_,Tryz.func47,rfl,by kernel_rfl⟩
theorem Ytl:FnOk Tryz.prog 63:=⟨_,Tryz.func63,rfl,by kernel_rfl⟩
theorem Ytb:FnOk Tryz.prog 83:=⟨_,Tryz.func83,rfl,by kernel_rfl⟩
theorem Yta:FnOk Tryz.prog 84:=⟨_,Tryz.func84,rfl,by kernel_rfl⟩
theorem Ys9:FnOk Tryz.prog 85:=⟨_,Tryz.func85,rfl,by kernel_rfl⟩
theorem Ys8:FnOk Tryz.prog 86:=⟨_,Tryz.func86,rfl,by kernel_rfl⟩
theorem Ys7:FnOk Tryz.prog 87:=⟨_,Tryz.func87,rfl,by kernel_rfl⟩
theorem Ys4:FnOk Tryz.prog 94:=⟨_,Tryz.func94,rfl,by kernel_rfl⟩
theorem Ys3:FnOk Tryz.prog 95:=⟨_,Tryz.func95,rfl,by kernel_rfl⟩
theorem Ys2:FnOk Tryz.prog 96:=⟨_,Tryz.func96,rfl,by kernel_rfl⟩
theorem Ys1:FnOk Tryz.prog 97:=⟨_,Tryz.func97,rfl,by kernel_rfl⟩
theorem Yq3:FnOk Tryz.prog 122:=⟨_,Tryz.func122,rfl,by kernel_rfl⟩
theorem Ym0:FnOk Tryz.prog 123:=⟨_,Tryz.func123,rfl,by kernel_rfl⟩
theorem Yqt:FnOk Tryz.prog 152:=⟨_,Tryz.func152,rfl,by kernel_rfl⟩
theorem Ymx:FnOk Tryz.prog 153:=⟨_,Tryz.func153,rfl,by kernel_rfl⟩
theorem Yqs:FnOk Tryz.prog 154:=⟨_,Tryz.func154,rfl,by kernel_rfl⟩
theorem Yqr:FnOk Tryz.prog 155:=⟨_,Tryz.func155,rfl,by kernel_rfl⟩
theorem Yqq:FnOk Tryz.prog 156:=⟨_,Tryz.func156,rfl,by kernel_rfl⟩
theorem Yqp:FnOk Tryz.prog 157:=⟨_,Tryz.func157,rfl,by kernel_rfl⟩
theorem Yqi:FnOk Tryz.prog 169:=⟨_,Tryz.func169,rfl,by kernel_rfl⟩
theorem Yqh:FnOk Tryz.prog 170:=⟨_,Tryz.func170,rfl,by kernel_rfl⟩
theorem Yqg:FnOk Tryz.prog 171:=⟨_,Tryz.func171,rfl,by kernel_rfl⟩
theorem Yqf:FnOk Tryz.prog 172:=⟨_,Tryz.func172,rfl,by kernel_rfl⟩
theorem Yqc:FnOk Tryz.prog 183:=⟨_,Tryz.func183,rfl,by kernel_rfl⟩
theorem Yqb:FnOk Tryz.prog 184:=⟨_,Tryz.func184,rfl,by kernel_rfl⟩
theorem Ymo:FnOk Tryz.prog 212:=⟨_,Tryz.func212,rfl,by kernel_rfl⟩
theorem Yp7:FnOk Tryz.prog 213:=⟨_,Tryz.func213,rfl,by kernel_rfl⟩
theorem Yp6:FnOk Tryz.prog 214:=⟨_,Tryz.func214,rfl,by kernel_rfl⟩
theorem Ymn:FnOk Tryz.prog 223:=⟨_,Tryz.func223,rfl,by kernel_rfl⟩
def Qhc (p0:Cell):Cell:=p0
theorem Q8l (p0:Cell):CTs 83 [.o (.st Cell _ inferInstance p0)] [Re.st Cell _ inferInstance (Qhc p0)]:=by
 refine en Tryz.func83 Tryz.ntmps83 fun w hG hgd=>?_
 obtain⟨hg_p0,_⟩:=hgd
 have hM:=Qhc.eq_1 p0
 refine ad 28 ?_
 exact rz (rs:=[.cell 2 114]) (congrArg (fun x=>[Re.st Cell _ inferInstance x]) hM)
def Qet (p0:List Cell):Nat→(List Cell)→Nat→(List Cell)
 | 0,w1,i=>w1
 | n+1,w1,i=>Qet p0 n (w1.set i (Qhc (nth p0 i))) (i+1)
def Qgt (p0:List Cell):(List Cell):=Qet p0 (p0.length - 0) (List.replicate p0.length (Cell.mk ⟨#[]⟩ ⟨#[]⟩)) 0
theorem Qod (p0:List Cell) (hs:Dat.small 1048576 p0):CTs 38 [.o (.sl Cell instDatCell p0)] [Re.sl Cell instDatCell (Qgt p0)]:=by
 refine en Tryz.func38 Tryz.ntmps38 fun w hG hgd=>?_
 obtain⟨hg_p0,_⟩:=hgd
 have hl_p0:p0.length≤9223372036854775807:=hg_p0.1
 have hM:=Qgt.eq_1 p0
 have hs0:p0.length≤1048576:=hs.1
 refine ad 8 ?_
 refine op (ma p0.length (Cell.mk ⟨#[]⟩ ⟨#[]⟩)) ?_
 refine ad 8 ?_
 refine Run.loopM (ι:=(List Cell)×Nat) (fun s=>Qet p0 (p0.length - s.2) s.1 s.2) (fun s=>⟨23,2,[(0,.sl 0 p0.length),(3,.sl 1 s.1.length),(4,.v (.int .i64 (s.2:Int)))],[(0,.ros Cell instDatCell p0),(1,.own Cell instDatCell s.1)]⟩) (fun s=>s.2≤p0.length∧s.1.length=p0.length) (fun s=>p0.length - s.2) ((List.replicate p0.length (Cell.mk ⟨#[]⟩ ⟨#[]⟩)),0) [0,1] [1,0] hM lv0 su (by decide) ?_
 rintro ⟨w1,i⟩ hv hE
 try dsimp only at hE
 obtain⟨hi,hv0⟩:=hv
 try dsimp only at hi hv0
 refine ad 8 ?_
 refine cd (fun h1=>?_) (fun h1=>?_)
 ·
  have h1l:i<p0.length:=by have:=of_decide_eq_true h1;omega
  have hM:=hE.trans ((congrArg (fun n=>Qet p0 n w1 i) (show p0.length - i=(p0.length - (i+1))+1 by omega)).trans (Qet.eq_2 _ _ _ _))
  refine ad 8 ?_
  have hg3:=Qat (k:=i) hg_p0 om
  refine op (ix (xs:=p0) i om) ?_
  refine ad 1 ?_
  have hg4:Dat.good (nth p0 i:Cell):=hg3
  refine og (clg (Q8l (nth p0 i)) Ytb) fun hgq=>?_
  obtain⟨hg5,_⟩:=hgq
  refine op (oi (xs:=w1) i om) ?_
  refine op (se (xs:=w1) i (Qhc (nth p0 i)) hg5 om) ?_
  refine ad 5 ?_
  rw[Qd7 (i:=i) om]
  refine ad 2 ?_
  exact Run.again ((w1.set i (Qhc (nth p0 i))),(i+1)) [0,3] [2,0] ⟨by first | omega | exact trivial | (dsimp only;omega) | (refine⟨by omega,?_⟩;simp_all;try omega),hM⟩ rfl lv1 su (by decide)
 ·
  have h1l: ¬ (i<p0.length):=by have:=of_decide_eq_false h1;omega
  have hM:=hE.trans ((congrArg (fun n=>Qet p0 n w1 i) (show p0.length - i=0 by omega)).trans (Qet.eq_1 _ _ _))
  refine ad 6 ?_
  exact rz (rs:=[.tmp 2]) (congrArg (fun x=>[Re.sl Cell instDatCell x]) hM)
def Qgl (p0:Call):Call:=p0
theorem Qqo (p0:Call):CTs 212 [.o (.st Call _ inferInstance p0)] [Re.st Call _ inferInstance (Qgl p0)]:=by
 refine en Tryz.func212 Tryz.ntmps212 fun w hG hgd=>?_
 obtain⟨hg_p0,_⟩:=hgd
 have hM:=Qgl.eq_1 p0
 refine ad 56 ?_
 exact rz (rs:=[.cell 2 149]) (congrArg (fun x=>[Re.st Call _ inferInstance x]) hM)
def Qeu (p0:List Call):Nat→(List Call)→Nat→(List Call)
 | 0,w1,i=>w1
 | n+1,w1,i=>Qeu p0 n (w1.set i (Qgl (nth p0 i))) (i+1)
def Qh6 (p0:List Call):(List Call):=Qeu p0 (p0.length - 0) (List.replicate p0.length (Call.mk 0 ⟨#[]⟩ ⟨#[]⟩ 0 0 ⟨#[]⟩)) 0
theorem Q1g (p0:List Call) (hs:Dat.small 1048576 p0):CTs 152 [.o (.sl Call instDatCall p0)] [Re.sl Call instDatCall (Qh6 p0)]:=by
 refine en Tryz.func152 Tryz.ntmps152 fun w hG hgd=>?_
 obtain⟨hg_p0,_⟩:=hgd
 have hl_p0:p0.length≤9223372036854775807:=hg_p0.1
 have hM:=Qh6.eq_1 p0
 have hs0:p0.length≤1048576:=hs.1
 refine ad 8 ?_
 refine op (ma p0.length (Call.mk 0 ⟨#[]⟩ ⟨#[]⟩ 0 0 ⟨#[]⟩) (ho:=gdz)) ?_
 refine ad 8 ?_
 refine Run.loopM (ι:=(List Call)×Nat) (fun s=>Qeu p0 (p0.length - s.2) s.1 s.2) (fun s=>⟨23,2,[(0,.sl 0 p0.length),(3,.sl 1 s.1.length),(4,.v (.int .i64 (s.2:Int)))],[(0,.ros Call instDatCall p0),(1,.own Call instDatCall s.1)]⟩) (fun s=>s.2≤p0.length∧s.1.length=p0.length) (fun s=>p0.length - s.2) ((List.replicate p0.length (Call.mk 0 ⟨#[]⟩ ⟨#[]⟩ 0 0 ⟨#[]⟩)),0) [0,1] [1,0] hM lv0 su (by decide) ?_
 rintro ⟨w1,i⟩ hv hE
 try dsimp only at hE
 obtain⟨hi,hv0⟩:=hv
 try dsimp only at hi hv0
 refine ad 8 ?_
 refine cd (fun h1=>?_) (fun h1=>?_)
 ·
  have h1l:i<p0.length:=by have:=of_decide_eq_true h1;omega
  have hM:=hE.trans ((congrArg (fun n=>Qeu p0 n w1 i) (show p0.length - i=(p0.length - (i+1))+1 by omega)).trans (Qeu.eq_2 _ _ _ _))
  refine ad 8 ?_
  have hg3:=Qat (k:=i) hg_p0 om
  refine op (ix (xs:=p0) i om) ?_
  refine ad 1 ?_
  have hg4:Dat.good (nth p0 i:Call):=hg3
  refine og (clg (Qqo (nth p0 i)) Ymo) fun hgq=>?_
  obtain⟨hg5,_⟩:=hgq
  refine op (oi (xs:=w1) i om) ?_
  refine op (se (xs:=w1) i (Qgl (nth p0 i)) hg5 om) ?_
  refine ad 5 ?_
  rw[Qd7 (i:=i) om]
  refine ad 2 ?_
  exact Run.again ((w1.set i (Qgl (nth p0 i))),(i+1)) [0,3] [2,0] ⟨by first | omega | exact trivial | (dsimp only;omega) | (refine⟨by omega,?_⟩;simp_all;try omega),hM⟩ rfl lv1 su (by decide)
 ·
  have h1l: ¬ (i<p0.length):=by have:=of_decide_eq_false h1;omega
  have hM:=hE.trans ((congrArg (fun n=>Qeu p0 n w1 i) (show p0.length - i=0 by omega)).trans (Qeu.eq_1 _ _ _))
  refine ad 6 ?_
  exact rz (rs:=[.tmp 2]) (congrArg (fun x=>[Re.sl Call instDatCall x]) hM)
def Qgc (p0:Answer):Answer:=p0
theorem Qz6 (p0:Answer):CTs 213 [.o (.st Answer _ inferInstance p0)] [Re.st Answer _ inferInstance (Qgc p0)]:=by
 refine en Tryz.func213 Tryz.ntmps213 fun w hG hgd=>?_
 obtain⟨hg_p0,_⟩:=hgd
 have hM:=Qgc.eq_1 p0
 refine ad 35 ?_
 exact rz (rs:=[.cell 2 154]) (congrArg (fun x=>[Re.st Answer _ inferInstance x]) hM)
def Qdu (p0:List Answer):Nat→(List Answer)→Nat→(List Answer)
 | 0,w1,i=>w1
 | n+1,w1,i=>Qdu p0 n (w1.set i (Qgc (nth p0 i))) (i+1)
def Qfw (p0:List Answer):(List Answer):=Qdu p0 (p0.length - 0) (List.replicate p0.length (Answer.mk 0 0 ⟨#[]⟩)) 0
theorem Qmj (p0:List Answer) (hs:Dat.small 1048576 p0):CTs 153 [.o (.sl Answer instDatAnswer p0)] [Re.sl Answer instDatAnswer (Qfw p0)]:=by
 refine en Tryz.func153 Tryz.ntmps153 fun w hG hgd=>?_
 obtain⟨hg_p0,_⟩:=hgd
 have hl_p0:p0.length≤9223372036854775807:=hg_p0.1
 have hM:=Qfw.eq_1 p0
 have hs0:p0.length≤1048576:=hs.1
 refine ad 8 ?_
 refine op (ma p0.length (Answer.mk 0 0 ⟨#[]⟩) (ho:=gdz)) ?_
 refine ad 8 ?_
 refine Run.loopM (ι:=(List Answer)×Nat) (fun s=>Qdu p0 (p0.length - s.2) s.1 s.2) (fun s=>⟨23,2,[(0,.sl 0 p0.length),(3,.sl 1 s.1.length),(4,.v (.int .i64 (s.2:Int)))],[(0,.ros Answer instDatAnswer p0),(1,.own Answer instDatAnswer s.1)]⟩) (fun s=>s.2≤p0.length∧s.1.length=p0.length) (fun s=>p0.length - s.2) ((List.replicate p0.length (Answer.mk 0 0 ⟨#[]⟩)),0) [0,1] [1,0] hM lv0 su (by decide) ?_
 rintro ⟨w1,i⟩ hv hE
 try dsimp only at hE
 obtain⟨hi,hv0⟩:=hv
 try dsimp only at hi hv0
 refine ad 8 ?_
 refine cd (fun h1=>?_) (fun h1=>?_)
 ·
  have h1l:i<p0.length:=by have:=of_decide_eq_true h1;omega
  have hM:=hE.trans ((congrArg (fun n=>Qdu p0 n w1 i) (show p0.length - i=(p0.length - (i+1))+1 by omega)).trans (Qdu.eq_2 _ _ _ _))
  refine ad 8 ?_
  have hg3:=Qat (k:=i) hg_p0 om
  refine op (ix (xs:=p0) i om) ?_
  refine ad 1 ?_
  have hg4:Dat.good (nth p0 i:Answer):=hg3
  refine og (clg (Qz6 (nth p0 i)) Yp7) fun hgq=>?_
  obtain⟨hg5,_⟩:=hgq
  refine op (oi (xs:=w1) i om) ?_
  refine op (se (xs:=w1) i (Qgc (nth p0 i)) hg5 om) ?_
  refine ad 5 ?_
  rw[Qd7 (i:=i) om]
  refine ad 2 ?_
  exact Run.again ((w1.set i (Qgc (nth p0 i))),(i+1)) [0,3] [2,0] ⟨by first | omega | exact trivial | (dsimp only;omega) | (refine⟨by omega,?_⟩;simp_all;try omega),hM⟩ rfl lv1 su (by decide)
 ·
  have h1l: ¬ (i<p0.length):=by have:=of_decide_eq_false h1;omega
  have hM:=hE.trans ((congrArg (fun n=>Qdu p0 n w1 i) (show p0.length - i=0 by omega)).trans (Qdu.eq_1 _ _ _))
  refine ad 6 ?_
  exact rz (rs:=[.tmp 2]) (congrArg (fun x=>[Re.sl Answer instDatAnswer x]) hM)
def Qdt (p0:List ByteArray):Nat→(List ByteArray)→Nat→(List ByteArray)
 | 0,w1,i=>w1
 | n+1,w1,i=>Qdt p0 n (w1.set i (nth p0 i)) (i+1)
def Qep (p0:List ByteArray):(List ByteArray):=Qdt p0 (p0.length - 0) (List.replicate p0.length (⟨#[]⟩:ByteArray)) 0
theorem Qjn (p0:List ByteArray) (hs:Dat.small 1048576 p0):CTs 42 [.o (.sl ByteArray instDatByteArray p0)] [Re.sl ByteArray instDatByteArray (Qep p0)]:=by
 refine en Tryz.func42 Tryz.ntmps42 fun w hG hgd=>?_
 obtain⟨hg_p0,_⟩:=hgd
 have hl_p0:p0.length≤9223372036854775807:=hg_p0.1
 have hM:=Qep.eq_1 p0
 have hs0:p0.length≤1048576:=hs.1
 refine ad 8 ?_
 refine op (ma p0.length (⟨#[]⟩:ByteArray)) ?_
 refine ad 8 ?_
 refine Run.loopM (ι:=(List ByteArray)×Nat) (fun s=>Qdt p0 (p0.length - s.2) s.1 s.2) (fun s=>⟨22,2,[(0,.sl 0 p0.length),(3,.sl 1 s.1.length),(4,.v (.int .i64 (s.2:Int)))],[(0,.ros ByteArray instDatByteArray p0),(1,.own ByteArray instDatByteArray s.1)]⟩) (fun s=>s.2≤p0.length∧s.1.length=p0.length) (fun s=>p0.length - s.2) ((List.replicate p0.length (⟨#[]⟩:ByteArray)),0) [0,1] [1,0] hM lv0 su (by decide) ?_
 rintro ⟨w1,i⟩ hv hE
 try dsimp only at hE
 obtain⟨hi,hv0⟩:=hv
 try dsimp only at hi hv0
 refine ad 8 ?_
 refine cd (fun h1=>?_) (fun h1=>?_)
 ·
  have h1l:i<p0.length:=by have:=of_decide_eq_true h1;omega
  have hM:=hE.trans ((congrArg (fun n=>Qdt p0 n w1 i) (show p0.length - i=(p0.length - (i+1))+1 by omega)).trans (Qdt.eq_2 _ _ _ _))
  refine ad 8 ?_
  have hg3:=Qat (k:=i) hg_p0 om
  refine op (ix (xs:=p0) i om) ?_
  refine ad 1 ?_
  refine op (oi (xs:=w1) i om) ?_
  refine op (se (xs:=w1) i (nth p0 i) hg3 om) ?_
  refine ad 5 ?_
  rw[Qd7 (i:=i) om]
  refine ad 2 ?_
  exact Run.again ((w1.set i (nth p0 i)),(i+1)) [0,3] [2,0] ⟨by first | omega | exact trivial | (dsimp only;omega) | (refine⟨by omega,?_⟩;simp_all;try omega),hM⟩ rfl lv1 su (by decide)
 ·
  have h1l: ¬ (i<p0.length):=by have:=of_decide_eq_false h1;omega
  have hM:=hE.trans ((congrArg (fun n=>Qdt p0 n w1 i) (show p0.length - i=0 by omega)).trans (Qdt.eq_1 _ _ _))
  refine ad 6 ?_
  exact rz (rs:=[.tmp 2]) (congrArg (fun x=>[Re.sl ByteArray instDatByteArray x]) hM)
def Qh3 (p0:Touch):Touch:=(Touch.mk (Qep p0.Reads) (Qep p0.Writes))
theorem Q1c (p0:Touch) (hs:Dat.small 1048576 p0):CTs 154 [.o (.st Touch _ inferInstance p0)] [Re.st Touch _ inferInstance (Qh3 p0)]:=by
 refine en Tryz.func154 Tryz.ntmps154 fun w hG hgd=>?_
 obtain⟨hg_p0,_⟩:=hgd
 have hM:=Qh3.eq_1 p0
 have hs0:Dat.small 1048576 p0.Reads:=hs.1
 have hs1:Dat.small 1048576 p0.Writes:=hs.2
 refine ad 13 ?_
 refine og (clg (Qjn p0.Reads (by first | assumption | exact Qcf hs (by omega))) Ynv) fun hgq=>?_
 obtain⟨hg1,_⟩:=hgq
 refine ad 7 ?_
 refine og (clg (Qjn p0.Writes (by first | assumption | exact Qcf hs (by omega))) Ynv) fun hgq=>?_
 obtain⟨hg2,_⟩:=hgq
 refine ad 8 ?_
 have hg3:Dat.good (Touch.mk (Qep p0.Reads) (Qep p0.Writes):Touch):=⟨hg1,hg2⟩
 exact rz (rs:=[.cell 2 117]) (congrArg (fun x=>[Re.st Touch _ inferInstance x]) hM)
def Qfc (p0:List Int):Nat→(List Int)→Nat→(List Int)
 | 0,w1,i=>w1
 | n+1,w1,i=>Qfc p0 n (w1.set i (nth p0 i)) (i+1)
def Qiv (p0:List Int):(List Int):=Qfc p0 (p0.length - 0) (List.replicate p0.length (0:Int)) 0
theorem Q8j (p0:List Int) (hs:Dat.small 1048576 p0):CTs 155 [.o (.sl Int instDatInt p0)] [Re.sl Int instDatInt (Qiv p0)]:=by
 refine en Tryz.func155 Tryz.ntmps155 fun w hG hgd=>?_
 obtain⟨hg_p0,_⟩:=hgd
 have hl_p0:p0.length≤9223372036854775807:=hg_p0.1
 have hM:=Qiv.eq_1 p0
 have hs0:p0.length≤1048576:=hs.1
 refine ad 8 ?_
 refine op (ma p0.length (0:Int)) ?_
 refine ad 8 ?_
 refine Run.loopM (ι:=(List Int)×Nat) (fun s=>Qfc p0 (p0.length - s.2) s.1 s.2) (fun s=>⟨22,2,[(0,.sl 0 p0.length),(3,.sl 1 s.1.length),(4,.v (.int .i64 (s.2:Int)))],[(0,.ros Int instDatInt p0),(1,.own Int instDatInt s.1)]⟩) (fun s=>s.2≤p0.length∧s.1.length=p0.length) (fun s=>p0.length - s.2) ((List.replicate p0.length (0:Int)),0) [0,1] [1,0] hM lv0 su (by decide) ?_
 rintro ⟨w1,i⟩ hv hE
 try dsimp only at hE
 obtain⟨hi,hv0⟩:=hv
 try dsimp only at hi hv0
 refine ad 8 ?_
 refine cd (fun h1=>?_) (fun h1=>?_)
 ·
  have h1l:i<p0.length:=by have:=of_decide_eq_true h1;omega
  have hM:=hE.trans ((congrArg (fun n=>Qfc p0 n w1 i) (show p0.length - i=(p0.length - (i+1))+1 by omega)).trans (Qfc.eq_2 _ _ _ _))
  refine ad 8 ?_
  have hg3:=Qat (k:=i) hg_p0 om
  refine op (ix (xs:=p0) i om) ?_
  refine ad 1 ?_
  refine op (oi (xs:=w1) i om) ?_
  refine op (se (xs:=w1) i (nth p0 i) hg3 om) ?_
  refine ad 5 ?_
  rw[Qd7 (i:=i) om]
  refine ad 2 ?_
  exact Run.again ((w1.set i (nth p0 i)),(i+1)) [0,3] [2,0] ⟨by first | omega | exact trivial | (dsimp only;omega) | (refine⟨by omega,?_⟩;simp_all;try omega),hM⟩ rfl lv1 su (by decide)
 ·
  have h1l: ¬ (i<p0.length):=by have:=of_decide_eq_false h1;omega
  have hM:=hE.trans ((congrArg (fun n=>Qfc p0 n w1 i) (show p0.length - i=0 by omega)).trans (Qfc.eq_1 _ _ _))
  refine ad 6 ?_
  exact rz (rs:=[.tmp 2]) (congrArg (fun x=>[Re.sl Int instDatInt x]) hM)
def Qi8 (p0:Tx):Tx:=(Tx.mk p0.Id p0.Age p0.Proc p0.Began (Qh6 p0.Calls) (Qfw p0.Answers) (Qh3 p0.Touch) (Qiv p0.Marks) p0.State)
theorem Ydo (p0:Tx) (hs:Dat.small 1048576 p0):CTs 84 [.o (.st Tx _ inferInstance p0)] [Re.st Tx _ inferInstance (Qi8 p0)]:=by
 refine en Tryz.func84 Tryz.ntmps84 fun w hG hgd=>?_
 obtain⟨hg_p0,_⟩:=hgd
 have hM:=Qi8.eq_1 p0
 have hs4:Dat.small 1048576 p0.Calls:=hs.2.2.2.2.1
 have hs5:Dat.small 1048576 p0.Answers:=hs.2.2.2.2.2.1
 have hs6:Dat.small 1048576 p0.Touch:=hs.2.2.2.2.2.2.1
 have hs7:Dat.small 1048576 p0.Marks:=hs.2.2.2.2.2.2.2.1
 refine ad 41 ?_
 refine og (clg (Q1g p0.Calls (by first | assumption | exact Qcf hs (by omega))) Yqt) fun hgq=>?_
 obtain⟨hg1,_⟩:=hgq
 refine ad 7 ?_
 refine og (clg (Qmj p0.Answers (by first | assumption | exact Qcf hs (by omega))) Ymx) fun hgq=>?_
 obtain⟨hg2,_⟩:=hgq
 refine ad 7 ?_
 have hg3:Dat.good (p0.Touch:Touch):=hg_p0.2.2.2.2.2.2.1
 refine og (clg (Q1c p0.Touch (by first | assumption | exact Qcf hs (by omega))) Yqs) fun hgq=>?_
 obtain⟨hg4,_⟩:=hgq
 refine ad 7 ?_
 refine og (clg (Q8j p0.Marks (by first | assumption | exact Qcf hs (by omega))) Yqr) fun hgq=>?_
 obtain⟨hg5,_⟩:=hgq
 refine ad 15 ?_
 have hg6:Dat.good (Tx.mk p0.Id p0.Age p0.Proc p0.Began (Qh6 p0.Calls) (Qfw p0.Answers) (Qh3 p0.Touch) (Qiv p0.Marks) p0.State:Tx):=⟨hg_p0.1,hg_p0.2.1,hg_p0.2.2.1,hg_p0.2.2.2.1,hg1,hg2,hg4,hg5,hg_p0.2.2.2.2.2.2.2.2⟩
 exact rz (rs:=[.cell 2 119]) (congrArg (fun x=>[Re.st Tx _ inferInstance x]) hM)
def Qfr (p0:List Tx):Nat→(List Tx)→Nat→(List Tx)
 | 0,w1,i=>w1
 | n+1,w1,i=>Qfr p0 n (w1.set i (Qi8 (nth p0 i))) (i+1)
def Qj1 (p0:List Tx):(List Tx):=Qfr p0 (p0.length - 0) (List.replicate p0.length (Tx.mk 0 0 0 0 [] [] (Touch.mk [] []) [] 0)) 0
theorem Yci (p0:List Tx) (hs:Dat.small 1048576 p0):CTs 39 [.o (.sl Tx instDatTx p0)] [Re.sl Tx instDatTx (Qj1 p0)]:=by
 refine en Tryz.func39 Tryz.ntmps39 fun w hG hgd=>?_
 obtain⟨hg_p0,_⟩:=hgd
 have hl_p0:p0.length≤9223372036854775807:=hg_p0.1
 have hM:=Qj1.eq_1 p0
 have hs0:p0.length≤1048576:=hs.1
 refine ad 8 ?_
 refine op (ma p0.length (Tx.mk 0 0 0 0 [] [] (Touch.mk [] []) [] 0) (ho:=gdz)) ?_
 refine ad 8 ?_
 refine Run.loopM (ι:=(List Tx)×Nat) (fun s=>Qfr p0 (p0.length - s.2) s.1 s.2) (fun s=>⟨23,2,[(0,.sl 0 p0.length),(3,.sl 1 s.1.length),(4,.v (.int .i64 (s.2:Int)))],[(0,.ros Tx instDatTx p0),(1,.own Tx instDatTx s.1)]⟩) (fun s=>s.2≤p0.length∧s.1.length=p0.length) (fun s=>p0.length - s.2) ((List.replicate p0.length (Tx.mk 0 0 0 0 [] [] (Touch.mk [] []) [] 0)),0) [0,1] [1,0] hM lv0 su (by decide) ?_
 rintro ⟨w1,i⟩ hv hE
 try dsimp only at hE
 obtain⟨hi,hv0⟩:=hv
 try dsimp only at hi hv0
 refine ad 8 ?_
 refine cd (fun h1=>?_) (fun h1=>?_)
 ·
  have h1l:i<p0.length:=by have:=of_decide_eq_true h1;omega
  have hM:=hE.trans ((congrArg (fun n=>Qfr p0 n w1 i) (show p0.length - i=(p0.length - (i+1))+1 by omega)).trans (Qfr.eq_2 _ _ _ _))
  refine ad 8 ?_
  have hg3:=Qat (k:=i) hg_p0 om
  refine op (ix (xs:=p0) i om) ?_
  refine ad 1 ?_
  have hg4:Dat.good (nth p0 i:Tx):=hg3
  refine og (clg (Ydo (nth p0 i) (by first | assumption | exact Qcf hs (by omega))) Yta) fun hgq=>?_
  obtain⟨hg5,_⟩:=hgq
  refine op (oi (xs:=w1) i om) ?_
  refine op (se (xs:=w1) i (Qi8 (nth p0 i)) hg5 om) ?_
  refine ad 5 ?_
  rw[Qd7 (i:=i) om]
  refine ad 2 ?_
  exact Run.again ((w1.set i (Qi8 (nth p0 i))),(i+1)) [0,13] [7,0] ⟨by first | omega | exact trivial | (dsimp only;omega) | (refine⟨by omega,?_⟩;simp_all;try omega),hM⟩ rfl lv1 su (by decide)
 ·
  have h1l: ¬ (i<p0.length):=by have:=of_decide_eq_false h1;omega
  have hM:=hE.trans ((congrArg (fun n=>Qfr p0 n w1 i) (show p0.length - i=0 by omega)).trans (Qfr.eq_1 _ _ _))
  refine ad 6 ?_
  exact rz (rs:=[.tmp 2]) (congrArg (fun x=>[Re.sl Tx instDatTx x]) hM)
def Qhb (p0:Slot):Slot:=(Slot.mk p0.Seq (Qgt p0.Cells) p0.Whole)
theorem Q8i (p0:Slot) (hs:Dat.small 1048576 p0):CTs 156 [.o (.st Slot _ inferInstance p0)] [Re.st Slot _ inferInstance (Qhb p0)]:=by
 refine en Tryz.func156 Tryz.ntmps156 fun w hG hgd=>?_
 obtain⟨hg_p0,_⟩:=hgd
 have hM:=Qhb.eq_1 p0
 have hs1:Dat.small 1048576 p0.Cells:=hs.2.1
 refine ad 20 ?_
 refine og (clg (Qod p0.Cells (by first | assumption | exact Qcf hs (by omega))) Ypn) fun hgq=>?_
 obtain⟨hg1,_⟩:=hgq
 refine ad 15 ?_
 have hg2:Dat.good (Slot.mk p0.Seq (Qgt p0.Cells) p0.Whole:Slot):=⟨hg_p0.1,hg1,hg_p0.2.2⟩
 exact rz (rs:=[.cell 2 108]) (congrArg (fun x=>[Re.st Slot _ inferInstance x]) hM)
def Qes (p0:List Slot):Nat→(List Slot)→Nat→(List Slot)
 | 0,w1,i=>w1
 | n+1,w1,i=>Qes p0 n (w1.set i (Qhb (nth p0 i))) (i+1)
def Qh5 (p0:List Slot):(List Slot):=Qes p0 (p0.length - 0) (List.replicate p0.length (Slot.mk 0 [] false)) 0
theorem Q1e (p0:List Slot) (hs:Dat.small 1048576 p0):CTs 85 [.o (.sl Slot instDatSlot p0)] [Re.sl Slot instDatSlot (Qh5 p0)]:=by
 refine en Tryz.func85 Tryz.ntmps85 fun w hG hgd=>?_
 obtain⟨hg_p0,_⟩:=hgd
 have hl_p0:p0.length≤9223372036854775807:=hg_p0.1
 have hM:=Qh5.eq_1 p0
 have hs0:p0.length≤1048576:=hs.1
 refine ad 8 ?_
 refine op (ma p0.length (Slot.mk 0 [] false) (ho:=gdz)) ?_
 refine ad 8 ?_
 refine Run.loopM (ι:=(List Slot)×Nat) (fun s=>Qes p0 (p0.length - s.2) s.1 s.2) (fun s=>⟨23,2,[(0,.sl 0 p0.length),(3,.sl 1 s.1.length),(4,.v (.int .i64 (s.2:Int)))],[(0,.ros Slot instDatSlot p0),(1,.own Slot instDatSlot s.1)]⟩) (fun s=>s.2≤p0.length∧s.1.length=p0.length) (fun s=>p0.length - s.2) ((List.replicate p0.length (Slot.mk 0 [] false)),0) [0,1] [1,0] hM lv0 su (by decide) ?_
 rintro ⟨w1,i⟩ hv hE
 try dsimp only at hE
 obtain⟨hi,hv0⟩:=hv
 try dsimp only at hi hv0
 refine ad 8 ?_
 refine cd (fun h1=>?_) (fun h1=>?_)
 ·
  have h1l:i<p0.length:=by have:=of_decide_eq_true h1;omega
  have hM:=hE.trans ((congrArg (fun n=>Qes p0 n w1 i) (show p0.length - i=(p0.length - (i+1))+1 by omega)).trans (Qes.eq_2 _ _ _ _))
  refine ad 8 ?_
  have hg3:=Qat (k:=i) hg_p0 om
  refine op (ix (xs:=p0) i om) ?_
  refine ad 1 ?_
  have hg4:Dat.good (nth p0 i:Slot):=hg3
  refine og (clg (Q8i (nth p0 i) (by first | assumption | exact Qcf hs (by omega))) Yqq) fun hgq=>?_
  obtain⟨hg5,_⟩:=hgq
  refine op (oi (xs:=w1) i om) ?_
  refine op (se (xs:=w1) i (Qhb (nth p0 i)) hg5 om) ?_
  refine ad 5 ?_
  rw[Qd7 (i:=i) om]
  refine ad 2 ?_
  exact Run.again ((w1.set i (Qhb (nth p0 i))),(i+1)) [0,5] [3,0] ⟨by first | omega | exact trivial | (dsimp only;omega) | (refine⟨by omega,?_⟩;simp_all;try omega),hM⟩ rfl lv1 su (by decide)
 ·
  have h1l: ¬ (i<p0.length):=by have:=of_decide_eq_false h1;omega
  have hM:=hE.trans ((congrArg (fun n=>Qes p0 n w1 i) (show p0.length - i=0 by omega)).trans (Qes.eq_1 _ _ _))
  refine ad 6 ?_
  exact rz (rs:=[.tmp 2]) (congrArg (fun x=>[Re.sl Slot instDatSlot x]) hM)
def Qg2 (p0:Journal):Journal:=p0
theorem Qye (p0:Journal):CTs 86 [.o (.st Journal _ inferInstance p0)] [Re.st Journal _ inferInstance (Qg2 p0)]:=by
 refine en Tryz.func86 Tryz.ntmps86 fun w hG hgd=>?_
 obtain⟨hg_p0,_⟩:=hgd
 have hM:=Qg2.eq_1 p0
 refine ad 28 ?_
 exact rz (rs:=[.cell 2 38]) (congrArg (fun x=>[Re.st Journal _ inferInstance x]) hM)
def Qiw (p0:Disk):Disk:=(Disk.mk (Qh5 p0.Slots) (Qg2 p0.Journal))
theorem Q8k (p0:Disk) (hs:Dat.small 1048576 p0):CTs 40 [.o (.st Disk _ inferInstance p0)] [Re.st Disk _ inferInstance (Qiw p0)]:=by
 refine en Tryz.func40 Tryz.ntmps40 fun w hG hgd=>?_
 obtain⟨hg_p0,_⟩:=hgd
 have hM:=Qiw.eq_1 p0
 have hs0:Dat.small 1048576 p0.Slots:=hs.1
 have hs1:Dat.small 1048576 p0.Journal:=hs.2
 refine ad 13 ?_
 refine og (clg (Q1e p0.Slots (by first | assumption | exact Qcf hs (by omega))) Ys9) fun hgq=>?_
 obtain⟨hg1,_⟩:=hgq
 refine ad 7 ?_
 have hg2:Dat.good (p0.Journal:Journal):=hg_p0.2
 refine og (clg (Qye p0.Journal) Ys8) fun hgq=>?_
 obtain⟨hg3,_⟩:=hgq
 refine ad 8 ?_
 have hg4:Dat.good (Disk.mk (Qh5 p0.Slots) (Qg2 p0.Journal):Disk):=⟨hg1,hg3⟩
 exact rz (rs:=[.cell 2 40]) (congrArg (fun x=>[Re.st Disk _ inferInstance x]) hM)
def Qha (p0:Step):Step:=(Step.mk p0.Proc (Qgl p0.Call))
theorem Q8h (p0:Step):CTs 214 [.o (.st Step _ inferInstance p0)] [Re.st Step _ inferInstance (Qha p0)]:=by
 refine en Tryz.func214 Tryz.ntmps214 fun w hG hgd=>?_
 obtain⟨hg_p0,_⟩:=hgd
 have hM:=Qha.eq_1 p0
 refine ad 20 ?_
 have hg1:Dat.good (p0.Call:Call):=hg_p0.2
 refine og (clg (Qqo p0.Call) Ymo) fun hgq=>?_
 obtain⟨hg2,_⟩:=hgq
 refine ad 8 ?_
 have hg3:Dat.good (Step.mk p0.Proc (Qgl p0.Call):Step):=⟨hg_p0.1,hg2⟩
 exact rz (rs:=[.cell 2 151]) (congrArg (fun x=>[Re.st Step _ inferInstance x]) hM)
def Qer (p0:List Step):Nat→(List Step)→Nat→(List Step)
 | 0,w1,i=>w1
 | n+1,w1,i=>Qer p0 n (w1.set i (Qha (nth p0 i))) (i+1)
def Qh4 (p0:List Step):(List Step):=Qer p0 (p0.length - 0) (List.replicate p0.length (Step.mk 0 (Call.mk 0 ⟨#[]⟩ ⟨#[]⟩ 0 0 ⟨#[]⟩))) 0
theorem Q1d (p0:List Step) (hs:Dat.small 1048576 p0):CTs 157 [.o (.sl Step instDatStep p0)] [Re.sl Step instDatStep (Qh4 p0)]:=by
 refine en Tryz.func157 Tryz.ntmps157 fun w hG hgd=>?_
 obtain⟨hg_p0,_⟩:=hgd
 have hl_p0:p0.length≤9223372036854775807:=hg_p0.1
 have hM:=Qh4.eq_1 p0
 have hs0:p0.length≤1048576:=hs.1
 refine ad 8 ?_
 refine op (ma p0.length (Step.mk 0 (Call.mk 0 ⟨#[]⟩ ⟨#[]⟩ 0 0 ⟨#[]⟩)) (ho:=gdz)) ?_
 refine ad 8 ?_
 refine Run.loopM (ι:=(List Step)×Nat) (fun s=>Qer p0 (p0.length - s.2) s.1 s.2) (fun s=>⟨23,2,[(0,.sl 0 p0.length),(3,.sl 1 s.1.length),(4,.v (.int .i64 (s.2:Int)))],[(0,.ros Step instDatStep p0),(1,.own Step instDatStep s.1)]⟩) (fun s=>s.2≤p0.length∧s.1.length=p0.length) (fun s=>p0.length - s.2) ((List.replicate p0.length (Step.mk 0 (Call.mk 0 ⟨#[]⟩ ⟨#[]⟩ 0 0 ⟨#[]⟩))),0) [0,1] [1,0] hM lv0 su (by decide) ?_
 rintro ⟨w1,i⟩ hv hE
 try dsimp only at hE
 obtain⟨hi,hv0⟩:=hv
 try dsimp only at hi hv0
 refine ad 8 ?_
 refine cd (fun h1=>?_) (fun h1=>?_)
 ·
  have h1l:i<p0.length:=by have:=of_decide_eq_true h1;omega
  have hM:=hE.trans ((congrArg (fun n=>Qer p0 n w1 i) (show p0.length - i=(p0.length - (i+1))+1 by omega)).trans (Qer.eq_2 _ _ _ _))
  refine ad 8 ?_
  have hg3:=Qat (k:=i) hg_p0 om
  refine op (ix (xs:=p0) i om) ?_
  refine ad 1 ?_
  have hg4:Dat.good (nth p0 i:Step):=hg3
  refine og (clg (Q8h (nth p0 i)) Yp6) fun hgq=>?_
  obtain⟨hg5,_⟩:=hgq
  refine op (oi (xs:=w1) i om) ?_
  refine op (se (xs:=w1) i (Qha (nth p0 i)) hg5 om) ?_
  refine ad 5 ?_
  rw[Qd7 (i:=i) om]
  refine ad 2 ?_
  exact Run.again ((w1.set i (Qha (nth p0 i))),(i+1)) [0,3] [2,0] ⟨by first | omega | exact trivial | (dsimp only;omega) | (refine⟨by omega,?_⟩;simp_all;try omega),hM⟩ rfl lv1 su (by decide)
 ·
  have h1l: ¬ (i<p0.length):=by have:=of_decide_eq_false h1;omega
  have hM:=hE.trans ((congrArg (fun n=>Qer p0 n w1 i) (show p0.length - i=0 by omega)).trans (Qer.eq_1 _ _ _))
  refine ad 6 ?_
  exact rz (rs:=[.tmp 2]) (congrArg (fun x=>[Re.sl Step instDatStep x]) hM)
def Qgs (p0:Entry):Entry:=(Entry.mk p0.Seq p0.Kind p0.Tx (Qh4 p0.Steps) (Qfw p0.Answers) p0.Began p0.Ended p0.Laid)
theorem Q1f (p0:Entry) (hs:Dat.small 1048576 p0):CTs 87 [.o (.st Entry _ inferInstance p0)] [Re.st Entry _ inferInstance (Qgs p0)]:=by
 refine en Tryz.func87 Tryz.ntmps87 fun w hG hgd=>?_
 obtain⟨hg_p0,_⟩:=hgd
 have hM:=Qgs.eq_1 p0
 have hs3:Dat.small 1048576 p0.Steps:=hs.2.2.2.1
 have hs4:Dat.small 1048576 p0.Answers:=hs.2.2.2.2.1
 refine ad 34 ?_
 refine og (clg (Q1d p0.Steps (by first | assumption | exact Qcf hs (by omega))) Yqp) fun hgq=>?_
 obtain⟨hg1,_⟩:=hgq
 refine ad 7 ?_
 refine og (clg (Qmj p0.Answers (by first | assumption | exact Qcf hs (by omega))) Ymx) fun hgq=>?_
 obtain⟨hg2,_⟩:=hgq
 refine ad 29 ?_
 have hg3:Dat.good (Entry.mk p0.Seq p0.Kind p0.Tx (Qh4 p0.Steps) (Qfw p0.Answers) p0.Began p0.Ended p0.Laid:Entry):=⟨hg_p0.1,hg_p0.2.1,hg_p0.2.2.1,hg1,hg2,hg_p0.2.2.2.2.2.1,hg_p0.2.2.2.2.2.2.1,hg_p0.2.2.2.2.2.2.2⟩
 exact rz (rs:=[.cell 2 80]) (congrArg (fun x=>[Re.st Entry _ inferInstance x]) hM)
def Qef (p0:List Entry):Nat→(List Entry)→Nat→(List Entry)
 | 0,w1,i=>w1
 | n+1,w1,i=>Qef p0 n (w1.set i (Qgs (nth p0 i))) (i+1)
def Qhn (p0:List Entry):(List Entry):=Qef p0 (p0.length - 0) (List.replicate p0.length (Entry.mk 0 0 0 [] [] 0 0 false)) 0
theorem Qz5 (p0:List Entry) (hs:Dat.small 1048576 p0):CTs 41 [.o (.sl Entry instDatEntry p0)] [Re.sl Entry instDatEntry (Qhn p0)]:=by
 refine en Tryz.func41 Tryz.ntmps41 fun w hG hgd=>?_
 obtain⟨hg_p0,_⟩:=hgd
 have hl_p0:p0.length≤9223372036854775807:=hg_p0.1
 have hM:=Qhn.eq_1 p0
 have hs0:p0.length≤1048576:=hs.1
 refine ad 8 ?_
 refine op (ma p0.length (Entry.mk 0 0 0 [] [] 0 0 false) (ho:=gdz)) ?_
 refine ad 8 ?_
 refine Run.loopM (ι:=(List Entry)×Nat) (fun s=>Qef p0 (p0.length - s.2) s.1 s.2) (fun s=>⟨23,2,[(0,.sl 0 p0.length),(3,.sl 1 s.1.length),(4,.v (.int .i64 (s.2:Int)))],[(0,.ros Entry instDatEntry p0),(1,.own Entry instDatEntry s.1)]⟩) (fun s=>s.2≤p0.length∧s.1.length=p0.length) (fun s=>p0.length - s.2) ((List.replicate p0.length (Entry.mk 0 0 0 [] [] 0 0 false)),0) [0,1] [1,0] hM lv0 su (by decide) ?_
 rintro ⟨w1,i⟩ hv hE
 try dsimp only at hE
 obtain⟨hi,hv0⟩:=hv
 try dsimp only at hi hv0
 refine ad 8 ?_
 refine cd (fun h1=>?_) (fun h1=>?_)
 ·
  have h1l:i<p0.length:=by have:=of_decide_eq_true h1;omega
  have hM:=hE.trans ((congrArg (fun n=>Qef p0 n w1 i) (show p0.length - i=(p0.length - (i+1))+1 by omega)).trans (Qef.eq_2 _ _ _ _))
  refine ad 8 ?_
  have hg3:=Qat (k:=i) hg_p0 om
  refine op (ix (xs:=p0) i om) ?_
  refine ad 1 ?_
  have hg4:Dat.good (nth p0 i:Entry):=hg3
  refine og (clg (Q1f (nth p0 i) (by first | assumption | exact Qcf hs (by omega))) Ys7) fun hgq=>?_
  obtain⟨hg5,_⟩:=hgq
  refine op (oi (xs:=w1) i om) ?_
  refine op (se (xs:=w1) i (Qgs (nth p0 i)) hg5 om) ?_
  refine ad 5 ?_
  rw[Qd7 (i:=i) om]
  refine ad 2 ?_
  exact Run.again ((w1.set i (Qgs (nth p0 i))),(i+1)) [0,7] [4,0] ⟨by first | omega | exact trivial | (dsimp only;omega) | (refine⟨by omega,?_⟩;simp_all;try omega),hM⟩ rfl lv1 su (by decide)
 ·
  have h1l: ¬ (i<p0.length):=by have:=of_decide_eq_false h1;omega
  have hM:=hE.trans ((congrArg (fun n=>Qef p0 n w1 i) (show p0.length - i=0 by omega)).trans (Qef.eq_1 _ _ _))
  refine ad 6 ?_
  exact rz (rs:=[.tmp 2]) (congrArg (fun x=>[Re.sl Entry instDatEntry x]) hM)
def Qaz (p0:Kernel):Kernel:=(Kernel.mk (Qgt p0.Store) (Qj1 p0.Txs) (Qiw p0.Disk) p0.Seq p0.Next p0.Time (Qhn p0.History) (Qep p0.Seen) p0.Room)
theorem Qim (p0:Kernel) (hs:Dat.small 1048576 p0):CTs 11 [.o (.st Kernel _ inferInstance p0)] [Re.st Kernel _ inferInstance (Qaz p0)]:=by
 refine en Tryz.func11 Tryz.ntmps11 fun w hG hgd=>?_
 obtain⟨hg_p0,_⟩:=hgd
 have hM:=Qaz.eq_1 p0
 have hs0:Dat.small 1048576 p0.Store:=hs.1
 have hs1:Dat.small 1048576 p0.Txs:=hs.2.1
 have hs2:Dat.small 1048576 p0.Disk:=hs.2.2.1
 have hs6:Dat.small 1048576 p0.History:=hs.2.2.2.2.2.2.1
 have hs7:Dat.small 1048576 p0.Seen:=hs.2.2.2.2.2.2.2.1
 refine ad 13 ?_
 refine og (clg (Qod p0.Store (by first | assumption | exact Qcf hs (by omega))) Ypn) fun hgq=>?_
 obtain⟨hg1,_⟩:=hgq
 refine ad 7 ?_
 refine og (clg (Yci p0.Txs (by first | assumption | exact Qcf hs (by omega))) Yt1) fun hgq=>?_
 obtain⟨hg2,_⟩:=hgq
 refine ad 7 ?_
 have hg3:Dat.good (p0.Disk:Disk):=hg_p0.2.2.1
 refine og (clg (Q8k p0.Disk (by first | assumption | exact Qcf hs (by omega))) Yt0) fun hgq=>?_
 obtain⟨hg4,_⟩:=hgq
 refine ad 28 ?_
 refine og (clg (Qz5 p0.History (by first | assumption | exact Qcf hs (by omega))) Ytz) fun hgq=>?_
 obtain⟨hg5,_⟩:=hgq
 refine ad 7 ?_
 refine og (clg (Qjn p0.Seen (by first | assumption | exact Qcf hs (by omega))) Ynv) fun hgq=>?_
 obtain⟨hg6,_⟩:=hgq
 refine ad 15 ?_
 have hg7:Dat.good (Kernel.mk (Qgt p0.Store) (Qj1 p0.Txs) (Qiw p0.Disk) p0.Seq p0.Next p0.Time (Qhn p0.History) (Qep p0.Seen) p0.Room:Kernel):=⟨hg1,hg2,hg4,hg_p0.2.2.2.1,hg_p0.2.2.2.2.1,hg_p0.2.2.2.2.2.1,hg5,hg6,hg_p0.2.2.2.2.2.2.2.2⟩
 exact rz (rs:=[.cell 2 43]) (congrArg (fun x=>[Re.st Kernel _ inferInstance x]) hM)
def Qiz (p0:Cell) (p1:Cell):Bool:=bif !decide (p0.Key=p1.Key) then false else(bif !decide (p0.Val=p1.Val) then false else true)
theorem Q8v (p0:Cell) (p1:Cell):CTs 94 [.o (.st Cell _ inferInstance p0),.o (.st Cell _ inferInstance p1)] [Re.c (.bool (Qiz p0 p1))]:=by
 refine en Tryz.func94 Tryz.ntmps94 fun w hG hgd=>?_
 obtain⟨hg_p0,hg_p1,_⟩:=hgd
 have hM:=Qiz.eq_1 p0 p1
 refine ad 15 ?_
 refine cd (fun h1=>?_) (fun h1=>?_)
 ·
  have hM:=hM.trans (bt h1)
  refine ad 4 ?_
  exact rz (rs:=[.tmp 4]) (congrArg (fun x=>[Re.c (.bool x)]) hM)
 ·
  have hM:=hM.trans (bf h1)
  refine ad 10 ?_
  refine cd (fun h2=>?_) (fun h2=>?_)
  ·
   have hM:=hM.trans (bt h2)
   refine ad 4 ?_
   exact rz (rs:=[.tmp 4]) (congrArg (fun x=>[Re.c (.bool x)]) hM)
  ·
   have hM:=hM.trans (bf h2)
   refine ad 5 ?_
   exact rz (rs:=[.tmp 4]) (congrArg (fun x=>[Re.c (.bool x)]) hM)
def Qe4 (p0:List Cell) (p1:List Cell):Nat→Nat→Bool
 | 0,i=>true
 | n+1,i=>bif !(Qiz (nth p0 i) (nth p1 i)) then false else(Qe4 p0 p1 n (i+1))
def Qh8 (p0:List Cell) (p1:List Cell):Bool:=bif !decide ((p0.length:Int)=(p1.length:Int)) then false else(Qe4 p0 p1 (p0.length - 0) 0)
theorem Qof (p0:List Cell) (p1:List Cell):CTs 45 [.o (.sl Cell instDatCell p0),.o (.sl Cell instDatCell p1)] [Re.c (.bool (Qh8 p0 p1))]:=by
 refine en Tryz.func45 Tryz.ntmps45 fun w hG hgd=>?_
 obtain⟨hg_p0,hg_p1,_⟩:=hgd
 have hl_p0:p0.length≤9223372036854775807:=hg_p0.1
 have hl_p1:p1.length≤9223372036854775807:=hg_p1.1
 have hM:=Qh8.eq_1 p0 p1
 refine ad 13 ?_
 refine cd (fun h1=>?_) (fun h1=>?_)
 ·
  have hM:=hM.trans (bt h1)
  refine ad 4 ?_
  exact rz (rs:=[.tmp 4]) (congrArg (fun x=>[Re.c (.bool x)]) hM)
 ·
  have hM:=hM.trans (bf h1)
  refine ad 7 ?_
  refine Run.loopM (ι:=Nat) (fun s=>Qe4 p0 p1 (p0.length - s) s) (fun s=>⟨27,2,[(0,.sl 0 p0.length),(1,.sl 1 p1.length),(5,.v (.int .i64 (s:Int)))],[(0,.ros Cell instDatCell p0),(1,.ros Cell instDatCell p1)]⟩) (fun s=>s≤p0.length) (fun s=>p0.length - s) 0 [0,1] [0,1] hM lv0 su (by decide) ?_
  rintro i hv hE
  try dsimp only at hE
  have hi:=hv
  try dsimp only at hi
  refine ad 8 ?_
  refine cd (fun h2=>?_) (fun h2=>?_)
  ·
   have h2l:i<p0.length:=by have:=of_decide_eq_true h2;omega
   have hM:=hE.trans ((congrArg (fun n=>Qe4 p0 p1 n i) (show p0.length - i=(p0.length - (i+1))+1 by omega)).trans (Qe4.eq_2 _ _ _ _))
   refine ad 4 ?_
   refine dr 10 fun _ _ _ _ _ hb=>?_
   refine tk [0,1] ?_
   have hg3:=Qat (k:=i) hg_p0 om
   refine tx 2 (dx (xs:=p0) i om) ?_
   refine tk [3,4,5] ?_
   have hg4:=Qat (k:=i) hg_p1 om
   refine tx 6 (dx (xs:=p1) i om) ?_
   refine tk [7] ?_
   have hg5:Dat.good (nth p0 i:Cell):=hg3
   have hg6:Dat.good (nth p1 i:Cell):=hg4
   refine on 8 [2,3] (cl (Q8v (nth p0 i) (nth p1 i)) Ys4) ?_
   refine tk [9] ?_
   refine dn hb ?_
   refine cd (fun h7=>?_) (fun h7=>?_)
   ·
    have hM:=hM.trans (bt h7)
    refine ad 4 ?_
    exact rz (rs:=[.tmp 4]) (congrArg (fun x=>[Re.c (.bool x)]) hM)
   ·
    have hM:=hM.trans (bf h7)
    refine ad 5 ?_
    rw[Qd7 (i:=i) om]
    refine ad 2 ?_
    exact Run.again (i+1) [0,1] [2,3] ⟨by first | omega | exact trivial | (dsimp only;omega) | (refine⟨by omega,?_⟩;simp_all;try omega),hM⟩ rfl lv1 su (by decide)
  ·
   have h2l: ¬ (i<p0.length):=by have:=of_decide_eq_false h2;omega
   have hM:=hE.trans ((congrArg (fun n=>Qe4 p0 p1 n i) (show p0.length - i=0 by omega)).trans (Qe4.eq_1 _ _ _))
   refine ad 5 ?_
   exact rz (rs:=[.tmp 4]) (congrArg (fun x=>[Re.c (.bool x)]) hM)
def Qh0 (p0:Call) (p1:Call):Bool:=bif !decide (p0.Kind=p1.Kind) then false else(bif !decide (p0.Name=p1.Name) then false else(bif !decide (p0.To=p1.To) then false else(bif !decide (p0.A=p1.A) then false else(bif !decide (p0.B=p1.B) then false else(bif !decide (p0.Text=p1.Text) then false else true)))))
theorem Qqr (p0:Call) (p1:Call):CTs 223 [.o (.st Call _ inferInstance p0),.o (.st Call _ inferInstance p1)] [Re.c (.bool (Qh0 p0 p1))]:=by
 refine en Tryz.func223 Tryz.ntmps223 fun w hG hgd=>?_
 obtain⟨hg_p0,hg_p1,_⟩:=hgd
 have hM:=Qh0.eq_1 p0 p1
 refine ad 15 ?_
 refine cd (fun h1=>?_) (fun h1=>?_)
 ·
  have hM:=hM.trans (bt h1)
  refine ad 4 ?_
  exact rz (rs:=[.tmp 4]) (congrArg (fun x=>[Re.c (.bool x)]) hM)
 ·
  have hM:=hM.trans (bf h1)
  refine ad 10 ?_
  refine cd (fun h2=>?_) (fun h2=>?_)
  ·
   have hM:=hM.trans (bt h2)
   refine ad 4 ?_
   exact rz (rs:=[.tmp 4]) (congrArg (fun x=>[Re.c (.bool x)]) hM)
  ·
   have hM:=hM.trans (bf h2)
   refine ad 10 ?_
   refine cd (fun h3=>?_) (fun h3=>?_)
   ·
    have hM:=hM.trans (bt h3)
    refine ad 4 ?_
    exact rz (rs:=[.tmp 4]) (congrArg (fun x=>[Re.c (.bool x)]) hM)
   ·
    have hM:=hM.trans (bf h3)
    refine ad 10 ?_
    refine cd (fun h4=>?_) (fun h4=>?_)
    ·
     have hM:=hM.trans (bt h4)
     refine ad 4 ?_
     exact rz (rs:=[.tmp 4]) (congrArg (fun x=>[Re.c (.bool x)]) hM)
    ·
     have hM:=hM.trans (bf h4)
     refine ad 10 ?_
     refine cd (fun h5=>?_) (fun h5=>?_)
     ·
      have hM:=hM.trans (bt h5)
      refine ad 4 ?_
      exact rz (rs:=[.tmp 4]) (congrArg (fun x=>[Re.c (.bool x)]) hM)
     ·
      have hM:=hM.trans (bf h5)
      refine ad 10 ?_
      refine cd (fun h6=>?_) (fun h6=>?_)
      ·
       have hM:=hM.trans (bt h6)
       refine ad 4 ?_
       exact rz (rs:=[.tmp 4]) (congrArg (fun x=>[Re.c (.bool x)]) hM)
      ·
       have hM:=hM.trans (bf h6)
       refine ad 5 ?_
       exact rz (rs:=[.tmp 4]) (congrArg (fun x=>[Re.c (.bool x)]) hM)
def Qe5 (p0:List Call) (p1:List Call):Nat→Nat→Bool
 | 0,i=>true
 | n+1,i=>bif !(Qh0 (nth p0 i) (nth p1 i)) then false else(Qe5 p0 p1 n (i+1))
def Qjc (p0:List Call) (p1:List Call):Bool:=bif !decide ((p0.length:Int)=(p1.length:Int)) then false else(Qe5 p0 p1 (p0.length - 0) 0)
theorem Q1r (p0:List Call) (p1:List Call):CTs 169 [.o (.sl Call instDatCall p0),.o (.sl Call instDatCall p1)] [Re.c (.bool (Qjc p0 p1))]:=by
 refine en Tryz.func169 Tryz.ntmps169 fun w hG hgd=>?_
 obtain⟨hg_p0,hg_p1,_⟩:=hgd
 have hl_p0:p0.length≤9223372036854775807:=hg_p0.1
 have hl_p1:p1.length≤9223372036854775807:=hg_p1.1
 have hM:=Qjc.eq_1 p0 p1
 refine ad 13 ?_
 refine cd (fun h1=>?_) (fun h1=>?_)
 ·
  have hM:=hM.trans (bt h1)
  refine ad 4 ?_
  exact rz (rs:=[.tmp 4]) (congrArg (fun x=>[Re.c (.bool x)]) hM)
 ·
  have hM:=hM.trans (bf h1)
  refine ad 7 ?_
  refine Run.loopM (ι:=Nat) (fun s=>Qe5 p0 p1 (p0.length - s) s) (fun s=>⟨27,2,[(0,.sl 0 p0.length),(1,.sl 1 p1.length),(5,.v (.int .i64 (s:Int)))],[(0,.ros Call instDatCall p0),(1,.ros Call instDatCall p1)]⟩) (fun s=>s≤p0.length) (fun s=>p0.length - s) 0 [0,1] [0,1] hM lv0 su (by decide) ?_
  rintro i hv hE
  try dsimp only at hE
  have hi:=hv
  try dsimp only at hi
  refine ad 8 ?_
  refine cd (fun h2=>?_) (fun h2=>?_)
  ·
   have h2l:i<p0.length:=by have:=of_decide_eq_true h2;omega
   have hM:=hE.trans ((congrArg (fun n=>Qe5 p0 p1 n i) (show p0.length - i=(p0.length - (i+1))+1 by omega)).trans (Qe5.eq_2 _ _ _ _))
   refine ad 4 ?_
   refine dr 10 fun _ _ _ _ _ hb=>?_
   refine tk [0,1] ?_
   have hg3:=Qat (k:=i) hg_p0 om
   refine tx 2 (dx (xs:=p0) i om) ?_
   refine tk [3,4,5] ?_
   have hg4:=Qat (k:=i) hg_p1 om
   refine tx 6 (dx (xs:=p1) i om) ?_
   refine tk [7] ?_
   have hg5:Dat.good (nth p0 i:Call):=hg3
   have hg6:Dat.good (nth p1 i:Call):=hg4
   refine on 8 [2,3] (cl (Qqr (nth p0 i) (nth p1 i)) Ymn) ?_
   refine tk [9] ?_
   refine dn hb ?_
   refine cd (fun h7=>?_) (fun h7=>?_)
   ·
    have hM:=hM.trans (bt h7)
    refine ad 4 ?_
    exact rz (rs:=[.tmp 4]) (congrArg (fun x=>[Re.c (.bool x)]) hM)
   ·
    have hM:=hM.trans (bf h7)
    refine ad 5 ?_
    rw[Qd7 (i:=i) om]
    refine ad 2 ?_
    exact Run.again (i+1) [0,1] [2,3] ⟨by first | omega | exact trivial | (dsimp only;omega) | (refine⟨by omega,?_⟩;simp_all;try omega),hM⟩ rfl lv1 su (by decide)
  ·
   have h2l: ¬ (i<p0.length):=by have:=of_decide_eq_false h2;omega
   have hM:=hE.trans ((congrArg (fun n=>Qe5 p0 p1 n i) (show p0.length - i=0 by omega)).trans (Qe5.eq_1 _ _ _))
   refine ad 5 ?_
   exact rz (rs:=[.tmp 4]) (congrArg (fun x=>[Re.c (.bool x)]) hM)
def Qhp (p0:Answer) (p1:Answer):Bool:=bif !decide (p0.Code=p1.Code) then false else(bif !decide (p0.N=p1.N) then false else(bif !decide (p0.Text=p1.Text) then false else true))
theorem Q0d (p0:Answer) (p1:Answer):CTs 184 [.o (.st Answer _ inferInstance p0),.o (.st Answer _ inferInstance p1)] [Re.c (.bool (Qhp p0 p1))]:=by
 refine en Tryz.func184 Tryz.ntmps184 fun w hG hgd=>?_
 obtain⟨hg_p0,hg_p1,_⟩:=hgd
 have hM:=Qhp.eq_1 p0 p1
 refine ad 15 ?_
 refine cd (fun h1=>?_) (fun h1=>?_)
 ·
  have hM:=hM.trans (bt h1)
  refine ad 4 ?_
  exact rz (rs:=[.tmp 4]) (congrArg (fun x=>[Re.c (.bool x)]) hM)
 ·
  have hM:=hM.trans (bf h1)
  refine ad 10 ?_
  refine cd (fun h2=>?_) (fun h2=>?_)
  ·
   have hM:=hM.trans (bt h2)
   refine ad 4 ?_
   exact rz (rs:=[.tmp 4]) (congrArg (fun x=>[Re.c (.bool x)]) hM)
  ·
   have hM:=hM.trans (bf h2)
   refine ad 10 ?_
   refine cd (fun h3=>?_) (fun h3=>?_)
   ·
    have hM:=hM.trans (bt h3)
    refine ad 4 ?_
    exact rz (rs:=[.tmp 4]) (congrArg (fun x=>[Re.c (.bool x)]) hM)
   ·
    have hM:=hM.trans (bf h3)
    refine ad 5 ?_
    exact rz (rs:=[.tmp 4]) (congrArg (fun x=>[Re.c (.bool x)]) hM)
def Qd2 (p0:List Answer) (p1:List Answer):Nat→Nat→Bool
 | 0,i=>true
 | n+1,i=>bif !(Qhp (nth p0 i) (nth p1 i)) then false else(Qd2 p0 p1 n (i+1))
def Qg3 (p0:List Answer) (p1:List Answer):Bool:=bif !decide ((p0.length:Int)=(p1.length:Int)) then false else(Qd2 p0 p1 (p0.length - 0) 0)
theorem Qmm (p0:List Answer) (p1:List Answer):CTs 123 [.o (.sl Answer instDatAnswer p0),.o (.sl Answer instDatAnswer p1)] [Re.c (.bool (Qg3 p0 p1))]:=by
 refine en Tryz.func123 Tryz.ntmps123 fun w hG hgd=>?_
 obtain⟨hg_p0,hg_p1,_⟩:=hgd
 have hl_p0:p0.length≤9223372036854775807:=hg_p0.1
 have hl_p1:p1.length≤9223372036854775807:=hg_p1.1
 have hM:=Qg3.eq_1 p0 p1
 refine ad 13 ?_
 refine cd (fun h1=>?_) (fun h1=>?_)
 ·
  have hM:=hM.trans (bt h1)
  refine ad 4 ?_
  exact rz (rs:=[.tmp 4]) (congrArg (fun x=>[Re.c (.bool x)]) hM)
 ·
  have hM:=hM.trans (bf h1)
  refine ad 7 ?_
  refine Run.loopM (ι:=Nat) (fun s=>Qd2 p0 p1 (p0.length - s) s) (fun s=>⟨27,2,[(0,.sl 0 p0.length),(1,.sl 1 p1.length),(5,.v (.int .i64 (s:Int)))],[(0,.ros Answer instDatAnswer p0),(1,.ros Answer instDatAnswer p1)]⟩) (fun s=>s≤p0.length) (fun s=>p0.length - s) 0 [0,1] [0,1] hM lv0 su (by decide) ?_
  rintro i hv hE
  try dsimp only at hE
  have hi:=hv
  try dsimp only at hi
  refine ad 8 ?_
  refine cd (fun h2=>?_) (fun h2=>?_)
  ·
   have h2l:i<p0.length:=by have:=of_decide_eq_true h2;omega
   have hM:=hE.trans ((congrArg (fun n=>Qd2 p0 p1 n i) (show p0.length - i=(p0.length - (i+1))+1 by omega)).trans (Qd2.eq_2 _ _ _ _))
   refine ad 4 ?_
   refine dr 10 fun _ _ _ _ _ hb=>?_
   refine tk [0,1] ?_
   have hg3:=Qat (k:=i) hg_p0 om
   refine tx 2 (dx (xs:=p0) i om) ?_
   refine tk [3,4,5] ?_
   have hg4:=Qat (k:=i) hg_p1 om
   refine tx 6 (dx (xs:=p1) i om) ?_
   refine tk [7] ?_
   have hg5:Dat.good (nth p0 i:Answer):=hg3
   have hg6:Dat.good (nth p1 i:Answer):=hg4
   refine on 8 [2,3] (cl (Q0d (nth p0 i) (nth p1 i)) Yqb) ?_
   refine tk [9] ?_
   refine dn hb ?_
   refine cd (fun h7=>?_) (fun h7=>?_)
   ·
    have hM:=hM.trans (bt h7)
    refine ad 4 ?_
    exact rz (rs:=[.tmp 4]) (congrArg (fun x=>[Re.c (.bool x)]) hM)
   ·
    have hM:=hM.trans (bf h7)
    refine ad 5 ?_
    rw[Qd7 (i:=i) om]
    refine ad 2 ?_
    exact Run.again (i+1) [0,1] [2,3] ⟨by first | omega | exact trivial | (dsimp only;omega) | (refine⟨by omega,?_⟩;simp_all;try omega),hM⟩ rfl lv1 su (by decide)
  ·
   have h2l: ¬ (i<p0.length):=by have:=of_decide_eq_false h2;omega
   have hM:=hE.trans ((congrArg (fun n=>Qd2 p0 p1 n i) (show p0.length - i=0 by omega)).trans (Qd2.eq_1 _ _ _))
   refine ad 5 ?_
   exact rz (rs:=[.tmp 4]) (congrArg (fun x=>[Re.c (.bool x)]) hM)
def Qd1 (p0:List ByteArray) (p1:List ByteArray):Nat→Nat→Bool
 | 0,i=>true
 | n+1,i=>bif !decide ((nth p0 i)=(nth p1 i)) then false else(Qd1 p0 p1 n (i+1))
def Qgm (p0:List ByteArray) (p1:List ByteArray):Bool:=bif !decide ((p0.length:Int)=(p1.length:Int)) then false else(Qd1 p0 p1 (p0.length - 0) 0)
theorem Qjp (p0:List ByteArray) (p1:List ByteArray):CTs 18 [.o (.sl ByteArray instDatByteArray p0),.o (.sl ByteArray instDatByteArray p1)] [Re.c (.bool (Qgm p0 p1))]:=by
 refine en Tryz.func18 Tryz.ntmps18 fun w hG hgd=>?_
 obtain⟨hg_p0,hg_p1,_⟩:=hgd
 have hl_p0:p0.length≤9223372036854775807:=hg_p0.1
 have hl_p1:p1.length≤9223372036854775807:=hg_p1.1
 have hM:=Qgm.eq_1 p0 p1
 refine ad 13 ?_
 refine cd (fun h1=>?_) (fun h1=>?_)
 ·
  have hM:=hM.trans (bt h1)
  refine ad 4 ?_
  exact rz (rs:=[.tmp 4]) (congrArg (fun x=>[Re.c (.bool x)]) hM)
 ·
  have hM:=hM.trans (bf h1)
  refine ad 7 ?_
  refine Run.loopM (ι:=Nat) (fun s=>Qd1 p0 p1 (p0.length - s) s) (fun s=>⟨26,2,[(0,.sl 0 p0.length),(1,.sl 1 p1.length),(5,.v (.int .i64 (s:Int)))],[(0,.ros ByteArray instDatByteArray p0),(1,.ros ByteArray instDatByteArray p1)]⟩) (fun s=>s≤p0.length) (fun s=>p0.length - s) 0 [0,1] [0,1] hM lv0 su (by decide) ?_
  rintro i hv hE
  try dsimp only at hE
  have hi:=hv
  try dsimp only at hi
  refine ad 8 ?_
  refine cd (fun h2=>?_) (fun h2=>?_)
  ·
   have h2l:i<p0.length:=by have:=of_decide_eq_true h2;omega
   have hM:=hE.trans ((congrArg (fun n=>Qd1 p0 p1 n i) (show p0.length - i=(p0.length - (i+1))+1 by omega)).trans (Qd1.eq_2 _ _ _ _))
   refine ad 4 ?_
   refine dr 9 fun _ _ _ _ _ hb=>?_
   refine tk [0,1] ?_
   have hg3:=Qat (k:=i) hg_p0 om
   refine tx 2 (dx (xs:=p0) i om) ?_
   refine tk [3,4,5] ?_
   have hg4:=Qat (k:=i) hg_p1 om
   refine tx 6 (dx (xs:=p1) i om) ?_
   refine tk [7,8] ?_
   refine dn hb ?_
   refine cd (fun h5=>?_) (fun h5=>?_)
   ·
    have hM:=hM.trans (bt h5)
    refine ad 4 ?_
    exact rz (rs:=[.tmp 4]) (congrArg (fun x=>[Re.c (.bool x)]) hM)
   ·
    have hM:=hM.trans (bf h5)
    refine ad 5 ?_
    rw[Qd7 (i:=i) om]
    refine ad 2 ?_
    exact Run.again (i+1) [0,1] [2,3] ⟨by first | omega | exact trivial | (dsimp only;omega) | (refine⟨by omega,?_⟩;simp_all;try omega),hM⟩ rfl lv1 su (by decide)
  ·
   have h2l: ¬ (i<p0.length):=by have:=of_decide_eq_false h2;omega
   have hM:=hE.trans ((congrArg (fun n=>Qd1 p0 p1 n i) (show p0.length - i=0 by omega)).trans (Qd1.eq_1 _ _ _))
   refine ad 5 ?_
   exact rz (rs:=[.tmp 4]) (congrArg (fun x=>[Re.c (.bool x)]) hM)
def Qi9 (p0:Touch) (p1:Touch):Bool:=bif !(Qgm p0.Reads p1.Reads) then false else(bif !(Qgm p0.Writes p1.Writes) then false else true)
theorem Q1n (p0:Touch) (p1:Touch):CTs 170 [.o (.st Touch _ inferInstance p0),.o (.st Touch _ inferInstance p1)] [Re.c (.bool (Qi9 p0 p1))]:=by
 refine en Tryz.func170 Tryz.ntmps170 fun w hG hgd=>?_
 obtain⟨hg_p0,hg_p1,_⟩:=hgd
 have hM:=Qi9.eq_1 p0 p1
 refine ad 13 ?_
 refine op (cl (Qjp p0.Reads p1.Reads) Ynx) ?_
 refine ad 2 ?_
 refine cd (fun h1=>?_) (fun h1=>?_)
 ·
  have hM:=hM.trans (bt h1)
  refine ad 4 ?_
  exact rz (rs:=[.tmp 4]) (congrArg (fun x=>[Re.c (.bool x)]) hM)
 ·
  have hM:=hM.trans (bf h1)
  refine ad 8 ?_
  refine op (cl (Qjp p0.Writes p1.Writes) Ynx) ?_
  refine ad 2 ?_
  refine cd (fun h2=>?_) (fun h2=>?_)
  ·
   have hM:=hM.trans (bt h2)
   refine ad 4 ?_
   exact rz (rs:=[.tmp 4]) (congrArg (fun x=>[Re.c (.bool x)]) hM)
  ·
   have hM:=hM.trans (bf h2)
   refine ad 5 ?_
   exact rz (rs:=[.tmp 4]) (congrArg (fun x=>[Re.c (.bool x)]) hM)
def Qfe (p0:List Int) (p1:List Int):Nat→Nat→Bool
 | 0,i=>true
 | n+1,i=>bif !decide ((nth p0 i)=(nth p1 i)) then false else(Qfe p0 p1 n (i+1))
def Qkb (p0:List Int) (p1:List Int):Bool:=bif !decide ((p0.length:Int)=(p1.length:Int)) then false else(Qfe p0 p1 (p0.length - 0) 0)
theorem Q8t (p0:List Int) (p1:List Int):CTs 171 [.o (.sl Int instDatInt p0),.o (.sl Int instDatInt p1)] [Re.c (.bool (Qkb p0 p1))]:=by
 refine en Tryz.func171 Tryz.ntmps171 fun w hG hgd=>?_
 obtain⟨hg_p0,hg_p1,_⟩:=hgd
 have hl_p0:p0.length≤9223372036854775807:=hg_p0.1
 have hl_p1:p1.length≤9223372036854775807:=hg_p1.1
 have hM:=Qkb.eq_1 p0 p1
 refine ad 13 ?_
 refine cd (fun h1=>?_) (fun h1=>?_)
 ·
  have hM:=hM.trans (bt h1)
  refine ad 4 ?_
  exact rz (rs:=[.tmp 4]) (congrArg (fun x=>[Re.c (.bool x)]) hM)
 ·
  have hM:=hM.trans (bf h1)
  refine ad 7 ?_
  refine Run.loopM (ι:=Nat) (fun s=>Qfe p0 p1 (p0.length - s) s) (fun s=>⟨26,2,[(0,.sl 0 p0.length),(1,.sl 1 p1.length),(5,.v (.int .i64 (s:Int)))],[(0,.ros Int instDatInt p0),(1,.ros Int instDatInt p1)]⟩) (fun s=>s≤p0.length) (fun s=>p0.length - s) 0 [0,1] [0,1] hM lv0 su (by decide) ?_
  rintro i hv hE
  try dsimp only at hE
  have hi:=hv
  try dsimp only at hi
  refine ad 8 ?_
  refine cd (fun h2=>?_) (fun h2=>?_)
  ·
   have h2l:i<p0.length:=by have:=of_decide_eq_true h2;omega
   have hM:=hE.trans ((congrArg (fun n=>Qfe p0 p1 n i) (show p0.length - i=(p0.length - (i+1))+1 by omega)).trans (Qfe.eq_2 _ _ _ _))
   refine ad 4 ?_
   refine dr 9 fun _ _ _ _ _ hb=>?_
   refine tk [0,1] ?_
   have hg3:=Qat (k:=i) hg_p0 om
   refine tx 2 (dx (xs:=p0) i om) ?_
   refine tk [3,4,5] ?_
   have hg4:=Qat (k:=i) hg_p1 om
   refine tx 6 (dx (xs:=p1) i om) ?_
   refine tk [7,8] ?_
   refine dn hb ?_
   refine cd (fun h5=>?_) (fun h5=>?_)
   ·
    have hM:=hM.trans (bt h5)
    refine ad 4 ?_
    exact rz (rs:=[.tmp 4]) (congrArg (fun x=>[Re.c (.bool x)]) hM)
   ·
    have hM:=hM.trans (bf h5)
    refine ad 5 ?_
    rw[Qd7 (i:=i) om]
    refine ad 2 ?_
    exact Run.again (i+1) [0,1] [2,3] ⟨by first | omega | exact trivial | (dsimp only;omega) | (refine⟨by omega,?_⟩;simp_all;try omega),hM⟩ rfl lv1 su (by decide)
  ·
   have h2l: ¬ (i<p0.length):=by have:=of_decide_eq_false h2;omega
   have hM:=hE.trans ((congrArg (fun n=>Qfe p0 p1 n i) (show p0.length - i=0 by omega)).trans (Qfe.eq_1 _ _ _))
   refine ad 5 ?_
   exact rz (rs:=[.tmp 4]) (congrArg (fun x=>[Re.c (.bool x)]) hM)
def Qlp (p0:Tx) (p1:Tx):Bool:=bif !decide (p0.Id=p1.Id) then false else(bif !decide (p0.Age=p1.Age) then false else(bif !decide (p0.Proc=p1.Proc) then false else(bif !decide (p0.Began=p1.Began) then false else(bif !(Qjc p0.Calls p1.Calls) then false else(bif !(Qg3 p0.Answers p1.Answers) then false else(bif !(Qi9 p0.Touch p1.Touch) then false else(bif !(Qkb p0.Marks p1.Marks) then false else(bif !decide (p0.State=p1.State) then false else true))))))))
theorem Ydq (p0:Tx) (p1:Tx):CTs 95 [.o (.st Tx _ inferInstance p0),.o (.st Tx _ inferInstance p1)] [Re.c (.bool (Qlp p0 p1))]:=by
 refine en Tryz.func95 Tryz.ntmps95 fun w hG hgd=>?_
 obtain⟨hg_p0,hg_p1,_⟩:=hgd
 have hM:=Qlp.eq_1 p0 p1
 refine ad 15 ?_
 refine cd (fun h1=>?_) (fun h1=>?_)
 ·
  have hM:=hM.trans (bt h1)
  refine ad 4 ?_
  exact rz (rs:=[.tmp 4]) (congrArg (fun x=>[Re.c (.bool x)]) hM)
 ·
  have hM:=hM.trans (bf h1)
  refine ad 10 ?_
  refine cd (fun h2=>?_) (fun h2=>?_)
  ·
   have hM:=hM.trans (bt h2)
   refine ad 4 ?_
   exact rz (rs:=[.tmp 4]) (congrArg (fun x=>[Re.c (.bool x)]) hM)
  ·
   have hM:=hM.trans (bf h2)
   refine ad 10 ?_
   refine cd (fun h3=>?_) (fun h3=>?_)
   ·
    have hM:=hM.trans (bt h3)
    refine ad 4 ?_
    exact rz (rs:=[.tmp 4]) (congrArg (fun x=>[Re.c (.bool x)]) hM)
   ·
    have hM:=hM.trans (bf h3)
    refine ad 10 ?_
    refine cd (fun h4=>?_) (fun h4=>?_)
    ·
     have hM:=hM.trans (bt h4)
     refine ad 4 ?_
     exact rz (rs:=[.tmp 4]) (congrArg (fun x=>[Re.c (.bool x)]) hM)
    ·
     have hM:=hM.trans (bf h4)
     refine ad 8 ?_
     refine op (cl (Q1r p0.Calls p1.Calls) Yqi) ?_
     refine ad 2 ?_
     refine cd (fun h5=>?_) (fun h5=>?_)
     ·
      have hM:=hM.trans (bt h5)
      refine ad 4 ?_
      exact rz (rs:=[.tmp 4]) (congrArg (fun x=>[Re.c (.bool x)]) hM)
     ·
      have hM:=hM.trans (bf h5)
      refine ad 8 ?_
      refine op (cl (Qmm p0.Answers p1.Answers) Ym0) ?_
      refine ad 2 ?_
      refine cd (fun h6=>?_) (fun h6=>?_)
      ·
       have hM:=hM.trans (bt h6)
       refine ad 4 ?_
       exact rz (rs:=[.tmp 4]) (congrArg (fun x=>[Re.c (.bool x)]) hM)
      ·
       have hM:=hM.trans (bf h6)
       refine ad 8 ?_
       have hg7:Dat.good (p0.Touch:Touch):=hg_p0.2.2.2.2.2.2.1
       have hg8:Dat.good (p1.Touch:Touch):=hg_p1.2.2.2.2.2.2.1
       refine op (cl (Q1n p0.Touch p1.Touch) Yqh) ?_
       refine ad 2 ?_
       refine cd (fun h9=>?_) (fun h9=>?_)
       ·
        have hM:=hM.trans (bt h9)
        refine ad 4 ?_
        exact rz (rs:=[.tmp 4]) (congrArg (fun x=>[Re.c (.bool x)]) hM)
       ·
        have hM:=hM.trans (bf h9)
        refine ad 8 ?_
        refine op (cl (Q8t p0.Marks p1.Marks) Yqg) ?_
        refine ad 2 ?_
        refine cd (fun h10=>?_) (fun h10=>?_)
        ·
         have hM:=hM.trans (bt h10)
         refine ad 4 ?_
         exact rz (rs:=[.tmp 4]) (congrArg (fun x=>[Re.c (.bool x)]) hM)
        ·
         have hM:=hM.trans (bf h10)
         refine ad 10 ?_
         refine cd (fun h11=>?_) (fun h11=>?_)
         ·
          have hM:=hM.trans (bt h11)
          refine ad 4 ?_
          exact rz (rs:=[.tmp 4]) (congrArg (fun x=>[Re.c (.bool x)]) hM)
         ·
          have hM:=hM.trans (bf h11)
          refine ad 5 ?_
          exact rz (rs:=[.tmp 4]) (congrArg (fun x=>[Re.c (.bool x)]) hM)
def Qft (p0:List Tx) (p1:List Tx):Nat→Nat→Bool
 | 0,i=>true
 | n+1,i=>bif !(Qlp (nth p0 i) (nth p1 i)) then false else(Qft p0 p1 n (i+1))
def Qlo (p0:List Tx) (p1:List Tx):Bool:=bif !decide ((p0.length:Int)=(p1.length:Int)) then false else(Qft p0 p1 (p0.length - 0) 0)
theorem Yck (p0:List Tx) (p1:List Tx):CTs 46 [.o (.sl Tx instDatTx p0),.o (.sl Tx instDatTx p1)] [Re.c (.bool (Qlo p0 p1))]:=by
 refine en Tryz.func46 Tryz.ntmps46 fun w hG hgd=>?_
 obtain⟨hg_p0,hg_p1,_⟩:=hgd
 have hl_p0:p0.length≤9223372036854775807:=hg_p0.1
 have hl_p1:p1.length≤9223372036854775807:=hg_p1.1
 have hM:=Qlo.eq_1 p0 p1
 refine ad 13 ?_
 refine cd (fun h1=>?_) (fun h1=>?_)
 ·
  have hM:=hM.trans (bt h1)
  refine ad 4 ?_
  exact rz (rs:=[.tmp 4]) (congrArg (fun x=>[Re.c (.bool x)]) hM)
 ·
  have hM:=hM.trans (bf h1)
  refine ad 7 ?_
  refine Run.loopM (ι:=Nat) (fun s=>Qft p0 p1 (p0.length - s) s) (fun s=>⟨27,2,[(0,.sl 0 p0.length),(1,.sl 1 p1.length),(5,.v (.int .i64 (s:Int)))],[(0,.ros Tx instDatTx p0),(1,.ros Tx instDatTx p1)]⟩) (fun s=>s≤p0.length) (fun s=>p0.length - s) 0 [0,1] [0,1] hM lv0 su (by decide) ?_
  rintro i hv hE
  try dsimp only at hE
  have hi:=hv
  try dsimp only at hi
  refine ad 8 ?_
  refine cd (fun h2=>?_) (fun h2=>?_)
  ·
   have h2l:i<p0.length:=by have:=of_decide_eq_true h2;omega
   have hM:=hE.trans ((congrArg (fun n=>Qft p0 p1 n i) (show p0.length - i=(p0.length - (i+1))+1 by omega)).trans (Qft.eq_2 _ _ _ _))
   refine ad 4 ?_
   refine dr 10 fun _ _ _ _ _ hb=>?_
   refine tk [0,1] ?_
   have hg3:=Qat (k:=i) hg_p0 om
   refine tx 2 (dx (xs:=p0) i om) ?_
   refine tk [3,4,5] ?_
   have hg4:=Qat (k:=i) hg_p1 om
   refine tx 6 (dx (xs:=p1) i om) ?_
   refine tk [7] ?_
   have hg5:Dat.good (nth p0 i:Tx):=hg3
   have hg6:Dat.good (nth p1 i:Tx):=hg4
   refine on 8 [12,13] (cl (Ydq (nth p0 i) (nth p1 i)) Ys3) ?_
   refine tk [9] ?_
   refine dn hb ?_
   refine cd (fun h7=>?_) (fun h7=>?_)
   ·
    have hM:=hM.trans (bt h7)
    refine ad 4 ?_
    exact rz (rs:=[.tmp 4]) (congrArg (fun x=>[Re.c (.bool x)]) hM)
   ·
    have hM:=hM.trans (bf h7)
    refine ad 5 ?_
    rw[Qd7 (i:=i) om]
    refine ad 2 ?_
    exact Run.again (i+1) [0,1] [12,13] ⟨by first | omega | exact trivial | (dsimp only;omega) | (refine⟨by omega,?_⟩;simp_all;try omega),hM⟩ rfl lv1 su (by decide)
  ·
   have h2l: ¬ (i<p0.length):=by have:=of_decide_eq_false h2;omega
   have hM:=hE.trans ((congrArg (fun n=>Qft p0 p1 n i) (show p0.length - i=0 by omega)).trans (Qft.eq_1 _ _ _))
   refine ad 5 ?_
   exact rz (rs:=[.tmp 4]) (congrArg (fun x=>[Re.c (.bool x)]) hM)
def Qiy (p0:Slot) (p1:Slot):Bool:=bif !decide (p0.Seq=p1.Seq) then false else(bif !(Qh8 p0.Cells p1.Cells) then false else(bif !decide (p0.Whole=p1.Whole) then false else true))
theorem Q8s (p0:Slot) (p1:Slot):CTs 172 [.o (.st Slot _ inferInstance p0),.o (.st Slot _ inferInstance p1)] [Re.c (.bool (Qiy p0 p1))]:=by
 refine en Tryz.func172 Tryz.ntmps172 fun w hG hgd=>?_
 obtain⟨hg_p0,hg_p1,_⟩:=hgd
 have hM:=Qiy.eq_1 p0 p1
 refine ad 15 ?_
 refine cd (fun h1=>?_) (fun h1=>?_)
 ·
  have hM:=hM.trans (bt h1)
  refine ad 4 ?_
  exact rz (rs:=[.tmp 4]) (congrArg (fun x=>[Re.c (.bool x)]) hM)
 ·
  have hM:=hM.trans (bf h1)
  refine ad 8 ?_
  refine op (cl (Qof p0.Cells p1.Cells) Ypm) ?_
  refine ad 2 ?_
  refine cd (fun h2=>?_) (fun h2=>?_)
  ·
   have hM:=hM.trans (bt h2)
   refine ad 4 ?_
   exact rz (rs:=[.tmp 4]) (congrArg (fun x=>[Re.c (.bool x)]) hM)
  ·
   have hM:=hM.trans (bf h2)
   refine ad 10 ?_
   refine cd (fun h3=>?_) (fun h3=>?_)
   ·
    have hM:=hM.trans (bt h3)
    refine ad 4 ?_
    exact rz (rs:=[.tmp 4]) (congrArg (fun x=>[Re.c (.bool x)]) hM)
   ·
    have hM:=hM.trans (bf h3)
    refine ad 5 ?_
    exact rz (rs:=[.tmp 4]) (congrArg (fun x=>[Re.c (.bool x)]) hM)
def Qe3 (p0:List Slot) (p1:List Slot):Nat→Nat→Bool
 | 0,i=>true
 | n+1,i=>bif !(Qiy (nth p0 i) (nth p1 i)) then false else(Qe3 p0 p1 n (i+1))
def Qjb (p0:List Slot) (p1:List Slot):Bool:=bif !decide ((p0.length:Int)=(p1.length:Int)) then false else(Qe3 p0 p1 (p0.length - 0) 0)
theorem Q1p (p0:List Slot) (p1:List Slot):CTs 96 [.o (.sl Slot instDatSlot p0),.o (.sl Slot instDatSlot p1)] [Re.c (.bool (Qjb p0 p1))]:=by
 refine en Tryz.func96 Tryz.ntmps96 fun w hG hgd=>?_
 obtain⟨hg_p0,hg_p1,_⟩:=hgd
 have hl_p0:p0.length≤9223372036854775807:=hg_p0.1
 have hl_p1:p1.length≤9223372036854775807:=hg_p1.1
 have hM:=Qjb.eq_1 p0 p1
 refine ad 13 ?_
 refine cd (fun h1=>?_) (fun h1=>?_)
 ·
  have hM:=hM.trans (bt h1)
  refine ad 4 ?_
  exact rz (rs:=[.tmp 4]) (congrArg (fun x=>[Re.c (.bool x)]) hM)
 ·
  have hM:=hM.trans (bf h1)
  refine ad 7 ?_
  refine Run.loopM (ι:=Nat) (fun s=>Qe3 p0 p1 (p0.length - s) s) (fun s=>⟨27,2,[(0,.sl 0 p0.length),(1,.sl 1 p1.length),(5,.v (.int .i64 (s:Int)))],[(0,.ros Slot instDatSlot p0),(1,.ros Slot instDatSlot p1)]⟩) (fun s=>s≤p0.length) (fun s=>p0.length - s) 0 [0,1] [0,1] hM lv0 su (by decide) ?_
  rintro i hv hE
  try dsimp only at hE
  have hi:=hv
  try dsimp only at hi
  refine ad 8 ?_
  refine cd (fun h2=>?_) (fun h2=>?_)
  ·
   have h2l:i<p0.length:=by have:=of_decide_eq_true h2;omega
   have hM:=hE.trans ((congrArg (fun n=>Qe3 p0 p1 n i) (show p0.length - i=(p0.length - (i+1))+1 by omega)).trans (Qe3.eq_2 _ _ _ _))
   refine ad 4 ?_
   refine dr 10 fun _ _ _ _ _ hb=>?_
   refine tk [0,1] ?_
   have hg3:=Qat (k:=i) hg_p0 om
   refine tx 2 (dx (xs:=p0) i om) ?_
   refine tk [3,4,5] ?_
   have hg4:=Qat (k:=i) hg_p1 om
   refine tx 6 (dx (xs:=p1) i om) ?_
   refine tk [7] ?_
   have hg5:Dat.good (nth p0 i:Slot):=hg3
   have hg6:Dat.good (nth p1 i:Slot):=hg4
   refine on 8 [4,5] (cl (Q8s (nth p0 i) (nth p1 i)) Yqf) ?_
   refine tk [9] ?_
   refine dn hb ?_
   refine cd (fun h7=>?_) (fun h7=>?_)
   ·
    have hM:=hM.trans (bt h7)
    refine ad 4 ?_
    exact rz (rs:=[.tmp 4]) (congrArg (fun x=>[Re.c (.bool x)]) hM)
   ·
    have hM:=hM.trans (bf h7)
    refine ad 5 ?_
    rw[Qd7 (i:=i) om]
    refine ad 2 ?_
    exact Run.again (i+1) [0,1] [4,5] ⟨by first | omega | exact trivial | (dsimp only;omega) | (refine⟨by omega,?_⟩;simp_all;try omega),hM⟩ rfl lv1 su (by decide)
  ·
   have h2l: ¬ (i<p0.length):=by have:=of_decide_eq_false h2;omega
   have hM:=hE.trans ((congrArg (fun n=>Qe3 p0 p1 n i) (show p0.length - i=0 by omega)).trans (Qe3.eq_1 _ _ _))
   refine ad 5 ?_
   exact rz (rs:=[.tmp 4]) (congrArg (fun x=>[Re.c (.bool x)]) hM)
def Qht (p0:Journal) (p1:Journal):Bool:=bif !decide (p0.Text=p1.Text) then false else(bif !decide (p0.Sure=p1.Sure) then false else true)
theorem Qyk (p0:Journal) (p1:Journal):CTs 97 [.o (.st Journal _ inferInstance p0),.o (.st Journal _ inferInstance p1)] [Re.c (.bool (Qht p0 p1))]:=by
 refine en Tryz.func97 Tryz.ntmps97 fun w hG hgd=>?_
 obtain⟨hg_p0,hg_p1,_⟩:=hgd
 have hM:=Qht.eq_1 p0 p1
 refine ad 15 ?_
 refine cd (fun h1=>?_) (fun h1=>?_)
 ·
  have hM:=hM.trans (bt h1)
  refine ad 4 ?_
  exact rz (rs:=[.tmp 4]) (congrArg (fun x=>[Re.c (.bool x)]) hM)
 ·
  have hM:=hM.trans (bf h1)
  refine ad 10 ?_
  refine cd (fun h2=>?_) (fun h2=>?_)
  ·
   have hM:=hM.trans (bt h2)
   refine ad 4 ?_
   exact rz (rs:=[.tmp 4]) (congrArg (fun x=>[Re.c (.bool x)]) hM)
  ·
   have hM:=hM.trans (bf h2)
   refine ad 5 ?_
   exact rz (rs:=[.tmp 4]) (congrArg (fun x=>[Re.c (.bool x)]) hM)
def Qkc (p0:Disk) (p1:Disk):Bool:=bif !(Qjb p0.Slots p1.Slots) then false else(bif !(Qht p0.Journal p1.Journal) then false else true)
theorem Q8u (p0:Disk) (p1:Disk):CTs 47 [.o (.st Disk _ inferInstance p0),.o (.st Disk _ inferInstance p1)] [Re.c (.bool (Qkc p0 p1))]:=by
 refine en Tryz.func47 Tryz.ntmps47 fun w hG hgd=>?_
 obtain⟨hg_p0,hg_p1,_⟩:=hgd
 have hM:=Qkc.eq_1 p0 p1
 refine ad 13 ?_
 refine op (cl (Q1p p0.Slots p1.Slots) Ys2) ?_
 refine ad 2 ?_
 refine cd (fun h1=>?_) (fun h1=>?_)
 ·
  have hM:=hM.trans (bt h1)
  refine ad 4 ?_
  exact rz (rs:=[.tmp 4]) (congrArg (fun x=>[Re.c (.bool x)]) hM)
 ·
  have hM:=hM.trans (bf h1)
  refine ad 8 ?_
  have hg2:Dat.good (p0.Journal:Journal):=hg_p0.2
  have hg3:Dat.good (p1.Journal:Journal):=hg_p1.2
  refine op (cl (Qyk p0.Journal p1.Journal) Ys1) ?_
  refine ad 2 ?_
  refine cd (fun h4=>?_) (fun h4=>?_)
  ·
   have hM:=hM.trans (bt h4)
   refine ad 4 ?_
   exact rz (rs:=[.tmp 4]) (congrArg (fun x=>[Re.c (.bool x)]) hM)
  ·
   have hM:=hM.trans (bf h4)
   refine ad 5 ?_
   exact rz (rs:=[.tmp 4]) (congrArg (fun x=>[Re.c (.bool x)]) hM)
def Qix (p0:Step) (p1:Step):Bool:=bif !decide (p0.Proc=p1.Proc) then false else(bif !(Qh0 p0.Call p1.Call) then false else true)
theorem Q8r (p0:Step) (p1:Step):CTs 183 [.o (.st Step _ inferInstance p0),.o (.st Step _ inferInstance p1)] [Re.c (.bool (Qix p0 p1))]:=by
 refine en Tryz.func183 Tryz.ntmps183 fun w hG hgd=>?_
 obtain⟨hg_p0,hg_p1,_⟩:=hgd
 have hM:=Qix.eq_1 p0 p1
 refine ad 15 ?_
 refine cd (fun h1=>?_) (fun h1=>?_)
 ·
  have hM:=hM.trans (bt h1)
  refine ad 4 ?_
  exact rz (rs:=[.tmp 4]) (congrArg (fun x=>[Re.c (.bool x)]) hM)
 ·
  have hM:=hM.trans (bf h1)
  refine ad 8 ?_
  have hg2:Dat.good (p0.Call:Call):=hg_p0.2
  have hg3:Dat.good (p1.Call:Call):=hg_p1.2
  refine op (cl (Qqr p0.Call p1.Call) Ymn) ?_
  refine ad 2 ?_
  refine cd (fun h4=>?_) (fun h4=>?_)
  ·
   have hM:=hM.trans (bt h4)
   refine ad 4 ?_
   exact rz (rs:=[.tmp 4]) (congrArg (fun x=>[Re.c (.bool x)]) hM)
  ·
   have hM:=hM.trans (bf h4)
   refine ad 5 ?_
   exact rz (rs:=[.tmp 4]) (congrArg (fun x=>[Re.c (.bool x)]) hM)
def Qe2 (p0:List Step) (p1:List Step):Nat→Nat→Bool
 | 0,i=>true
 | n+1,i=>bif !(Qix (nth p0 i) (nth p1 i)) then false else(Qe2 p0 p1 n (i+1))
def Qja (p0:List Step) (p1:List Step):Bool:=bif !decide ((p0.length:Int)=(p1.length:Int)) then false else(Qe2 p0 p1 (p0.length - 0) 0)
theorem Q1o (p0:List Step) (p1:List Step):CTs 122 [.o (.sl Step instDatStep p0),.o (.sl Step instDatStep p1)] [Re.c (.bool (Qja p0 p1))]:=by
 refine en Tryz.func122 Tryz.ntmps122 fun w hG hgd=>?_
 obtain⟨hg_p0,hg_p1,_⟩:=hgd
 have hl_p0:p0.length≤9223372036854775807:=hg_p0.1
 have hl_p1:p1.length≤9223372036854775807:=hg_p1.1
 have hM:=Qja.eq_1 p0 p1
 refine ad 13 ?_
 refine cd (fun h1=>?_) (fun h1=>?_)
 ·
  have hM:=hM.trans (bt h1)
  refine ad 4 ?_
  exact rz (rs:=[.tmp 4]) (congrArg (fun x=>[Re.c (.bool x)]) hM)
 ·
  have hM:=hM.trans (bf h1)
  refine ad 7 ?_
  refine Run.loopM (ι:=Nat) (fun s=>Qe2 p0 p1 (p0.length - s) s) (fun s=>⟨27,2,[(0,.sl 0 p0.length),(1,.sl 1 p1.length),(5,.v (.int .i64 (s:Int)))],[(0,.ros Step instDatStep p0),(1,.ros Step instDatStep p1)]⟩) (fun s=>s≤p0.length) (fun s=>p0.length - s) 0 [0,1] [0,1] hM lv0 su (by decide) ?_
  rintro i hv hE
  try dsimp only at hE
  have hi:=hv
  try dsimp only at hi
  refine ad 8 ?_
  refine cd (fun h2=>?_) (fun h2=>?_)
  ·
   have h2l:i<p0.length:=by have:=of_decide_eq_true h2;omega
   have hM:=hE.trans ((congrArg (fun n=>Qe2 p0 p1 n i) (show p0.length - i=(p0.length - (i+1))+1 by omega)).trans (Qe2.eq_2 _ _ _ _))
   refine ad 4 ?_
   refine dr 10 fun _ _ _ _ _ hb=>?_
   refine tk [0,1] ?_
   have hg3:=Qat (k:=i) hg_p0 om
   refine tx 2 (dx (xs:=p0) i om) ?_
   refine tk [3,4,5] ?_
   have hg4:=Qat (k:=i) hg_p1 om
   refine tx 6 (dx (xs:=p1) i om) ?_
   refine tk [7] ?_
   have hg5:Dat.good (nth p0 i:Step):=hg3
   have hg6:Dat.good (nth p1 i:Step):=hg4
   refine on 8 [2,3] (cl (Q8r (nth p0 i) (nth p1 i)) Yqc) ?_
   refine tk [9] ?_
   refine dn hb ?_
   refine cd (fun h7=>?_) (fun h7=>?_)
   ·
    have hM:=hM.trans (bt h7)
    refine ad 4 ?_
    exact rz (rs:=[.tmp 4]) (congrArg (fun x=>[Re.c (.bool x)]) hM)
   ·
    have hM:=hM.trans (bf h7)
    refine ad 5 ?_
    rw[Qd7 (i:=i) om]
    refine ad 2 ?_
    exact Run.again (i+1) [0,1] [2,3] ⟨by first | omega | exact trivial | (dsimp only;omega) | (refine⟨by omega,?_⟩;simp_all;try omega),hM⟩ rfl lv1 su (by decide)
  ·
   have h2l: ¬ (i<p0.length):=by have:=of_decide_eq_false h2;omega
   have hM:=hE.trans ((congrArg (fun n=>Qe2 p0 p1 n i) (show p0.length - i=0 by omega)).trans (Qe2.eq_1 _ _ _))
   refine ad 5 ?_
   exact rz (rs:=[.tmp 4]) (congrArg (fun x=>[Re.c (.bool x)]) hM)
def Qh7 (p0:Entry) (p1:Entry):Bool:=bif !decide (p0.Seq=p1.Seq) then false else(bif !decide (p0.Kind=p1.Kind) then false else(bif !decide (p0.Tx=p1.Tx) then false else(bif !(Qja p0.Steps p1.Steps) then false else(bif !(Qg3 p0.Answers p1.Answers) then false else(bif !decide (p0.Began=p1.Began) then false else(bif !decide (p0.Ended=p1.Ended) then false else(bif !decide (p0.Laid=p1.Laid) then false else true)))))))
theorem Q1q (p0:Entry) (p1:Entry):CTs 63 [.o (.st Entry _ inferInstance p0),.o (.st Entry _ inferInstance p1)] [Re.c (.bool (Qh7 p0 p1))]:=by
 refine en Tryz.func63 Tryz.ntmps63 fun w hG hgd=>?_
 obtain⟨hg_p0,hg_p1,_⟩:=hgd
 have hM:=Qh7.eq_1 p0 p1
 refine ad 15 ?_
 refine cd (fun h1=>?_) (fun h1=>?_)
 ·
  have hM:=hM.trans (bt h1)
  refine ad 4 ?_
  exact rz (rs:=[.tmp 4]) (congrArg (fun x=>[Re.c (.bool x)]) hM)
 ·
  have hM:=hM.trans (bf h1)
  refine ad 10 ?_
  refine cd (fun h2=>?_) (fun h2=>?_)
  ·
   have hM:=hM.trans (bt h2)
   refine ad 4 ?_
   exact rz (rs:=[.tmp 4]) (congrArg (fun x=>[Re.c (.bool x)]) hM)
  ·
   have hM:=hM.trans (bf h2)
   refine ad 10 ?_
   refine cd (fun h3=>?_) (fun h3=>?_)
   ·
    have hM:=hM.trans (bt h3)
    refine ad 4 ?_
    exact rz (rs:=[.tmp 4]) (congrArg (fun x=>[Re.c (.bool x)]) hM)
   ·
    have hM:=hM.trans (bf h3)
    refine ad 8 ?_
    refine op (cl (Q1o p0.Steps p1.Steps) Yq3) ?_
    refine ad 2 ?_
    refine cd (fun h4=>?_) (fun h4=>?_)
    ·
     have hM:=hM.trans (bt h4)
     refine ad 4 ?_
     exact rz (rs:=[.tmp 4]) (congrArg (fun x=>[Re.c (.bool x)]) hM)
    ·
     have hM:=hM.trans (bf h4)
     refine ad 8 ?_
     refine op (cl (Qmm p0.Answers p1.Answers) Ym0) ?_
     refine ad 2 ?_
     refine cd (fun h5=>?_) (fun h5=>?_)
     ·
      have hM:=hM.trans (bt h5)
      refine ad 4 ?_
      exact rz (rs:=[.tmp 4]) (congrArg (fun x=>[Re.c (.bool x)]) hM)
     ·
      have hM:=hM.trans (bf h5)
      refine ad 10 ?_
      refine cd (fun h6=>?_) (fun h6=>?_)
      ·
       have hM:=hM.trans (bt h6)
       refine ad 4 ?_
       exact rz (rs:=[.tmp 4]) (congrArg (fun x=>[Re.c (.bool x)]) hM)
      ·
       have hM:=hM.trans (bf h6)
       refine ad 10 ?_
       refine cd (fun h7=>?_) (fun h7=>?_)
       ·
        have hM:=hM.trans (bt h7)
        refine ad 4 ?_
        exact rz (rs:=[.tmp 4]) (congrArg (fun x=>[Re.c (.bool x)]) hM)
       ·
        have hM:=hM.trans (bf h7)
        refine ad 10 ?_
        refine cd (fun h8=>?_) (fun h8=>?_)
        ·
         have hM:=hM.trans (bt h8)
         refine ad 4 ?_
         exact rz (rs:=[.tmp 4]) (congrArg (fun x=>[Re.c (.bool x)]) hM)
        ·
         have hM:=hM.trans (bf h8)
         refine ad 5 ?_
         exact rz (rs:=[.tmp 4]) (congrArg (fun x=>[Re.c (.bool x)]) hM)
def Qeh (p0:List Entry) (p1:List Entry):Nat→Nat→Bool
 | 0,i=>true
 | n+1,i=>bif !(Qh7 (nth p0 i) (nth p1 i)) then false else(Qeh p0 p1 n (i+1))
def Qge (p0:List Entry) (p1:List Entry):Bool:=bif !decide ((p0.length:Int)=(p1.length:Int)) then false else(Qeh p0 p1 (p0.length - 0) 0)
theorem Qio (p0:List Entry) (p1:List Entry):CTs 24 [.o (.sl Entry instDatEntry p0),.o (.sl Entry instDatEntry p1)] [Re.c (.bool (Qge p0 p1))]:=by
 refine en Tryz.func24 Tryz.ntmps24 fun w hG hgd=>?_
 obtain⟨hg_p0,hg_p1,_⟩:=hgd
 have hl_p0:p0.length≤9223372036854775807:=hg_p0.1
 have hl_p1:p1.length≤9223372036854775807:=hg_p1.1
 have hM:=Qge.eq_1 p0 p1
 refine ad 13 ?_
 refine cd (fun h1=>?_) (fun h1=>?_)
 ·
  have hM:=hM.trans (bt h1)
  refine ad 4 ?_
  exact rz (rs:=[.tmp 4]) (congrArg (fun x=>[Re.c (.bool x)]) hM)
 ·
  have hM:=hM.trans (bf h1)
  refine ad 7 ?_
  refine Run.loopM (ι:=Nat) (fun s=>Qeh p0 p1 (p0.length - s) s) (fun s=>⟨27,2,[(0,.sl 0 p0.length),(1,.sl 1 p1.length),(5,.v (.int .i64 (s:Int)))],[(0,.ros Entry instDatEntry p0),(1,.ros Entry instDatEntry p1)]⟩) (fun s=>s≤p0.length) (fun s=>p0.length - s) 0 [0,1] [0,1] hM lv0 su (by decide) ?_
  rintro i hv hE
  try dsimp only at hE
  have hi:=hv
  try dsimp only at hi
  refine ad 8 ?_
  refine cd (fun h2=>?_) (fun h2=>?_)
  ·
   have h2l:i<p0.length:=by have:=of_decide_eq_true h2;omega
   have hM:=hE.trans ((congrArg (fun n=>Qeh p0 p1 n i) (show p0.length - i=(p0.length - (i+1))+1 by omega)).trans (Qeh.eq_2 _ _ _ _))
   refine ad 4 ?_
   refine dr 10 fun _ _ _ _ _ hb=>?_
   refine tk [0,1] ?_
   have hg3:=Qat (k:=i) hg_p0 om
   refine tx 2 (dx (xs:=p0) i om) ?_
   refine tk [3,4,5] ?_
   have hg4:=Qat (k:=i) hg_p1 om
   refine tx 6 (dx (xs:=p1) i om) ?_
   refine tk [7] ?_
   have hg5:Dat.good (nth p0 i:Entry):=hg3
   have hg6:Dat.good (nth p1 i:Entry):=hg4
   refine on 8 [6,7] (cl (Q1q (nth p0 i) (nth p1 i)) Ytl) ?_
   refine tk [9] ?_
   refine dn hb ?_
   refine cd (fun h7=>?_) (fun h7=>?_)
   ·
    have hM:=hM.trans (bt h7)
    refine ad 4 ?_
    exact rz (rs:=[.tmp 4]) (congrArg (fun x=>[Re.c (.bool x)]) hM)
   ·
    have hM:=hM.trans (bf h7)
    refine ad 5 ?_
    rw[Qd7 (i:=i) om]
    refine ad 2 ?_
    exact Run.again (i+1) [0,1] [6,7] ⟨by first | omega | exact trivial | (dsimp only;omega) | (refine⟨by omega,?_⟩;simp_all;try omega),hM⟩ rfl lv1 su (by decide)
  ·
   have h2l: ¬ (i<p0.length):=by have:=of_decide_eq_false h2;omega
   have hM:=hE.trans ((congrArg (fun n=>Qeh p0 p1 n i) (show p0.length - i=0 by omega)).trans (Qeh.eq_1 _ _ _))
   refine ad 5 ?_
   exact rz (rs:=[.tmp 4]) (congrArg (fun x=>[Re.c (.bool x)]) hM)
def Qij (p0:Kernel) (p1:Kernel):Bool:=bif !(Qh8 p0.Store p1.Store) then false else(bif !(Qlo p0.Txs p1.Txs) then false else(bif !(Qkc p0.Disk p1.Disk) then false else(bif !decide (p0.Seq=p1.Seq) then false else(bif !decide (p0.Next=p1.Next) then false else(bif !decide (p0.Time=p1.Time) then false else(bif !(Qge p0.History p1.History) then false else(bif !(Qgm p0.Seen p1.Seen) then false else(bif !decide (p0.Room=p1.Room) then false else true))))))))
theorem Q0c (p0:Kernel) (p1:Kernel):CTs 13 [.o (.st Kernel _ inferInstance p0),.o (.st Kernel _ inferInstance p1)] [Re.c (.bool (Qij p0 p1))]:=by
 refine en Tryz.func13 Tryz.ntmps13 fun w hG hgd=>?_
 obtain⟨hg_p0,hg_p1,_⟩:=hgd
 have hM:=Qij.eq_1 p0 p1
 refine ad 13 ?_
 refine op (cl (Qof p0.Store p1.Store) Ypm) ?_
 refine ad 2 ?_
 refine cd (fun h1=>?_) (fun h1=>?_)
 ·
  have hM:=hM.trans (bt h1)
  refine ad 4 ?_
  exact rz (rs:=[.tmp 4]) (congrArg (fun x=>[Re.c (.bool x)]) hM)
 ·
  have hM:=hM.trans (bf h1)
  refine ad 8 ?_
  refine op (cl (Yck p0.Txs p1.Txs) Ytx) ?_
  refine ad 2 ?_
  refine cd (fun h2=>?_) (fun h2=>?_)
  ·
   have hM:=hM.trans (bt h2)
   refine ad 4 ?_
   exact rz (rs:=[.tmp 4]) (congrArg (fun x=>[Re.c (.bool x)]) hM)
  ·
   have hM:=hM.trans (bf h2)
   refine ad 8 ?_
   have hg3:Dat.good (p0.Disk:Disk):=hg_p0.2.2.1
   have hg4:Dat.good (p1.Disk:Disk):=hg_p1.2.2.1
   refine op (cl (Q8u p0.Disk p1.Disk) Ytw) ?_
   refine ad 2 ?_
   refine cd (fun h5=>?_) (fun h5=>?_)
   ·
    have hM:=hM.trans (bt h5)
    refine ad 4 ?_
    exact rz (rs:=[.tmp 4]) (congrArg (fun x=>[Re.c (.bool x)]) hM)
   ·
    have hM:=hM.trans (bf h5)
    refine ad 10 ?_
    refine cd (fun h6=>?_) (fun h6=>?_)
    ·
     have hM:=hM.trans (bt h6)
     refine ad 4 ?_
     exact rz (rs:=[.tmp 4]) (congrArg (fun x=>[Re.c (.bool x)]) hM)
    ·
     have hM:=hM.trans (bf h6)
     refine ad 10 ?_
     refine cd (fun h7=>?_) (fun h7=>?_)
     ·
      have hM:=hM.trans (bt h7)
      refine ad 4 ?_
      exact rz (rs:=[.tmp 4]) (congrArg (fun x=>[Re.c (.bool x)]) hM)
     ·
      have hM:=hM.trans (bf h7)
      refine ad 10 ?_
      refine cd (fun h8=>?_) (fun h8=>?_)
      ·
       have hM:=hM.trans (bt h8)
       refine ad 4 ?_
       exact rz (rs:=[.tmp 4]) (congrArg (fun x=>[Re.c (.bool x)]) hM)
      ·
       have hM:=hM.trans (bf h8)
       refine ad 8 ?_
       refine op (cl (Qio p0.History p1.History) Ylh) ?_
       refine ad 2 ?_
       refine cd (fun h9=>?_) (fun h9=>?_)
       ·
        have hM:=hM.trans (bt h9)
        refine ad 4 ?_
        exact rz (rs:=[.tmp 4]) (congrArg (fun x=>[Re.c (.bool x)]) hM)
       ·
        have hM:=hM.trans (bf h9)
        refine ad 8 ?_
        refine op (cl (Qjp p0.Seen p1.Seen) Ynx) ?_
        refine ad 2 ?_
        refine cd (fun h10=>?_) (fun h10=>?_)
        ·
         have hM:=hM.trans (bt h10)
         refine ad 4 ?_
         exact rz (rs:=[.tmp 4]) (congrArg (fun x=>[Re.c (.bool x)]) hM)
        ·
         have hM:=hM.trans (bf h10)
         refine ad 10 ?_
         refine cd (fun h11=>?_) (fun h11=>?_)
         ·
          have hM:=hM.trans (bt h11)
          refine ad 4 ?_
          exact rz (rs:=[.tmp 4]) (congrArg (fun x=>[Re.c (.bool x)]) hM)
         ·
          have hM:=hM.trans (bf h11)
          refine ad 5 ?_
          exact rz (rs:=[.tmp 4]) (congrArg (fun x=>[Re.c (.bool x)]) hM)
end
section
def toL {α:Type} [Inhabited α] (f:α→α) (xs:List α):Nat→List α→Nat→List α
 | 0,w,_=>w
 | n+1,w,i=>toL f xs n (w.set i (f (nth xs i))) (i+1)
theorem Qpc {α:Type} [Inhabited α] {f:α→α} (hf: ∀ x,f x=x) (xs:List α): ∀ n w i,n=xs.length - i→w.length=xs.length→(∀ j,j<i→w[j]?=xs[j]?)→toL f xs n w i=xs:=by
 intro n
 induction n with
 | zero =>
  intro w i h hl hj
  show w=xs
  apply List.ext_getElem?
  intro j
  rcases Nat.lt_or_ge j i with h1 | h1
  ·exact hj j h1
  ·rw[List.getElem?_eq_none (by omega),List.getElem?_eq_none (by omega)]
 | succ n ih =>
  intro w i h hl hj
  rw[toL]
  refine ih _ (i+1) (by omega) (by rw[length_set];exact hl) fun j hji=>?_
  rcases Nat.lt_or_ge j i with h1 | h1
  ·rw[List.getElem?_set_ne (by omega)]
   exact hj j h1
  ·obtain rfl : j = i := by omega
   rw[List.getElem?_set_self (by omega),hf]
   unfold nth
   rw[List.getD_eq_getElem?_getD,List.getElem?_eq_getElem (by omega:j<xs.length)]
   rfl
def eqL {α:Type} [Inhabited α] (f:α→α→Bool) (xs ys:List α):Nat→Nat→Bool
 | 0,_=>true
 | n+1,i=>bif !(f (nth xs i) (nth ys i)) then false else eqL f xs ys n (i+1)
theorem Qjx {α:Type} [Inhabited α] {f:α→α→Bool} (hf: ∀ x,f x x=true) (xs:List α): ∀ n i,eqL f xs xs n i=true:=by
 intro n
 induction n with
 | zero=>intro i;rfl
 | succ n ih=>intro i;rw[eqL,hf,ih];rfl
theorem Q00 (p0:Cell):Qhc p0=p0:=by
 unfold Qhc
 rfl
theorem Qpr (p0:List Cell): ∀ n w i,Qet p0 n w i=toL (Qhc) p0 n w i:=by
 intro n
 induction n with
 | zero=>intro w i;rfl
 | succ n ih=>intro w i;rw[Qet,toL,ih]
theorem Qm6 (p0:List Cell):Qgt p0=p0:=by
 unfold Qgt
 rw[Qpr]
 exact Qpc (Q00) p0 _ _ 0 rfl (by rw[length_replicate]) fun j hj=>by omega
theorem Qn8 (p0:Call):Qgl p0=p0:=by
 unfold Qgl
 rfl
theorem Qps (p0:List Call): ∀ n w i,Qeu p0 n w i=toL (Qgl) p0 n w i:=by
 intro n
 induction n with
 | zero=>intro w i;rfl
 | succ n ih=>intro w i;rw[Qeu,toL,ih]
theorem Qzj (p0:List Call):Qh6 p0=p0:=by
 unfold Qh6
 rw[Qps]
 exact Qpc (Qn8) p0 _ _ 0 rfl (by rw[length_replicate]) fun j hj=>by omega
theorem Qxz (p0:Answer):Qgc p0=p0:=by
 unfold Qgc
 rfl
theorem Qnv (p0:List Answer): ∀ n w i,Qdu p0 n w i=toL (Qgc) p0 n w i:=by
 intro n
 induction n with
 | zero=>intro w i;rfl
 | succ n ih=>intro w i;rw[Qdu,toL,ih]
theorem Qlk (p0:List Answer):Qfw p0=p0:=by
 unfold Qfw
 rw[Qnv]
 exact Qpc (Qxz) p0 _ _ 0 rfl (by rw[length_replicate]) fun j hj=>by omega
theorem Qnu (p0:List ByteArray): ∀ n w i,Qdt p0 n w i=toL (fun x=>x) p0 n w i:=by
 intro n
 induction n with
 | zero=>intro w i;rfl
 | succ n ih=>intro w i;rw[Qdt,toL,ih]
theorem Qlj (p0:List ByteArray):Qep p0=p0:=by
 unfold Qep
 rw[Qnu]
 exact Qpc (fun _=>rfl) p0 _ _ 0 rfl (by rw[length_replicate]) fun j hj=>by omega
theorem Qzf (p0:Touch):Qh3 p0=p0:=by
 unfold Qh3
 simp only[Qlj]
theorem Qra (p0:List Int): ∀ n w i,Qfc p0 n w i=toL (fun x=>x) p0 n w i:=by
 intro n
 induction n with
 | zero=>intro w i;rfl
 | succ n ih=>intro w i;rw[Qfc,toL,ih]
theorem Q0y (p0:List Int):Qiv p0=p0:=by
 unfold Qiv
 rw[Qra]
 exact Qpc (fun _=>rfl) p0 _ _ 0 rfl (by rw[length_replicate]) fun j hj=>by omega
theorem Ybz (p0:Tx):Qi8 p0=p0:=by
 unfold Qi8
 simp only[Qlk,Qzj,Q0y,Qzf]
theorem Qxx (p0:List Tx): ∀ n w i,Qfr p0 n w i=toL (Qi8) p0 n w i:=by
 intro n
 induction n with
 | zero=>intro w i;rfl
 | succ n ih=>intro w i;rw[Qfr,toL,ih]
theorem Q71 (p0:List Tx):Qj1 p0=p0:=by
 unfold Qj1
 rw[Qxx]
 exact Qpc (Ybz) p0 _ _ 0 rfl (by rw[length_replicate]) fun j hj=>by omega
theorem Q0x (p0:Slot):Qhb p0=p0:=by
 unfold Qhb
 simp only[Qm6]
theorem Qpq (p0:List Slot): ∀ n w i,Qes p0 n w i=toL (Qhb) p0 n w i:=by
 intro n
 induction n with
 | zero=>intro w i;rfl
 | succ n ih=>intro w i;rw[Qes,toL,ih]
theorem Qzh (p0:List Slot):Qh5 p0=p0:=by
 unfold Qh5
 rw[Qpq]
 exact Qpc (Q0x) p0 _ _ 0 rfl (by rw[length_replicate]) fun j hj=>by omega
theorem Qq9 (p0:Journal):Qg2 p0=p0:=by
 unfold Qg2
 rfl
theorem Q0z (p0:Disk):Qiw p0=p0:=by
 unfold Qiw
 simp only[Qq9,Qzh]
theorem Q0w (p0:Step):Qha p0=p0:=by
 unfold Qha
 simp only[Qn8]
theorem Qpp (p0:List Step): ∀ n w i,Qer p0 n w i=toL (Qha) p0 n w i:=by
 intro n
 induction n with
 | zero=>intro w i;rfl
 | succ n ih=>intro w i;rw[Qer,toL,ih]
theorem Qzg (p0:List Step):Qh4 p0=p0:=by
 unfold Qh4
 rw[Qpp]
 exact Qpc (Q0w) p0 _ _ 0 rfl (by rw[length_replicate]) fun j hj=>by omega
theorem Qzi (p0:Entry):Qgs p0=p0:=by
 unfold Qgs
 simp only[Qlk,Qzg]
theorem Qot (p0:List Entry): ∀ n w i,Qef p0 n w i=toL (Qgs) p0 n w i:=by
 intro n
 induction n with
 | zero=>intro w i;rfl
 | succ n ih=>intro w i;rw[Qef,toL,ih]
theorem Qxy (p0:List Entry):Qhn p0=p0:=by
 unfold Qhn
 rw[Qot]
 exact Qpc (Qzi) p0 _ _ 0 rfl (by rw[length_replicate]) fun j hj=>by omega
theorem Qmf (p0:Kernel):Qaz p0=p0:=by
 unfold Qaz
 simp only[Qm6,Q0z,Qxy,Qlj,Q71]
theorem Qx8 (p0:Cell):Qiz p0 p0=true:=by
 unfold Qiz
 simp only[decide_true,Bool.not_true,cond_false]
theorem Qp6 (p0 p1:List Cell): ∀ n i,Qe4 p0 p1 n i=eqL (Qiz) p0 p1 n i:=by
 intro n
 induction n with
 | zero=>intro i;rfl
 | succ n ih=>intro i;rw[Qe4,eqL,ih]
theorem Qlq (p0:List Cell):Qh8 p0 p0=true:=by
 unfold Qh8
 rw[decide_eq_true rfl,Qp6]
 exact Qjx (Qx8) _ _ _
theorem Qmg (p0:Call):Qh0 p0 p0=true:=by
 unfold Qh0
 simp only[decide_true,Bool.not_true,cond_false]
theorem Qp7 (p0 p1:List Call): ∀ n i,Qe5 p0 p1 n i=eqL (Qh0) p0 p1 n i:=by
 intro n
 induction n with
 | zero=>intro i;rfl
 | succ n ih=>intro i;rw[Qe5,eqL,ih]
theorem Qrn (p0:List Call):Qjc p0 p0=true:=by
 unfold Qjc
 rw[decide_eq_true rfl,Qp7]
 exact Qjx (Qmg) _ _ _
theorem Qp8 (p0:Answer):Qhp p0 p0=true:=by
 unfold Qhp
 simp only[decide_true,Bool.not_true,cond_false]
theorem Qn4 (p0 p1:List Answer): ∀ n i,Qd2 p0 p1 n i=eqL (Qhp) p0 p1 n i:=by
 intro n
 induction n with
 | zero=>intro i;rfl
 | succ n ih=>intro i;rw[Qd2,eqL,ih]
theorem Qkd (p0:List Answer):Qg3 p0 p0=true:=by
 unfold Qg3
 rw[decide_eq_true rfl,Qn4]
 exact Qjx (Qp8) _ _ _
theorem Qn3 (p0 p1:List ByteArray): ∀ n i,Qd1 p0 p1 n i=eqL (fun a b=>decide (a=b)) p0 p1 n i:=by
 intro n
 induction n with
 | zero=>intro i;rfl
 | succ n ih=>intro i;rw[Qd1,eqL,ih]
theorem Qka (p0:List ByteArray):Qgm p0 p0=true:=by
 unfold Qgm
 rw[decide_eq_true rfl,Qn3]
 exact Qjx (fun x=>by simp) _ _ _
theorem Qri (p0:Touch):Qi9 p0 p0=true:=by
 unfold Qi9
 simp only[decide_true,Bool.not_true,cond_false,Qka]
theorem Qrl (p0 p1:List Int): ∀ n i,Qfe p0 p1 n i=eqL (fun a b=>decide (a=b)) p0 p1 n i:=by
 intro n
 induction n with
 | zero=>intro i;rfl
 | succ n ih=>intro i;rw[Qfe,eqL,ih]
theorem Qx6 (p0:List Int):Qkb p0 p0=true:=by
 unfold Qkb
 rw[decide_eq_true rfl,Qrl]
 exact Qjx (fun x=>by simp) _ _ _
theorem Q01 (p0:Tx):Qlp p0 p0=true:=by
 unfold Qlp
 simp only[decide_true,Bool.not_true,cond_false,Qkd,Qrn,Qx6,Qri]
theorem Qx3 (p0 p1:List Tx): ∀ n i,Qft p0 p1 n i=eqL (Qlp) p0 p1 n i:=by
 intro n
 induction n with
 | zero=>intro i;rfl
 | succ n ih=>intro i;rw[Qft,eqL,ih]
theorem Qzm (p0:List Tx):Qlo p0 p0=true:=by
 unfold Qlo
 rw[decide_eq_true rfl,Qx3]
 exact Qjx (Q01) _ _ _
theorem Qx5 (p0:Slot):Qiy p0 p0=true:=by
 unfold Qiy
 simp only[decide_true,Bool.not_true,cond_false,Qlq]
theorem Qp4 (p0 p1:List Slot): ∀ n i,Qe3 p0 p1 n i=eqL (Qiy) p0 p1 n i:=by
 intro n
 induction n with
 | zero=>intro i;rfl
 | succ n ih=>intro i;rw[Qe3,eqL,ih]
theorem Qrk (p0:List Slot):Qjb p0 p0=true:=by
 unfold Qjb
 rw[decide_eq_true rfl,Qp4]
 exact Qjx (Qx5) _ _ _
theorem Qo0 (p0:Journal):Qht p0 p0=true:=by
 unfold Qht
 simp only[decide_true,Bool.not_true,cond_false]
theorem Qx7 (p0:Disk):Qkc p0 p0=true:=by
 unfold Qkc
 simp only[decide_true,Bool.not_true,cond_false,Qo0,Qrk]
theorem Qx4 (p0:Step):Qix p0 p0=true:=by
 unfold Qix
 simp only[decide_true,Bool.not_true,cond_false,Qmg]
theorem Qp3 (p0 p1:List Step): ∀ n i,Qe2 p0 p1 n i=eqL (Qix) p0 p1 n i:=by
 intro n
 induction n with
 | zero=>intro i;rfl
 | succ n ih=>intro i;rw[Qe2,eqL,ih]
theorem Qrj (p0:List Step):Qja p0 p0=true:=by
 unfold Qja
 rw[decide_eq_true rfl,Qp3]
 exact Qjx (Qx4) _ _ _
theorem Qrm (p0:Entry):Qh7 p0 p0=true:=by
 unfold Qh7
 simp only[decide_true,Bool.not_true,cond_false,Qkd,Qrj]
theorem Qo1 (p0 p1:List Entry): ∀ n i,Qeh p0 p1 n i=eqL (Qh7) p0 p1 n i:=by
 intro n
 induction n with
 | zero=>intro i;rfl
 | succ n ih=>intro i;rw[Qeh,eqL,ih]
theorem Qku (p0:List Entry):Qge p0 p0=true:=by
 unfold Qge
 rw[decide_eq_true rfl,Qo1]
 exact Qjx (Qrm) _ _ _
theorem Qp5 (p0:Kernel):Qij p0 p0=true:=by
 unfold Qij
 simp only[decide_true,Bool.not_true,cond_false,Qlq,Qx7,Qku,Qka,Qzm]
end
section
attribute [local irreducible] Qbc Qb9 Qaz Qfi Qa5 Qe1
set_option maxHeartbeats 2000000
theorem fok9:FnOk Tryz.prog 9:=⟨_,Tryz.func9,rfl,by kernel_rfl⟩
theorem Yli:FnOk Tryz.prog 11:=⟨_,Tryz.func11,rfl,by kernel_rfl⟩
theorem Yt9:FnOk Tryz.prog 13:=⟨_,Tryz.func13,rfl,by kernel_rfl⟩
theorem Yt8:FnOk Tryz.prog 19:=⟨_,Tryz.func19,rfl,by kernel_rfl⟩
theorem Yt6:FnOk Tryz.prog 22:=⟨_,Tryz.func22,rfl,by kernel_rfl⟩
theorem Yp0:FnOk Tryz.prog 23:=⟨_,Tryz.func23,rfl,by kernel_rfl⟩
theorem Ypr:FnOk Tryz.prog 26:=⟨_,Tryz.func26,rfl,by kernel_rfl⟩
def Qe6 (p0:Kernel):Bool:=bif decide ((Qgd p0 1048576)<0) then true else(bif !(Qge (Qbc (Qaz p0)) (Qb9 (Qaz p0))) then false else(bif !(Qij (Qaz p0) (Qaz p0)) then false else(bif (decide ((Qfi (Qaz p0) 1)<0))||(!(Qge (Qbc (Qaz p0)) (Qb9 (Qaz p0)))) then false else(bif decide ((Qe1 ((Qa5 (Qbc (Qaz p0)) 1).1) 1)<0) then false else(bif !decide ((Qe1 ((Qa5 (Qbc (Qaz p0)) 1).1) 1)=((Qa5 (Qbc (Qaz p0)) 1).2)) then false else(bif !(Qge (Qbc (Qaz p0)) (Qb9 (Qaz p0))) then false else(bif decide ((Qe1 ((Qa5 (Qbc (Qaz p0)) 1).1) 1)<0) then false else(bif !decide ((Qe1 ((Qa5 (Qbc (Qaz p0)) 1).1) 1)=((Qa5 (Qbc (Qaz p0)) 1).2)) then false else true))))))))
theorem Qk9 (p0:Kernel):CTs 6 [.o (.st Kernel _ inferInstance p0)] [Re.c (.bool (Qe6 p0))]:=by
 refine en Tryz.func6 Tryz.ntmps6 fun w hG hgd=>?_
 obtain⟨hg_p0,_⟩:=hgd
 have hM:=Qe6.eq_1 p0
 refine ad 13 ?_
 refine op (cl (Qz7 p0 1048576) fok9) ?_
 refine ad 8 ?_
 refine cd (fun h1=>?_) (fun h1=>?_)
 ·
  have hM:=hM.trans (bt h1)
  refine ad 4 ?_
  exact rz (rs:=[.tmp 2]) (congrArg (fun x=>[Re.c (.bool x)]) hM)
 ·
  have hM:=hM.trans (bf h1)
  have hsm:=(Qj9 p0 1048576 (by decide) (by decide) hg_p0 (of_decide_eq_false h1)).1
  have hsm2:Dat.small 1048576 (Qaz p0):=by rw[Qmf];exact hsm
  refine ad 4 ?_
  refine og (clg (Qim p0 (by first | assumption | exact Qcf hs (by omega))) Yli) fun hgq=>?_
  obtain⟨hg2,_⟩:=hgq
  refine og (clg (Qqj (Qaz p0) (by first | assumption | exact hsm2)) Yt6) fun hgq=>?_
  obtain⟨hg3,_⟩:=hgq
  refine ad 5 ?_
  refine og (clg (Qim p0 (by first | assumption | exact Qcf hs (by omega))) Yli) fun hgq=>?_
  obtain⟨hg4,_⟩:=hgq
  refine ad 6 ?_
  refine og (clg (Qky (Qaz p0) (by first | assumption | exact hsm2)) Yp0) fun hgq=>?_
  obtain⟨hg5,_⟩:=hgq
  refine ad 7 ?_
  refine op (cl (Qio (Qbc (Qaz p0)) (Qb9 (Qaz p0))) Ylh) ?_
  refine ad 2 ?_
  refine cd (fun h6=>?_) (fun h6=>?_)
  ·
   have hM:=hM.trans (bt h6)
   refine ad 4 ?_
   exact rz (rs:=[.tmp 2]) (congrArg (fun x=>[Re.c (.bool x)]) hM)
  ·
   have hM:=hM.trans (bf h6)
   refine ad 3 ?_
   refine dr 5 fun _ _ _ _ _ hb=>?_
   refine tk [0,1] ?_
   refine ong 2 [5,6,7,8,9,10,11,12,13,14,15,16,17,18,19,20,21,22,23] (clg (Qim p0 (by first | assumption | exact Qcf hs (by omega))) Yli) fun hgq=>?_
   obtain⟨hg7,_⟩:=hgq
   refine on 3 [5,6,7,8,9,10,11,12,13,14,15,16,17,18,19,20,21,22,23] (cl (Q0c (Qaz p0) (Qaz p0)) Yt9) ?_
   refine tk [4] ?_
   refine dn hb ?_
   refine cd (fun h8=>?_) (fun h8=>?_)
   ·
    have hM:=hM.trans (bt h8)
    refine ad 4 ?_
    exact rz (rs:=[.tmp 2]) (congrArg (fun x=>[Re.c (.bool x)]) hM)
   ·
    have hM:=hM.trans (bf h8)
    refine ad 9 ?_
    refine og (cm [12,13,14,15,16] [] [7,8,9,10,11] [] [0,1,2,3,4,5,6,12,13,14,15,16,17,18,19,20,21,22,23] (Qrv (Qaz p0) 1 (by first | assumption | exact gi _)) Yt8) fun hg9=>?_
    refine ad 8 ?_
    refine ag 2 ?_
    refine op (cG (hct:=fun hB=>(Qio (Qbc (Qaz p0)) (Qb9 (Qaz p0)))) (hfn:=Ylh)) ?_
    refine ag 2 ?_
    refine ad 1 ?_
    refine cd (fun h10=>?_) (fun h10=>?_)
    ·
     have hM:=hM.trans (bt h10)
     refine ad 4 ?_
     exact rz (rs:=[.tmp 2]) (congrArg (fun x=>[Re.c (.bool x)]) hM)
    ·
     have hM:=hM.trans (bf h10)
     refine ad 9 ?_
     refine og (mu (Qlb (Qbc (Qaz p0)) 1 (gi 1)) Ypu) fun hgq=>?_
     obtain⟨hg11,hg12⟩:=hgq
     refine ad 10 ?_
     refine op (cl (Qlv ((Qa5 (Qbc (Qaz p0)) 1).1) 1) Ypr) ?_
     refine ad 8 ?_
     refine cd (fun h13=>?_) (fun h13=>?_)
     ·
      have hM:=hM.trans (bt h13)
      refine ad 4 ?_
      exact rz (rs:=[.tmp 2]) (congrArg (fun x=>[Re.c (.bool x)]) hM)
     ·
      have hM:=hM.trans (bf h13)
      refine ad 8 ?_
      refine cd (fun h14=>?_) (fun h14=>?_)
      ·
       have hM:=hM.trans (bt h14)
       refine ad 4 ?_
       exact rz (rs:=[.tmp 2]) (congrArg (fun x=>[Re.c (.bool x)]) hM)
      ·
       have hM:=hM.trans (bf h14)
       refine ad 4 ?_
       refine og (clg (Qim p0 (by first | assumption | exact Qcf hs (by omega))) Yli) fun hgq=>?_
       obtain⟨hg15,_⟩:=hgq
       refine og (clg (Qky (Qaz p0) (by first | assumption | exact hsm2)) Yp0) fun hgq=>?_
       obtain⟨hg16,_⟩:=hgq
       refine ad 7 ?_
       refine op (cl (Qio (Qbc (Qaz p0)) (Qb9 (Qaz p0))) Ylh) ?_
       refine ad 2 ?_
       refine cd (fun h17=>?_) (fun h17=>?_)
       ·
        have hM:=hM.trans (bt h17)
        refine ad 4 ?_
        exact rz (rs:=[.tmp 2]) (congrArg (fun x=>[Re.c (.bool x)]) hM)
       ·
        have hM:=hM.trans (bf h17)
        refine ad 9 ?_
        refine op (cl (Qlv ((Qa5 (Qbc (Qaz p0)) 1).1) 1) Ypr) ?_
        refine ad 8 ?_
        refine cd (fun h18=>?_) (fun h18=>?_)
        ·
         have hM:=hM.trans (bt h18)
         refine ad 4 ?_
         exact rz (rs:=[.tmp 2]) (congrArg (fun x=>[Re.c (.bool x)]) hM)
        ·
         have hM:=hM.trans (bf h18)
         refine ad 8 ?_
         refine cd (fun h19=>?_) (fun h19=>?_)
         ·
          have hM:=hM.trans (bt h19)
          refine ad 4 ?_
          exact rz (rs:=[.tmp 2]) (congrArg (fun x=>[Re.c (.bool x)]) hM)
         ·
          have hM:=hM.trans (bf h19)
          refine ad 5 ?_
          exact rz (rs:=[.tmp 2]) (congrArg (fun x=>[Re.c (.bool x)]) hM)
end
section
theorem Ydj (p0:Disk): ∀ n i,Qdh p0 n i=p0:=by
 intro n
 induction n with
 | zero=>intro i;rfl
 | succ n ih=>intro i;rw[Qdh,ih]
theorem Yln (p0:Disk):Qbp p0=p0:=Ydj p0 _ _
theorem Yh2 (p0:Disk): ∀ n v i,i+n=p0.Slots.length→v=p0.Slots.take i→Qec p0 n v i=p0:=by
 intro n
 induction n with
 | zero =>
  intro v i hi hv
  rw[Qec,hv,List.take_of_length_le (by omega)]
 | succ n ih =>
  intro v i hi hv
  rw[Qec]
  refine ih _ (i+1) (by omega) ?_
  rw[hv,Qid (by omega),List.nil_append]
theorem Yjw (p0:Disk):Qbk p0=p0:=Yh2 p0 _ _ 0 (by omega) rfl
theorem Yie (a:Int) {c:Int} (h:0≤c):Qd9 a 0 c=Qbw a 0 c:=by
 unfold Qd9 Qbw
 cases h1:(decide (c<0)||decide (a<0)) with
 | true =>
  have h2:c<0∨a<0:=by simpa using h1
  show max 0 (min a c)=0
  omega
 | false =>
  have h2:=of_decide_eq_false (Bool.or_eq_false_iff.1 h1).2
  cases h3:decide (a>c) with
  | true=>have h4:=of_decide_eq_true h3;show max 0 (min a c)=c;omega
  | false=>have h4:=of_decide_eq_false h3;show max 0 (min a c)=a;omega
theorem Q1y (p0:Journal):Qg6 p0=Qaq p0:=rfl
theorem Qyq (p0:Journal) (p1:Int):Qdr p0 p1=Qdk p0 p1:=by
 unfold Qdr Qdk
 rw[Q1y]
 cases h:Qaq p0 with
 | false=>rfl
 | true =>
  have hj:=Qji h
  have hw1:i64.wrap ((p0.Text.size:Int) - p0.Sure)=(p0.Text.size:Int) - p0.Sure:=IntWalk.i64_in _ (by omega)
  rw[Bool.not_true,cond_false,cond_false,hw1,Yie _ (by omega)]
  have hbr:=Qm0 p1 (c:=(p0.Text.size:Int) - p0.Sure) (by omega)
  rw[IntWalk.i64_in (p0.Sure+Qbw p1 0 ((p0.Text.size:Int) - p0.Sure)) (by omega)]
  have hz0:0≤p0.Sure+Qbw p1 0 ((p0.Text.size:Int) - p0.Sure)∧p0.Sure+Qbw p1 0 ((p0.Text.size:Int) - p0.Sure)≤(p0.Text.size:Int):=by omega
  generalize p0.Sure+Qbw p1 0 ((p0.Text.size:Int) - p0.Sure)=z at hz0 ⊢
  have hz:((cutS p0.Text 0 z.toNat).size:Int)=z:=by
   unfold cutS
   rw[ByteArray.size_extract]
   omega
  rw[hz]
theorem Qyr (p0:Disk) (p1:Int): ∀ n v i,Qds p0 p1 n v i=Qdl p0 p1 n v i:=by
 intro n
 induction n with
 | zero=>intro v i;rw[Qds,Qdl,Qyq,Yjw]
 | succ n ih=>intro v i;rw[Qds,Qdl,ih]
theorem Q84 (p0:Disk) (p1:Int):Qgg p0 p1=Qhj p0 p1:=by
 unfold Qgg Qhj
 rw[Yln,Yjw,Qo7,Qyr]
end
section
theorem Qc6 {s hi:Int} (h:0≤s∧s≤hi) (hh:hi≤2305843009213693952):0≤i64.wrap (s+1)∧i64.wrap (s+1)≤hi+1:=by
 rw[IntWalk.i64_in (s+1) ⟨by omega,by omega⟩]
 omega
theorem Qm5 {α:Type} [Inhabited α] {xs:List α} {i:Nat} {x:α} (h:i<xs.length):nth (xs.set i x) i=x:=by
 simp[nth,List.getD_eq_getElem?_getD,h]
theorem Qiu {α:Type} [Inhabited α] {xs:List α} {i j:Nat} {x:α} (h:i≠j):nth (xs.set i x) j=nth xs j:=by
 simp[nth,List.getD_eq_getElem?_getD,List.getElem?_set_ne h]
def Q70 {α:Type} (f:Int→α):Nat→Nat→Int→List α→List α×Int
 | 0,_,s,y=>(y,s)
 | n+1,i,s,y=>Q70 f n (i+1) (i64.wrap (s+1)) (y.set i (f s))
theorem Yef {α:Type} {f:Int→α}: ∀ (n i:Nat) (s:Int) (y:List α),0≤s→s+n≤1152921504606846976→0≤(Q70 f n i s y).2∧(Q70 f n i s y).2≤s+n:=by
 intro n
 induction n with
 | zero=>intro i s y h0 h1;exact⟨h0,by simp[Q70]⟩
 | succ n ih =>
  intro i s y h0 h1
  have hw:=Qc6 (s:=s) (hi:=s) ⟨h0,by omega⟩ (by omega)
  have:=ih (i+1) (i64.wrap (s+1)) (y.set i (f s)) hw.1 (by omega)
  rw[Q70]
  exact⟨this.1,by omega⟩
theorem Qmq (p0:List ByteArray) (p1:Int): ∀ n i s y,Qej p0 p1 n i s y=Q70 (fun s=>Qad s) n i s y:=by
 intro n
 induction n with
 | zero=>intro i s y;rfl
 | succ n ih=>intro i s y;rw[Qej,Q70,ih]
theorem Qn2 (p0:List Call) (p1:Int): ∀ (n i:Nat) (s:Int) (y:List Call),0≤s→s+6*n≤1152921504606846976→0≤(Qdz p0 p1 n i s y).2∧(Qdz p0 p1 n i s y).2≤s+6*n:=by
 intro n
 induction n with
 | zero=>intro i s y h0 h1;exact⟨h0,by simp[Qdz]⟩
 | succ n ih =>
  intro i s y h0 h1
  have hw:=(Qc6 (Qc6 (Qc6 (Qc6 (Qc6 (Qc6 (show 0≤s∧s≤s from⟨h0,Int.le_refl _⟩) (by omega)) (by omega)) (by omega)) (by omega)) (by omega)) (by omega))
  rw[Qdz]
  have h2:=fun Y=>ih (i+1) _ Y hw.1 (by omega)
  exact⟨(h2 _).1,Int.le_trans (h2 _).2 (by omega)⟩
theorem Qrh {p0:List Call} {p1:Int} (h0:0≤p1) (h1:p1≤576460752303423488) (hl:p0.length≤1048576):0≤(Qaf p0 p1).2∧(Qaf p0 p1).2≤p1+6291456:=by
 unfold Qaf
 have:=Qn2 p0 p1 (p0.length - 0) 0 p1 p0 h0 (by omega)
 exact⟨this.1,by omega⟩
theorem Qmr (p0:List Answer) (p1:Int): ∀ (n i:Nat) (s:Int) (y:List Answer),0≤s→s+3*n≤1152921504606846976→0≤(Qbe p0 p1 n i s y).2∧(Qbe p0 p1 n i s y).2≤s+3*n:=by
 intro n
 induction n with
 | zero=>intro i s y h0 h1;exact⟨h0,by simp[Qbe]⟩
 | succ n ih =>
  intro i s y h0 h1
  have hw:=(Qc6 (Qc6 (Qc6 (show 0≤s∧s≤s from⟨h0,Int.le_refl _⟩) (by omega)) (by omega)) (by omega))
  rw[Qbe]
  have h2:=fun Y=>ih (i+1) _ Y hw.1 (by omega)
  exact⟨(h2 _).1,Int.le_trans (h2 _).2 (by omega)⟩
theorem Qhz {p0:List Answer} {p1:Int} (h0:0≤p1) (h1:p1≤576460752303423488) (hl:p0.length≤1048576):0≤(Qac p0 p1).2∧(Qac p0 p1).2≤p1+3145728:=by
 unfold Qac
 have:=Qmr p0 p1 (p0.length - 0) 0 p1 p0 h0 (by omega)
 exact⟨this.1,by omega⟩
theorem Qn1 (p0:List Cell) (p1:Int): ∀ (n i:Nat) (s:Int) (y:List Cell),0≤s→s+2*n≤1152921504606846976→0≤(Qdy p0 p1 n i s y).2∧(Qdy p0 p1 n i s y).2≤s+2*n:=by
 intro n
 induction n with
 | zero=>intro i s y h0 h1;exact⟨h0,by simp[Qdy]⟩
 | succ n ih =>
  intro i s y h0 h1
  have hw:=(Qc6 (Qc6 (show 0≤s∧s≤s from⟨h0,Int.le_refl _⟩) (by omega)) (by omega))
  rw[Qdy]
  have h2:=fun Y=>ih (i+1) _ Y hw.1 (by omega)
  exact⟨(h2 _).1,Int.le_trans (h2 _).2 (by omega)⟩
theorem Qln {p0:List Cell} {p1:Int} (h0:0≤p1) (h1:p1≤576460752303423488) (hl:p0.length≤1048576):0≤(Qas p0 p1).2∧(Qas p0 p1).2≤p1+2097152:=by
 unfold Qas
 have:=Qn1 p0 p1 (p0.length - 0) 0 p1 p0 h0 (by omega)
 exact⟨this.1,by omega⟩
theorem Qnz (p0:List Step) (p1:Int): ∀ (n i:Nat) (s:Int) (y:List Step),0≤s→s+7*n≤1152921504606846976→0≤(Qbq p0 p1 n i s y).2∧(Qbq p0 p1 n i s y).2≤s+7*n:=by
 intro n
 induction n with
 | zero=>intro i s y h0 h1;exact⟨h0,by simp[Qbq]⟩
 | succ n ih =>
  intro i s y h0 h1
  have hw:=(Qc6 (Qc6 (Qc6 (Qc6 (Qc6 (Qc6 (Qc6 (show 0≤s∧s≤s from⟨h0,Int.le_refl _⟩) (by omega)) (by omega)) (by omega)) (by omega)) (by omega)) (by omega)) (by omega))
  rw[Qbq]
  have h2:=fun Y=>ih (i+1) _ Y hw.1 (by omega)
  exact⟨(h2 _).1,Int.le_trans (h2 _).2 (by omega)⟩
theorem Qlm {p0:List Step} {p1:Int} (h0:0≤p1) (h1:p1≤576460752303423488) (hl:p0.length≤1048576):0≤(Qah p0 p1).2∧(Qah p0 p1).2≤p1+7340032:=by
 unfold Qah
 have:=Qnz p0 p1 (p0.length - 0) 0 p1 p0 h0 (by omega)
 exact⟨this.1,by omega⟩
theorem Qhy {p0:List ByteArray} {p1:Int} (h0:0≤p1) (h1:p1≤576460752303423488) (hl:p0.length≤1048576):0≤(Qae p0 p1).2∧(Qae p0 p1).2≤p1+1048576:=by
 unfold Qae
 rw[Qmq]
 have:=Yef (f:=fun s=>Qad s) (p0.length - 0) 0 p1 p0 h0 (by omega)
 exact⟨this.1,by omega⟩
theorem Qoz (p0:List Int) (p1:Int): ∀ n i s y,Qfl p0 p1 n i s y=Q70 (fun s=>s) n i s y:=by
 intro n
 induction n with
 | zero=>intro i s y;rfl
 | succ n ih=>intro i s y;rw[Qfl,Q70,ih]
theorem Qx2 {p0:List Int} {p1:Int} (h0:0≤p1) (h1:p1≤576460752303423488) (hl:p0.length≤1048576):0≤(Qbg p0 p1).2∧(Qbg p0 p1).2≤p1+1048576:=by
 unfold Qbg
 rw[Qoz]
 have:=Yef (f:=fun s=>s) (p0.length - 0) 0 p1 p0 h0 (by omega)
 exact⟨this.1,by omega⟩
theorem Qp2 (p0:List Tx) (p1:Int) (hs:Dat.small 1048576 p0): ∀ (n i:Nat) (s:Int) (y:List Tx),n=p0.length - i→y.length=p0.length→(∀ j,i≤j→nth y j=nth p0 j)→0≤s→s+12582917*n≤288230376151711744→
  0≤(Qfh p0 p1 n i s y).2∧(Qfh p0 p1 n i s y).2≤s+12582917*n:=by
 intro n
 induction n with
 | zero=>intro i s y _ _ _ h0 _;exact⟨h0,by show s≤s+12582917*((0:Nat):Int);omega⟩
 | succ n ih =>
  intro i s y hn hy he h0 h1
  have hw0:=(Qc6 (Qc6 (Qc6 (Qc6 (show 0≤s∧s≤s from⟨h0,Int.le_refl _⟩) (by omega)) (by omega)) (by omega)) (by omega))
  have hsm:Dat.small 1048576 (nth p0 i):=Qcf hs (by omega)
  have e:=he i (Nat.le_refl _)
  have hl0:(nth y i).Calls.length≤1048576:=by rw[e];exact hsm.2.2.2.2.1.1
  have hw1:=Qrh (p0:=(nth y i).Calls) hw0.1 (by omega) hl0
  have hl1:(nth y i).Answers.length≤1048576:=by rw[e];exact hsm.2.2.2.2.2.1.1
  have hw2:=Qhz (p0:=(nth y i).Answers) hw1.1 (by omega) hl1
  have hl2:(nth y i).Touch.Reads.length≤1048576:=by rw[e];exact hsm.2.2.2.2.2.2.1.1.1
  have hw3:=Qhy (p0:=(nth y i).Touch.Reads) hw2.1 (by omega) hl2
  have hl3:(nth y i).Touch.Writes.length≤1048576:=by rw[e];exact hsm.2.2.2.2.2.2.1.2.1
  have hw4:=Qhy (p0:=(nth y i).Touch.Writes) hw3.1 (by omega) hl3
  have hl4:(nth y i).Marks.length≤1048576:=by rw[e];exact hsm.2.2.2.2.2.2.2.1.1
  have hw5:=Qx2 (p0:=(nth y i).Marks) hw4.1 (by omega) hl4
  have hz:=(Qc6 (hi:=s+12582916) ⟨hw5.1,by omega⟩ (by omega))
  rw[Qfh]
  refine(ih (i+1) _ _ (by omega) (by rw[length_set];exact hy) (fun j hj=>?_) hz.1 (by omega)).imp id fun h=>Int.le_trans h (by omega)
  rw[Qiu (by omega)]
  exact he j (by omega)
theorem Qzl {p0:List Tx} {p1:Int} (hs:Dat.small 1048576 p0) (h0:0≤p1) (h1:p1≤100000000000000):0≤(Qdc p0 p1).2∧(Qdc p0 p1).2≤p1+13194144776192:=by
 have hl:p0.length≤1048576:=hs.1
 unfold Qdc
 have:=Qp2 p0 p1 hs _ 0 p1 p0 rfl rfl (fun _ _=>rfl) h0 (by omega)
 exact⟨this.1,by omega⟩
theorem Qm8 (p0:List Entry) (p1:Int) (hs:Dat.small 1048576 p0): ∀ (n i:Nat) (s:Int) (y:List Entry),n=p0.length - i→y.length=p0.length→(∀ j,i≤j→nth y j=nth p0 j)→0≤s→s+10485766*n≤288230376151711744→
  0≤(Qbo p0 p1 n i s y).2∧(Qbo p0 p1 n i s y).2≤s+10485766*n:=by
 intro n
 induction n with
 | zero=>intro i s y _ _ _ h0 _;exact⟨h0,by show s≤s+10485766*((0:Nat):Int);omega⟩
 | succ n ih =>
  intro i s y hn hy he h0 h1
  have hw0:=(Qc6 (Qc6 (Qc6 (show 0≤s∧s≤s from⟨h0,Int.le_refl _⟩) (by omega)) (by omega)) (by omega))
  have hsm:Dat.small 1048576 (nth p0 i):=Qcf hs (by omega)
  have e:=he i (Nat.le_refl _)
  have hl0:(nth y i).Steps.length≤1048576:=by rw[e];exact hsm.2.2.2.1.1
  have hw1:=Qlm (p0:=(nth y i).Steps) hw0.1 (by omega) hl0
  have hl1:(nth y i).Answers.length≤1048576:=by rw[e];exact hsm.2.2.2.2.1.1
  have hw2:=Qhz (p0:=(nth y i).Answers) hw1.1 (by omega) hl1
  have hz:=(Qc6 (hi:=s+10485763+1+1) (Qc6 (hi:=s+10485763+1) (Qc6 (hi:=s+10485763) ⟨hw2.1,by omega⟩ (by omega)) (by omega)) (by omega))
  rw[Qbo]
  refine(ih (i+1) _ _ (by omega) (by rw[length_set];exact hy) (fun j hj=>?_) hz.1 (by omega)).imp id fun h=>Int.le_trans h (by omega)
  rw[Qiu (by omega)]
  exact he j (by omega)
theorem Qkt {p0:List Entry} {p1:Int} (hs:Dat.small 1048576 p0) (h0:0≤p1) (h1:p1≤100000000000000):0≤(Qa5 p0 p1).2∧(Qa5 p0 p1).2≤p1+10995122569216:=by
 have hl:p0.length≤1048576:=hs.1
 unfold Qa5
 have:=Qm8 p0 p1 hs _ 0 p1 p0 rfl rfl (fun _ _=>rfl) h0 (by omega)
 exact⟨this.1,by omega⟩
theorem Qn0 (p0:List Slot) (p1:Int) (hs:Dat.small 1048576 p0): ∀ (n i:Nat) (s:Int) (y:List Slot),n=p0.length - i→y.length=p0.length→(∀ j,i≤j→nth y j=nth p0 j)→0≤s→s+2097154*n≤288230376151711744→
  0≤(Qen p0 p1 n i s y).2∧(Qen p0 p1 n i s y).2≤s+2097154*n:=by
 intro n
 induction n with
 | zero=>intro i s y _ _ _ h0 _;exact⟨h0,by show s≤s+2097154*((0:Nat):Int);omega⟩
 | succ n ih =>
  intro i s y hn hy he h0 h1
  have hw0:=(Qc6 (show 0≤s∧s≤s from⟨h0,Int.le_refl _⟩) (by omega))
  have hsm:Dat.small 1048576 (nth p0 i):=Qcf hs (by omega)
  have e:=he i (Nat.le_refl _)
  have hl0:(nth y i).Cells.length≤1048576:=by rw[e];exact hsm.2.1.1
  have hw1:=Qln (p0:=(nth y i).Cells) hw0.1 (by omega) hl0
  have hz:=(Qc6 (hi:=s+2097153) ⟨hw1.1,by omega⟩ (by omega))
  rw[Qen]
  refine(ih (i+1) _ _ (by omega) (by rw[length_set];exact hy) (fun j hj=>?_) hz.1 (by omega)).imp id fun h=>Int.le_trans h (by omega)
  rw[Qiu (by omega)]
  exact he j (by omega)
theorem Qrg {p0:List Slot} {p1:Int} (hs:Dat.small 1048576 p0) (h0:0≤p1) (h1:p1≤100000000000000):0≤(Qdo p0 p1).2∧(Qdo p0 p1).2≤p1+2199025352704:=by
 have hl:p0.length≤1048576:=hs.1
 unfold Qdo
 have:=Qn0 p0 p1 hs _ 0 p1 p0 rfl rfl (fun _ _=>rfl) h0 (by omega)
 exact⟨this.1,by omega⟩
end
section
theorem Qoy {k:Kernel} (hs:Dat.small 1048576 k):0≤Qfi k 1:=by
 have s0:Dat.small 1048576 k.Store:=hs.1
 have s1:Dat.small 1048576 k.Txs:=hs.2.1
 have s2:Dat.small 1048576 k.Disk.Slots:=hs.2.2.1.1
 have s3:Dat.small 1048576 k.History:=hs.2.2.2.2.2.2.1
 have s4:k.Seen.length≤1048576:=hs.2.2.2.2.2.2.2.1.1
 unfold Qfi Qgz
 have h1:=Qln (p0:=k.Store) (p1:=1) (by decide) (by decide) s0.1
 have h2:=Qzl (p1:=(Qas k.Store 1).2) s1 h1.1 (by omega)
 have h3:=Qrg (p1:=(Qdc k.Txs (Qas k.Store 1).2).2) s2 h2.1 (by omega)
 have h4:=Qkt (p1:=(Qdo k.Disk.Slots (Qdc k.Txs (Qas k.Store 1).2).2).2) s3 h3.1 (by omega)
 exact(Qhy (p0:=k.Seen) h4.1 (by omega) s4).1
end
section
theorem Q8a (p0:List Entry): ∀ n i,Qc5 p0 n i=p0:=by
 intro n
 induction n with
 | zero=>intro i;rfl
 | succ n ih=>intro i;rw[Qc5,ih]
theorem Yh1 (p0:List Entry):Qg1 p0=p0:=Q8a p0 _ _
theorem Ycq (k:Kernel):Qgf k=Qfv k:=by
 unfold Qgf Qfv
 rw[Q84,Qoh]
theorem Qlx (k : Kernel) : ∀ n v i, i + n = k.History.length → v = k.History.take i → Qcq k n v i = bif decide (Qay k.History (Qfv k) n i < 0) then k.History else k.History.take (Qay k.History (Qfv k) n i).toNat := by
 intro n
 induction n with
 | zero =>
  intro v i hi hv
  rw[Qcq,Qay,hv,List.take_of_length_le (by omega)]
  rfl
 | succ n ih =>
  intro v i hi hv
  rw[Qcq,Qay]
  unfold Qke
  cases(nth k.History i).Laid&&decide ((nth k.History i).Seq>Qfv k) with
  | true =>
   rw[cond_true,cond_true,decide_eq_false (show ¬ ((i:Nat):Int)<0 by omega),cond_false,hv]
   rfl
  | false =>
   rw[cond_false,cond_false]
   refine ih _ (i+1) (by omega) ?_
   rw[hv,Qid (by omega)]
   rfl
theorem Qyo (k:Kernel):Qbc k=Qb9 k:=by
 unfold Qbc Qna Qb9 Qgp Qcg
 rw[Yh1,Ycq,Qlx k _ ([]:List Entry) 0 (by omega) rfl]
end
section
theorem Qq8 (p0:List Answer) (p1:Int): ∀ n i s y,(Qbe p0 p1 n i s y).1.length=y.length:=by
 intro n
 induction n with
 | zero=>intro i s y;rfl
 | succ n ih=>intro i s y;rw[Qbe,ih,length_set]
theorem Qor (p0:List Answer) (p1:Int): ∀ n i s y j,j<i→nth (Qbe p0 p1 n i s y).1 j=nth y j:=by
 intro n
 induction n with
 | zero=>intro i s y j _;rfl
 | succ n ih=>intro i s y j h;rw[Qbe,ih _ _ _ _ (by omega),Qiu (by omega)]
theorem Q76 (p0:List Answer) (p1 q:Int): ∀ n i s y,i+n≤y.length→Qc4 (Qbe p0 p1 n i s y).1 q n s i=(Qbe p0 p1 n i s y).2:=by
 intro n
 induction n with
 | zero=>intro i s y _;rfl
 | succ n ih =>
  intro i s y h
  rw[Qbe,Qc4,Qor p0 p1 _ _ _ _ _ (Nat.lt_succ_self i),Qm5 (by omega)]
  simp only[decide_true,Bool.not_true,cond_false]
  exact ih (i+1) _ _ (by rw[length_set];omega)
theorem Ql5 (p0:List Answer) (p1:Int):Qdq (Qac p0 p1).1 p1=(Qac p0 p1).2:=by
 unfold Qdq Qac
 rw[Qq8]
 exact Q76 p0 p1 p1 _ 0 p1 p0 (by omega)
theorem Qze (p0:List Step) (p1:Int): ∀ n i s y,(Qbq p0 p1 n i s y).1.length=y.length:=by
 intro n
 induction n with
 | zero=>intro i s y;rfl
 | succ n ih=>intro i s y;rw[Qbq,ih,length_set]
theorem Qq7 (p0:List Step) (p1:Int): ∀ n i s y j,j<i→nth (Qbq p0 p1 n i s y).1 j=nth y j:=by
 intro n
 induction n with
 | zero=>intro i s y j _;rfl
 | succ n ih=>intro i s y j h;rw[Qbq,ih _ _ _ _ (by omega),Qiu (by omega)]
theorem Ydc (p0:List Step) (p1 q:Int): ∀ n i s y,i+n≤y.length→Qd0 (Qbq p0 p1 n i s y).1 q n s i=(Qbq p0 p1 n i s y).2:=by
 intro n
 induction n with
 | zero=>intro i s y _;rfl
 | succ n ih =>
  intro i s y h
  rw[Qbq,Qd0,Qq7 p0 p1 _ _ _ _ _ (Nat.lt_succ_self i),Qm5 (by omega)]
  simp only[decide_true,Bool.not_true,cond_false]
  exact ih (i+1) _ _ (by rw[length_set];omega)
theorem Qm9 (p0:List Step) (p1:Int):Qdp (Qah p0 p1).1 p1=(Qah p0 p1).2:=by
 unfold Qdp Qah
 rw[Qze]
 exact Ydc p0 p1 p1 _ 0 p1 p0 (by omega)
theorem Qxw (p0:List Entry) (p1:Int): ∀ n i s y,(Qbo p0 p1 n i s y).1.length=y.length:=by
 intro n
 induction n with
 | zero=>intro i s y;rfl
 | succ n ih=>intro i s y;rw[Qbo,ih,length_set]
theorem Qpo (p0:List Entry) (p1:Int): ∀ n i s y j,j<i→nth (Qbo p0 p1 n i s y).1 j=nth y j:=by
 intro n
 induction n with
 | zero=>intro i s y j _;rfl
 | succ n ih=>intro i s y j h;rw[Qbo,ih _ _ _ _ (by omega),Qiu (by omega)]
theorem Yb7 (p0:List Entry) (p1 q:Int) (hs:Dat.small 1048576 p0): ∀ (n i:Nat) (s:Int) (y:List Entry),n=p0.length - i→y.length=p0.length→(∀ j,i≤j→nth y j=nth p0 j)→0≤s→s+10485766*n≤288230376151711744→
  Qdg (Qbo p0 p1 n i s y).1 q n s i=(Qbo p0 p1 n i s y).2:=by
 intro n
 induction n with
 | zero=>intro i s y _ _ _ _ _;rfl
 | succ n ih =>
  intro i s y hn hy he h0 h1
  have hw0:=(Qc6 (Qc6 (Qc6 (show 0≤s∧s≤s from⟨h0,Int.le_refl _⟩) (by omega)) (by omega)) (by omega))
  have hsm:Dat.small 1048576 (nth p0 i):=Qcf hs (by omega)
  have e:=he i (Nat.le_refl _)
  have hl0:(nth y i).Steps.length≤1048576:=by rw[e];exact hsm.2.2.2.1.1
  have hw1:=Qlm (p0:=(nth y i).Steps) hw0.1 (by omega) hl0
  have hl1:(nth y i).Answers.length≤1048576:=by rw[e];exact hsm.2.2.2.2.1.1
  have hw2:=Qhz (p0:=(nth y i).Answers) hw1.1 (by omega) hl1
  have hz:=(Qc6 (hi:=s+10485763+1+1) (Qc6 (hi:=s+10485763+1) (Qc6 (hi:=s+10485763) ⟨hw2.1,by omega⟩ (by omega)) (by omega)) (by omega))
  rw[Qbo,Qdg,Qpo p0 p1 _ _ _ _ _ (Nat.lt_succ_self i),Qm5 (by omega)]
  dsimp only
  rw[Qm9,Ql5]
  simp only[decide_true,decide_eq_false (show ¬ (Qah ((nth y i).Steps) (i64.wrap (i64.wrap (i64.wrap (s+1)+1)+1))).2<0 by omega),decide_eq_false (show ¬ (Qac ((nth y i).Answers) ((Qah ((nth y i).Steps) (i64.wrap (i64.wrap (i64.wrap (s+1)+1)+1))).2)).2<0 by omega),Bool.not_true,cond_false]
  refine ih (i+1) _ _ (by omega) (by rw[length_set];exact hy) (fun j hj=>?_) hz.1 (by omega)
  rw[Qiu (by omega)]
  exact he j (by omega)
theorem Qms {p0:List Entry} (hs:Dat.small 1048576 p0):Qe1 (Qa5 p0 1).1 1=(Qa5 p0 1).2∧0≤(Qa5 p0 1).2:=by
 have hl:p0.length≤1048576:=hs.1
 refine⟨?_,(Qkt hs (by decide) (by decide)).1⟩
 unfold Qe1 Qa5
 rw[Qxw]
 exact Yb7 p0 1 1 hs _ 0 1 p0 rfl rfl (fun _ _=>rfl) (by decide) (by omega)
theorem Yho {xs:List Entry} {N:Nat} (h:Dat.small N xs) (n:Nat):Dat.small N (xs.take n):=⟨by rw[List.length_take];have:=h.1;omega,fun x hx=>h.2 x (List.mem_of_mem_take hx)⟩
end
section
theorem Qr0 {k:Kernel} (hs:Dat.small 1048576 k):Dat.small 1048576 (Qb9 k):=by
 have h:=hs.2.2.2.2.2.2.1
 unfold Qb9
 rw[Qlx k _ ([]:List Entry) 0 (by omega) rfl]
 cases decide (Qay k.History (Qfv k) (k.History.length - 0) 0<0) with
 | true=>exact h
 | false=>exact Yho h _
end
section
theorem Q83 {P:Program} {W:World} {H:Type} {enc:TypeId×Value→H} {sp:Nat→Bool} {b:Bool} {fuel t g:Nat} {x:List MemPlace} {cs:Array Value} {nm nm2:String} {d:DataW H} {ms:Array (String×TypeId)}
  (hg:P.globalNamed nm=some g) (hu:P.underlying t=some (.interface ms)) (hv:W.var? P nm=some cs) (hd:DataW.trod enc P W 0 sp b fuel t cs.toList=some (.iface nm2 d,x)):GE g W:=by
 have key: ∃ u v,cs.toList=[.iface u v]:=by
  cases fuel with
  | zero=>simp[DataW.trod] at hd
  | succ n =>
   generalize cs.toList=l at hd ⊢
   rcases l with _ | ⟨c,_ | ⟨c2,r⟩⟩
   ·simp[DataW.trod,hu] at hd
   ·cases c<;>first | exact⟨_,_,rfl⟩ | simp[DataW.trod,hu] at hd
   ·simp[DataW.trod,hu] at hd
 obtain⟨u,v,e⟩:=key
 obtain⟨T,fr,h⟩:=Yl6 hg hv e
 refine⟨u,v,?_⟩
 simp[World.cell?,h]
end
end Go.Proofs.YtppialklomgajaaGreatDoor.Fw
