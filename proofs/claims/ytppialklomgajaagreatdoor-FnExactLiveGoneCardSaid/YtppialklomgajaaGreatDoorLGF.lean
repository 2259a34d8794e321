/-
  The texts HT, HQ, XL, GEi of this proof, one behind the other: what each proves stands at its head. No condition.
-/
import Derived.Test.YtppialklomgajaaGreatDoorLGA
import Derived.Test.YtppialklomgajaaGreatDoorLGB
import Derived.Test.YtppialklomgajaaGreatDoorLGC
import Derived.Test.YtppialklomgajaaGreatDoorLGD
import Derived.Test.YtppialklomgajaaGreatDoorLGE
set_option linter.unusedVariables false
set_option linter.unusedSimpArgs false
set_option maxRecDepth 100000
namespace Go.Proofs.YtppialklomgajaaGreatDoor.Fw
open Go.RowKit
section
set_option maxHeartbeats 2000000
theorem Yp4:FnOk Tryz.prog 18:=⟨_,Tryz.func18,rfl,by kernel_rfl⟩
theorem Yvv:FnOk Tryz.prog 24:=⟨_,Tryz.func24,rfl,by kernel_rfl⟩
theorem Yq6:FnOk Tryz.prog 38:=⟨_,Tryz.func38,rfl,by kernel_rfl⟩
theorem Yvo:FnOk Tryz.prog 39:=⟨_,Tryz.func39,rfl,by kernel_rfl⟩
theorem Yvn:FnOk Tryz.prog 40:=⟨_,Tryz.func40,rfl,by kernel_rfl⟩
theorem Yvm:FnOk Tryz.prog 41:=⟨_,Tryz.func41,rfl,by kernel_rfl⟩
theorem Yp2:FnOk Tryz.prog 42:=⟨_,Tryz.func42,rfl,by kernel_rfl⟩
theorem Yq5:FnOk Tryz.prog 45:=⟨_,Tryz.func45,rfl,by kernel_rfl⟩
theorem Yvk:FnOk Tryz.prog 46:=⟨_,Tryz.func46,rfl,by kernel_rfl⟩
theorem Yvj:FnOk Tryz.prog 47:=⟨_,Tryz.func47,rfl,by kernel_rfl⟩
theorem Yvd:FnOk Tryz.prog 63:=⟨_,Tryz.func63,rfl,by kernel_rfl⟩
theorem Yu3:FnOk Tryz.prog 83:=⟨_,Tryz.func83,rfl,by kernel_rfl⟩
theorem Yu2:FnOk Tryz.prog 84:=⟨_,Tryz.func84,rfl,by kernel_rfl⟩
theorem Yu1:FnOk Tryz.prog 85:=⟨_,Tryz.func85,rfl,by kernel_rfl⟩
theorem Yu0:FnOk Tryz.prog 86:=⟨_,Tryz.func86,rfl,by kernel_rfl⟩
theorem Yuz:FnOk Tryz.prog 87:=⟨_,Tryz.func87,rfl,by kernel_rfl⟩
theorem Yux:FnOk Tryz.prog 94:=⟨_,Tryz.func94,rfl,by kernel_rfl⟩
theorem Yuw:FnOk Tryz.prog 95:=⟨_,Tryz.func95,rfl,by kernel_rfl⟩
theorem Yuv:FnOk Tryz.prog 96:=⟨_,Tryz.func96,rfl,by kernel_rfl⟩
theorem Yuu:FnOk Tryz.prog 97:=⟨_,Tryz.func97,rfl,by kernel_rfl⟩
theorem Ys9:FnOk Tryz.prog 122:=⟨_,Tryz.func122,rfl,by kernel_rfl⟩
theorem Yoz:FnOk Tryz.prog 123:=⟨_,Tryz.func123,rfl,by kernel_rfl⟩
theorem Yss:FnOk Tryz.prog 152:=⟨_,Tryz.func152,rfl,by kernel_rfl⟩
theorem Yov:FnOk Tryz.prog 153:=⟨_,Tryz.func153,rfl,by kernel_rfl⟩
theorem Ysr:FnOk Tryz.prog 154:=⟨_,Tryz.func154,rfl,by kernel_rfl⟩
theorem Ysq:FnOk Tryz.prog 155:=⟨_,Tryz.func155,rfl,by kernel_rfl⟩
theorem Ysp:FnOk Tryz.prog 156:=⟨_,Tryz.func156,rfl,by kernel_rfl⟩
theorem Yso:FnOk Tryz.prog 157:=⟨_,Tryz.func157,rfl,by kernel_rfl⟩
theorem Ysi:FnOk Tryz.prog 169:=⟨_,Tryz.func169,rfl,by kernel_rfl⟩
theorem Ysh:FnOk Tryz.prog 170:=⟨_,Tryz.func170,rfl,by kernel_rfl⟩
theorem Ysg:FnOk Tryz.prog 171:=⟨_,Tryz.func171,rfl,by kernel_rfl⟩
theorem Ysf:FnOk Tryz.prog 172:=⟨_,Tryz.func172,rfl,by kernel_rfl⟩
theorem Ysc:FnOk Tryz.prog 183:=⟨_,Tryz.func183,rfl,by kernel_rfl⟩
theorem Ysb:FnOk Tryz.prog 184:=⟨_,Tryz.func184,rfl,by kernel_rfl⟩
theorem Yok:FnOk Tryz.prog 212:=⟨_,Tryz.func212,rfl,by kernel_rfl⟩
theorem Yr2:FnOk Tryz.prog 213:=⟨_,Tryz.func213,rfl,by kernel_rfl⟩
theorem Yr1:FnOk Tryz.prog 214:=⟨_,Tryz.func214,rfl,by kernel_rfl⟩
theorem Yoj:FnOk Tryz.prog 223:=⟨_,Tryz.func223,rfl,by kernel_rfl⟩
def Qhl (p0:Cell):Cell:=p0
theorem Q9z (p0:Cell):CTs 83 [.o (.st Cell _ inferInstance p0)] [Re.st Cell _ inferInstance (Qhl p0)]:=by
 refine en Tryz.func83 Tryz.ntmps83 fun w hG hgd=>?_
 obtain⟨hg_p0,_⟩:=hgd
 have hM:=Qhl.eq_1 p0
 refine ad 28 ?_
 exact rz (rs:=[.cell 2 114]) (congrArg (fun x=>[Re.st Cell _ inferInstance x]) hM)
def Qev (p0:List Cell):Nat→(List Cell)→Nat→(List Cell)
 | 0,w1,i=>w1
 | n+1,w1,i=>Qev p0 n (w1.set i (Qhl (nth p0 i))) (i+1)
def Qgy (p0:List Cell):(List Cell):=Qev p0 (p0.length - 0) (List.replicate p0.length (Cell.mk ⟨#[]⟩ ⟨#[]⟩)) 0
theorem Qpm (p0:List Cell) (hs:Dat.small 1048576 p0):CTs 38 [.o (.sl Cell instDatCell p0)] [Re.sl Cell instDatCell (Qgy p0)]:=by
 refine en Tryz.func38 Tryz.ntmps38 fun w hG hgd=>?_
 obtain⟨hg_p0,_⟩:=hgd
 have hl_p0:p0.length≤9223372036854775807:=hg_p0.1
 have hM:=Qgy.eq_1 p0
 have hs0:p0.length≤1048576:=hs.1
 refine ad 8 ?_
 refine op (ma p0.length (Cell.mk ⟨#[]⟩ ⟨#[]⟩)) ?_
 refine ad 8 ?_
 refine Run.loopM (ι:=(List Cell)×Nat) (fun s=>Qev p0 (p0.length - s.2) s.1 s.2) (fun s=>⟨23,2,[(0,.sl 0 p0.length),(3,.sl 1 s.1.length),(4,.v (.int .i64 (s.2:Int)))],[(0,.ros Cell instDatCell p0),(1,.own Cell instDatCell s.1)]⟩) (fun s=>s.2≤p0.length∧s.1.length=p0.length) (fun s=>p0.length - s.2) ((List.replicate p0.length (Cell.mk ⟨#[]⟩ ⟨#[]⟩)),0) [0,1] [1,0] hM lv0 su (by decide) ?_
 rintro ⟨w1,i⟩ hv hE
 try dsimp only at hE
 obtain⟨hi,hv0⟩:=hv
 try dsimp only at hi hv0
 refine ad 8 ?_
 refine cd (fun h1=>?_) (fun h1=>?_)
 ·
  have h1l:i<p0.length:=by have:=of_decide_eq_true h1;omega
  have hM:=hE.trans ((congrArg (fun n=>Qev p0 n w1 i) (show p0.length - i=(p0.length - (i+1))+1 by omega)).trans (Qev.eq_2 _ _ _ _))
  refine ad 8 ?_
  have hg3:=Qan (k:=i) hg_p0 om
  refine op (ix (xs:=p0) i om) ?_
  refine ad 1 ?_
  have hg4:Dat.good (nth p0 i:Cell):=hg3
  refine og (clg (Q9z (nth p0 i)) Yu3) fun hgq=>?_
  obtain⟨hg5,_⟩:=hgq
  refine op (oi (xs:=w1) i om) ?_
  refine op (se (xs:=w1) i (Qhl (nth p0 i)) hg5 om) ?_
  refine ad 5 ?_
  rw[Qcv (i:=i) om]
  refine ad 2 ?_
  exact Run.again ((w1.set i (Qhl (nth p0 i))),(i+1)) [0,3] [2,0] ⟨by first | omega | exact trivial | (dsimp only;omega) | (refine⟨by omega,?_⟩;simp_all;try omega),hM⟩ rfl lv1 su (by decide)
 ·
  have h1l: ¬ (i<p0.length):=by have:=of_decide_eq_false h1;omega
  have hM:=hE.trans ((congrArg (fun n=>Qev p0 n w1 i) (show p0.length - i=0 by omega)).trans (Qev.eq_1 _ _ _))
  refine ad 6 ?_
  exact rz (rs:=[.tmp 2]) (congrArg (fun x=>[Re.sl Cell instDatCell x]) hM)
def Qgo (p0:Call):Call:=p0
theorem Qrt (p0:Call):CTs 212 [.o (.st Call _ inferInstance p0)] [Re.st Call _ inferInstance (Qgo p0)]:=by
 refine en Tryz.func212 Tryz.ntmps212 fun w hG hgd=>?_
 obtain⟨hg_p0,_⟩:=hgd
 have hM:=Qgo.eq_1 p0
 refine ad 56 ?_
 exact rz (rs:=[.cell 2 149]) (congrArg (fun x=>[Re.st Call _ inferInstance x]) hM)
def Qew (p0:List Call):Nat→(List Call)→Nat→(List Call)
 | 0,w1,i=>w1
 | n+1,w1,i=>Qew p0 n (w1.set i (Qgo (nth p0 i))) (i+1)
def Qig (p0:List Call):(List Call):=Qew p0 (p0.length - 0) (List.replicate p0.length (Call.mk 0 ⟨#[]⟩ ⟨#[]⟩ 0 0 ⟨#[]⟩)) 0
theorem Q2m (p0:List Call) (hs:Dat.small 1048576 p0):CTs 152 [.o (.sl Call instDatCall p0)] [Re.sl Call instDatCall (Qig p0)]:=by
 refine en Tryz.func152 Tryz.ntmps152 fun w hG hgd=>?_
 obtain⟨hg_p0,_⟩:=hgd
 have hl_p0:p0.length≤9223372036854775807:=hg_p0.1
 have hM:=Qig.eq_1 p0
 have hs0:p0.length≤1048576:=hs.1
 refine ad 8 ?_
 refine op (ma p0.length (Call.mk 0 ⟨#[]⟩ ⟨#[]⟩ 0 0 ⟨#[]⟩) (ho:=gdz)) ?_
 refine ad 8 ?_
 refine Run.loopM (ι:=(List Call)×Nat) (fun s=>Qew p0 (p0.length - s.2) s.1 s.2) (fun s=>⟨23,2,[(0,.sl 0 p0.length),(3,.sl 1 s.1.length),(4,.v (.int .i64 (s.2:Int)))],[(0,.ros Call instDatCall p0),(1,.own Call instDatCall s.1)]⟩) (fun s=>s.2≤p0.length∧s.1.length=p0.length) (fun s=>p0.length - s.2) ((List.replicate p0.length (Call.mk 0 ⟨#[]⟩ ⟨#[]⟩ 0 0 ⟨#[]⟩)),0) [0,1] [1,0] hM lv0 su (by decide) ?_
 rintro ⟨w1,i⟩ hv hE
 try dsimp only at hE
 obtain⟨hi,hv0⟩:=hv
 try dsimp only at hi hv0
 refine ad 8 ?_
 refine cd (fun h1=>?_) (fun h1=>?_)
 ·
  have h1l:i<p0.length:=by have:=of_decide_eq_true h1;omega
  have hM:=hE.trans ((congrArg (fun n=>Qew p0 n w1 i) (show p0.length - i=(p0.length - (i+1))+1 by omega)).trans (Qew.eq_2 _ _ _ _))
  refine ad 8 ?_
  have hg3:=Qan (k:=i) hg_p0 om
  refine op (ix (xs:=p0) i om) ?_
  refine ad 1 ?_
  have hg4:Dat.good (nth p0 i:Call):=hg3
  refine og (clg (Qrt (nth p0 i)) Yok) fun hgq=>?_
  obtain⟨hg5,_⟩:=hgq
  refine op (oi (xs:=w1) i om) ?_
  refine op (se (xs:=w1) i (Qgo (nth p0 i)) hg5 om) ?_
  refine ad 5 ?_
  rw[Qcv (i:=i) om]
  refine ad 2 ?_
  exact Run.again ((w1.set i (Qgo (nth p0 i))),(i+1)) [0,3] [2,0] ⟨by first | omega | exact trivial | (dsimp only;omega) | (refine⟨by omega,?_⟩;simp_all;try omega),hM⟩ rfl lv1 su (by decide)
 ·
  have h1l: ¬ (i<p0.length):=by have:=of_decide_eq_false h1;omega
  have hM:=hE.trans ((congrArg (fun n=>Qew p0 n w1 i) (show p0.length - i=0 by omega)).trans (Qew.eq_1 _ _ _))
  refine ad 6 ?_
  exact rz (rs:=[.tmp 2]) (congrArg (fun x=>[Re.sl Call instDatCall x]) hM)
def Qgj (p0:Answer):Answer:=p0
theorem Q1a (p0:Answer):CTs 213 [.o (.st Answer _ inferInstance p0)] [Re.st Answer _ inferInstance (Qgj p0)]:=by
 refine en Tryz.func213 Tryz.ntmps213 fun w hG hgd=>?_
 obtain⟨hg_p0,_⟩:=hgd
 have hM:=Qgj.eq_1 p0
 refine ad 35 ?_
 exact rz (rs:=[.cell 2 154]) (congrArg (fun x=>[Re.st Answer _ inferInstance x]) hM)
def Qdr (p0:List Answer):Nat→(List Answer)→Nat→(List Answer)
 | 0,w1,i=>w1
 | n+1,w1,i=>Qdr p0 n (w1.set i (Qgj (nth p0 i))) (i+1)
def Qf6 (p0:List Answer):(List Answer):=Qdr p0 (p0.length - 0) (List.replicate p0.length (Answer.mk 0 0 ⟨#[]⟩)) 0
theorem Qnk (p0:List Answer) (hs:Dat.small 1048576 p0):CTs 153 [.o (.sl Answer instDatAnswer p0)] [Re.sl Answer instDatAnswer (Qf6 p0)]:=by
 refine en Tryz.func153 Tryz.ntmps153 fun w hG hgd=>?_
 obtain⟨hg_p0,_⟩:=hgd
 have hl_p0:p0.length≤9223372036854775807:=hg_p0.1
 have hM:=Qf6.eq_1 p0
 have hs0:p0.length≤1048576:=hs.1
 refine ad 8 ?_
 refine op (ma p0.length (Answer.mk 0 0 ⟨#[]⟩) (ho:=gdz)) ?_
 refine ad 8 ?_
 refine Run.loopM (ι:=(List Answer)×Nat) (fun s=>Qdr p0 (p0.length - s.2) s.1 s.2) (fun s=>⟨23,2,[(0,.sl 0 p0.length),(3,.sl 1 s.1.length),(4,.v (.int .i64 (s.2:Int)))],[(0,.ros Answer instDatAnswer p0),(1,.own Answer instDatAnswer s.1)]⟩) (fun s=>s.2≤p0.length∧s.1.length=p0.length) (fun s=>p0.length - s.2) ((List.replicate p0.length (Answer.mk 0 0 ⟨#[]⟩)),0) [0,1] [1,0] hM lv0 su (by decide) ?_
 rintro ⟨w1,i⟩ hv hE
 try dsimp only at hE
 obtain⟨hi,hv0⟩:=hv
 try dsimp only at hi hv0
 refine ad 8 ?_
 refine cd (fun h1=>?_) (fun h1=>?_)
 ·
  have h1l:i<p0.length:=by have:=of_decide_eq_true h1;omega
  have hM:=hE.trans ((congrArg (fun n=>Qdr p0 n w1 i) (show p0.length - i=(p0.length - (i+1))+1 by omega)).trans (Qdr.eq_2 _ _ _ _))
  refine ad 8 ?_
  have hg3:=Qan (k:=i) hg_p0 om
  refine op (ix (xs:=p0) i om) ?_
  refine ad 1 ?_
  have hg4:Dat.good (nth p0 i:Answer):=hg3
  refine og (clg (Q1a (nth p0 i)) Yr2) fun hgq=>?_
  obtain⟨hg5,_⟩:=hgq
  refine op (oi (xs:=w1) i om) ?_
  refine op (se (xs:=w1) i (Qgj (nth p0 i)) hg5 om) ?_
  refine ad 5 ?_
  rw[Qcv (i:=i) om]
  refine ad 2 ?_
  exact Run.again ((w1.set i (Qgj (nth p0 i))),(i+1)) [0,3] [2,0] ⟨by first | omega | exact trivial | (dsimp only;omega) | (refine⟨by omega,?_⟩;simp_all;try omega),hM⟩ rfl lv1 su (by decide)
 ·
  have h1l: ¬ (i<p0.length):=by have:=of_decide_eq_false h1;omega
  have hM:=hE.trans ((congrArg (fun n=>Qdr p0 n w1 i) (show p0.length - i=0 by omega)).trans (Qdr.eq_1 _ _ _))
  refine ad 6 ?_
  exact rz (rs:=[.tmp 2]) (congrArg (fun x=>[Re.sl Answer instDatAnswer x]) hM)
def Qdp (p0:List ByteArray):Nat→(List ByteArray)→Nat→(List ByteArray)
 | 0,w1,i=>w1
 | n+1,w1,i=>Qdp p0 n (w1.set i (nth p0 i)) (i+1)
def Qeo (p0:List ByteArray):(List ByteArray):=Qdp p0 (p0.length - 0) (List.replicate p0.length (⟨#[]⟩:ByteArray)) 0
theorem Qj8 (p0:List ByteArray) (hs:Dat.small 1048576 p0):CTs 42 [.o (.sl ByteArray instDatByteArray p0)] [Re.sl ByteArray instDatByteArray (Qeo p0)]:=by
 refine en Tryz.func42 Tryz.ntmps42 fun w hG hgd=>?_
 obtain⟨hg_p0,_⟩:=hgd
 have hl_p0:p0.length≤9223372036854775807:=hg_p0.1
 have hM:=Qeo.eq_1 p0
 have hs0:p0.length≤1048576:=hs.1
 refine ad 8 ?_
 refine op (ma p0.length (⟨#[]⟩:ByteArray)) ?_
 refine ad 8 ?_
 refine Run.loopM (ι:=(List ByteArray)×Nat) (fun s=>Qdp p0 (p0.length - s.2) s.1 s.2) (fun s=>⟨22,2,[(0,.sl 0 p0.length),(3,.sl 1 s.1.length),(4,.v (.int .i64 (s.2:Int)))],[(0,.ros ByteArray instDatByteArray p0),(1,.own ByteArray instDatByteArray s.1)]⟩) (fun s=>s.2≤p0.length∧s.1.length=p0.length) (fun s=>p0.length - s.2) ((List.replicate p0.length (⟨#[]⟩:ByteArray)),0) [0,1] [1,0] hM lv0 su (by decide) ?_
 rintro ⟨w1,i⟩ hv hE
 try dsimp only at hE
 obtain⟨hi,hv0⟩:=hv
 try dsimp only at hi hv0
 refine ad 8 ?_
 refine cd (fun h1=>?_) (fun h1=>?_)
 ·
  have h1l:i<p0.length:=by have:=of_decide_eq_true h1;omega
  have hM:=hE.trans ((congrArg (fun n=>Qdp p0 n w1 i) (show p0.length - i=(p0.length - (i+1))+1 by omega)).trans (Qdp.eq_2 _ _ _ _))
  refine ad 8 ?_
  have hg3:=Qan (k:=i) hg_p0 om
  refine op (ix (xs:=p0) i om) ?_
  refine ad 1 ?_
  refine op (oi (xs:=w1) i om) ?_
  refine op (se (xs:=w1) i (nth p0 i) hg3 om) ?_
  refine ad 5 ?_
  rw[Qcv (i:=i) om]
  refine ad 2 ?_
  exact Run.again ((w1.set i (nth p0 i)),(i+1)) [0,3] [2,0] ⟨by first | omega | exact trivial | (dsimp only;omega) | (refine⟨by omega,?_⟩;simp_all;try omega),hM⟩ rfl lv1 su (by decide)
 ·
  have h1l: ¬ (i<p0.length):=by have:=of_decide_eq_false h1;omega
  have hM:=hE.trans ((congrArg (fun n=>Qdp p0 n w1 i) (show p0.length - i=0 by omega)).trans (Qdp.eq_1 _ _ _))
  refine ad 6 ?_
  exact rz (rs:=[.tmp 2]) (congrArg (fun x=>[Re.sl ByteArray instDatByteArray x]) hM)
def Qid (p0:Touch):Touch:=(Touch.mk (Qeo p0.Reads) (Qeo p0.Writes))
theorem Q2i (p0:Touch) (hs:Dat.small 1048576 p0):CTs 154 [.o (.st Touch _ inferInstance p0)] [Re.st Touch _ inferInstance (Qid p0)]:=by
 refine en Tryz.func154 Tryz.ntmps154 fun w hG hgd=>?_
 obtain⟨hg_p0,_⟩:=hgd
 have hM:=Qid.eq_1 p0
 have hs0:Dat.small 1048576 p0.Reads:=hs.1
 have hs1:Dat.small 1048576 p0.Writes:=hs.2
 refine ad 13 ?_
 refine og (clg (Qj8 p0.Reads (by first | assumption | exact Qcs hs (by omega))) Yp2) fun hgq=>?_
 obtain⟨hg1,_⟩:=hgq
 refine ad 7 ?_
 refine og (clg (Qj8 p0.Writes (by first | assumption | exact Qcs hs (by omega))) Yp2) fun hgq=>?_
 obtain⟨hg2,_⟩:=hgq
 refine ad 8 ?_
 have hg3:Dat.good (Touch.mk (Qeo p0.Reads) (Qeo p0.Writes):Touch):=⟨hg1,hg2⟩
 exact rz (rs:=[.cell 2 117]) (congrArg (fun x=>[Re.st Touch _ inferInstance x]) hM)
def Qfj (p0:List Int):Nat→(List Int)→Nat→(List Int)
 | 0,w1,i=>w1
 | n+1,w1,i=>Qfj p0 n (w1.set i (nth p0 i)) (i+1)
def Qjc (p0:List Int):(List Int):=Qfj p0 (p0.length - 0) (List.replicate p0.length (0:Int)) 0
theorem Q9x (p0:List Int) (hs:Dat.small 1048576 p0):CTs 155 [.o (.sl Int instDatInt p0)] [Re.sl Int instDatInt (Qjc p0)]:=by
 refine en Tryz.func155 Tryz.ntmps155 fun w hG hgd=>?_
 obtain⟨hg_p0,_⟩:=hgd
 have hl_p0:p0.length≤9223372036854775807:=hg_p0.1
 have hM:=Qjc.eq_1 p0
 have hs0:p0.length≤1048576:=hs.1
 refine ad 8 ?_
 refine op (ma p0.length (0:Int)) ?_
 refine ad 8 ?_
 refine Run.loopM (ι:=(List Int)×Nat) (fun s=>Qfj p0 (p0.length - s.2) s.1 s.2) (fun s=>⟨22,2,[(0,.sl 0 p0.length),(3,.sl 1 s.1.length),(4,.v (.int .i64 (s.2:Int)))],[(0,.ros Int instDatInt p0),(1,.own Int instDatInt s.1)]⟩) (fun s=>s.2≤p0.length∧s.1.length=p0.length) (fun s=>p0.length - s.2) ((List.replicate p0.length (0:Int)),0) [0,1] [1,0] hM lv0 su (by decide) ?_
 rintro ⟨w1,i⟩ hv hE
 try dsimp only at hE
 obtain⟨hi,hv0⟩:=hv
 try dsimp only at hi hv0
 refine ad 8 ?_
 refine cd (fun h1=>?_) (fun h1=>?_)
 ·
  have h1l:i<p0.length:=by have:=of_decide_eq_true h1;omega
  have hM:=hE.trans ((congrArg (fun n=>Qfj p0 n w1 i) (show p0.length - i=(p0.length - (i+1))+1 by omega)).trans (Qfj.eq_2 _ _ _ _))
  refine ad 8 ?_
  have hg3:=Qan (k:=i) hg_p0 om
  refine op (ix (xs:=p0) i om) ?_
  refine ad 1 ?_
  refine op (oi (xs:=w1) i om) ?_
  refine op (se (xs:=w1) i (nth p0 i) hg3 om) ?_
  refine ad 5 ?_
  rw[Qcv (i:=i) om]
  refine ad 2 ?_
  exact Run.again ((w1.set i (nth p0 i)),(i+1)) [0,3] [2,0] ⟨by first | omega | exact trivial | (dsimp only;omega) | (refine⟨by omega,?_⟩;simp_all;try omega),hM⟩ rfl lv1 su (by decide)
 ·
  have h1l: ¬ (i<p0.length):=by have:=of_decide_eq_false h1;omega
  have hM:=hE.trans ((congrArg (fun n=>Qfj p0 n w1 i) (show p0.length - i=0 by omega)).trans (Qfj.eq_1 _ _ _))
  refine ad 6 ?_
  exact rz (rs:=[.tmp 2]) (congrArg (fun x=>[Re.sl Int instDatInt x]) hM)
def Qjs (p0:Tx):Tx:=(Tx.mk p0.Id p0.Age p0.Proc p0.Began (Qig p0.Calls) (Qf6 p0.Answers) (Qid p0.Touch) (Qjc p0.Marks) p0.State)
theorem Ye8 (p0:Tx) (hs:Dat.small 1048576 p0):CTs 84 [.o (.st Tx _ inferInstance p0)] [Re.st Tx _ inferInstance (Qjs p0)]:=by
 refine en Tryz.func84 Tryz.ntmps84 fun w hG hgd=>?_
 obtain⟨hg_p0,_⟩:=hgd
 have hM:=Qjs.eq_1 p0
 have hs4:Dat.small 1048576 p0.Calls:=hs.2.2.2.2.1
 have hs5:Dat.small 1048576 p0.Answers:=hs.2.2.2.2.2.1
 have hs6:Dat.small 1048576 p0.Touch:=hs.2.2.2.2.2.2.1
 have hs7:Dat.small 1048576 p0.Marks:=hs.2.2.2.2.2.2.2.1
 refine ad 41 ?_
 refine og (clg (Q2m p0.Calls (by first | assumption | exact Qcs hs (by omega))) Yss) fun hgq=>?_
 obtain⟨hg1,_⟩:=hgq
 refine ad 7 ?_
 refine og (clg (Qnk p0.Answers (by first | assumption | exact Qcs hs (by omega))) Yov) fun hgq=>?_
 obtain⟨hg2,_⟩:=hgq
 refine ad 7 ?_
 have hg3:Dat.good (p0.Touch:Touch):=hg_p0.2.2.2.2.2.2.1
 refine og (clg (Q2i p0.Touch (by first | assumption | exact Qcs hs (by omega))) Ysr) fun hgq=>?_
 obtain⟨hg4,_⟩:=hgq
 refine ad 7 ?_
 refine og (clg (Q9x p0.Marks (by first | assumption | exact Qcs hs (by omega))) Ysq) fun hgq=>?_
 obtain⟨hg5,_⟩:=hgq
 refine ad 15 ?_
 have hg6:Dat.good (Tx.mk p0.Id p0.Age p0.Proc p0.Began (Qig p0.Calls) (Qf6 p0.Answers) (Qid p0.Touch) (Qjc p0.Marks) p0.State:Tx):=⟨hg_p0.1,hg_p0.2.1,hg_p0.2.2.1,hg_p0.2.2.2.1,hg1,hg2,hg4,hg5,hg_p0.2.2.2.2.2.2.2.2⟩
 exact rz (rs:=[.cell 2 119]) (congrArg (fun x=>[Re.st Tx _ inferInstance x]) hM)
def Qf1 (p0:List Tx):Nat→(List Tx)→Nat→(List Tx)
 | 0,w1,i=>w1
 | n+1,w1,i=>Qf1 p0 n (w1.set i (Qjs (nth p0 i))) (i+1)
def Qkr (p0:List Tx):(List Tx):=Qf1 p0 (p0.length - 0) (List.replicate p0.length (Tx.mk 0 0 0 0 [] [] (Touch.mk [] []) [] 0)) 0
theorem Yd2 (p0:List Tx) (hs:Dat.small 1048576 p0):CTs 39 [.o (.sl Tx instDatTx p0)] [Re.sl Tx instDatTx (Qkr p0)]:=by
 refine en Tryz.func39 Tryz.ntmps39 fun w hG hgd=>?_
 obtain⟨hg_p0,_⟩:=hgd
 have hl_p0:p0.length≤9223372036854775807:=hg_p0.1
 have hM:=Qkr.eq_1 p0
 have hs0:p0.length≤1048576:=hs.1
 refine ad 8 ?_
 refine op (ma p0.length (Tx.mk 0 0 0 0 [] [] (Touch.mk [] []) [] 0) (ho:=gdz)) ?_
 refine ad 8 ?_
 refine Run.loopM (ι:=(List Tx)×Nat) (fun s=>Qf1 p0 (p0.length - s.2) s.1 s.2) (fun s=>⟨23,2,[(0,.sl 0 p0.length),(3,.sl 1 s.1.length),(4,.v (.int .i64 (s.2:Int)))],[(0,.ros Tx instDatTx p0),(1,.own Tx instDatTx s.1)]⟩) (fun s=>s.2≤p0.length∧s.1.length=p0.length) (fun s=>p0.length - s.2) ((List.replicate p0.length (Tx.mk 0 0 0 0 [] [] (Touch.mk [] []) [] 0)),0) [0,1] [1,0] hM lv0 su (by decide) ?_
 rintro ⟨w1,i⟩ hv hE
 try dsimp only at hE
 obtain⟨hi,hv0⟩:=hv
 try dsimp only at hi hv0
 refine ad 8 ?_
 refine cd (fun h1=>?_) (fun h1=>?_)
 ·
  have h1l:i<p0.length:=by have:=of_decide_eq_true h1;omega
  have hM:=hE.trans ((congrArg (fun n=>Qf1 p0 n w1 i) (show p0.length - i=(p0.length - (i+1))+1 by omega)).trans (Qf1.eq_2 _ _ _ _))
  refine ad 8 ?_
  have hg3:=Qan (k:=i) hg_p0 om
  refine op (ix (xs:=p0) i om) ?_
  refine ad 1 ?_
  have hg4:Dat.good (nth p0 i:Tx):=hg3
  refine og (clg (Ye8 (nth p0 i) (by first | assumption | exact Qcs hs (by omega))) Yu2) fun hgq=>?_
  obtain⟨hg5,_⟩:=hgq
  refine op (oi (xs:=w1) i om) ?_
  refine op (se (xs:=w1) i (Qjs (nth p0 i)) hg5 om) ?_
  refine ad 5 ?_
  rw[Qcv (i:=i) om]
  refine ad 2 ?_
  exact Run.again ((w1.set i (Qjs (nth p0 i))),(i+1)) [0,13] [7,0] ⟨by first | omega | exact trivial | (dsimp only;omega) | (refine⟨by omega,?_⟩;simp_all;try omega),hM⟩ rfl lv1 su (by decide)
 ·
  have h1l: ¬ (i<p0.length):=by have:=of_decide_eq_false h1;omega
  have hM:=hE.trans ((congrArg (fun n=>Qf1 p0 n w1 i) (show p0.length - i=0 by omega)).trans (Qf1.eq_1 _ _ _))
  refine ad 6 ?_
  exact rz (rs:=[.tmp 2]) (congrArg (fun x=>[Re.sl Tx instDatTx x]) hM)
def Qhk (p0:Slot):Slot:=(Slot.mk p0.Seq (Qgy p0.Cells) p0.Whole)
theorem Q9w (p0:Slot) (hs:Dat.small 1048576 p0):CTs 156 [.o (.st Slot _ inferInstance p0)] [Re.st Slot _ inferInstance (Qhk p0)]:=by
 refine en Tryz.func156 Tryz.ntmps156 fun w hG hgd=>?_
 obtain⟨hg_p0,_⟩:=hgd
 have hM:=Qhk.eq_1 p0
 have hs1:Dat.small 1048576 p0.Cells:=hs.2.1
 refine ad 20 ?_
 refine og (clg (Qpm p0.Cells (by first | assumption | exact Qcs hs (by omega))) Yq6) fun hgq=>?_
 obtain⟨hg1,_⟩:=hgq
 refine ad 15 ?_
 have hg2:Dat.good (Slot.mk p0.Seq (Qgy p0.Cells) p0.Whole:Slot):=⟨hg_p0.1,hg1,hg_p0.2.2⟩
 exact rz (rs:=[.cell 2 108]) (congrArg (fun x=>[Re.st Slot _ inferInstance x]) hM)
def Qeu (p0:List Slot):Nat→(List Slot)→Nat→(List Slot)
 | 0,w1,i=>w1
 | n+1,w1,i=>Qeu p0 n (w1.set i (Qhk (nth p0 i))) (i+1)
def Qif (p0:List Slot):(List Slot):=Qeu p0 (p0.length - 0) (List.replicate p0.length (Slot.mk 0 [] false)) 0
theorem Q2k (p0:List Slot) (hs:Dat.small 1048576 p0):CTs 85 [.o (.sl Slot instDatSlot p0)] [Re.sl Slot instDatSlot (Qif p0)]:=by
 refine en Tryz.func85 Tryz.ntmps85 fun w hG hgd=>?_
 obtain⟨hg_p0,_⟩:=hgd
 have hl_p0:p0.length≤9223372036854775807:=hg_p0.1
 have hM:=Qif.eq_1 p0
 have hs0:p0.length≤1048576:=hs.1
 refine ad 8 ?_
 refine op (ma p0.length (Slot.mk 0 [] false) (ho:=gdz)) ?_
 refine ad 8 ?_
 refine Run.loopM (ι:=(List Slot)×Nat) (fun s=>Qeu p0 (p0.length - s.2) s.1 s.2) (fun s=>⟨23,2,[(0,.sl 0 p0.length),(3,.sl 1 s.1.length),(4,.v (.int .i64 (s.2:Int)))],[(0,.ros Slot instDatSlot p0),(1,.own Slot instDatSlot s.1)]⟩) (fun s=>s.2≤p0.length∧s.1.length=p0.length) (fun s=>p0.length - s.2) ((List.replicate p0.length (Slot.mk 0 [] false)),0) [0,1] [1,0] hM lv0 su (by decide) ?_
 rintro ⟨w1,i⟩ hv hE
 try dsimp only at hE
 obtain⟨hi,hv0⟩:=hv
 try dsimp only at hi hv0
 refine ad 8 ?_
 refine cd (fun h1=>?_) (fun h1=>?_)
 ·
  have h1l:i<p0.length:=by have:=of_decide_eq_true h1;omega
  have hM:=hE.trans ((congrArg (fun n=>Qeu p0 n w1 i) (show p0.length - i=(p0.length - (i+1))+1 by omega)).trans (Qeu.eq_2 _ _ _ _))
  refine ad 8 ?_
  have hg3:=Qan (k:=i) hg_p0 om
  refine op (ix (xs:=p0) i om) ?_
  refine ad 1 ?_
  have hg4:Dat.good (nth p0 i:Slot):=hg3
  refine og (clg (Q9w (nth p0 i) (by first | assumption | exact Qcs hs (by omega))) Ysp) fun hgq=>?_
  obtain⟨hg5,_⟩:=hgq
  refine op (oi (xs:=w1) i om) ?_
  refine op (se (xs:=w1) i (Qhk (nth p0 i)) hg5 om) ?_
  refine ad 5 ?_
  rw[Qcv (i:=i) om]
  refine ad 2 ?_
  exact Run.again ((w1.set i (Qhk (nth p0 i))),(i+1)) [0,5] [3,0] ⟨by first | omega | exact trivial | (dsimp only;omega) | (refine⟨by omega,?_⟩;simp_all;try omega),hM⟩ rfl lv1 su (by decide)
 ·
  have h1l: ¬ (i<p0.length):=by have:=of_decide_eq_false h1;omega
  have hM:=hE.trans ((congrArg (fun n=>Qeu p0 n w1 i) (show p0.length - i=0 by omega)).trans (Qeu.eq_1 _ _ _))
  refine ad 6 ?_
  exact rz (rs:=[.tmp 2]) (congrArg (fun x=>[Re.sl Slot instDatSlot x]) hM)
def Qhc (p0:Journal):Journal:=p0
theorem Qzg (p0:Journal):CTs 86 [.o (.st Journal _ inferInstance p0)] [Re.st Journal _ inferInstance (Qhc p0)]:=by
 refine en Tryz.func86 Tryz.ntmps86 fun w hG hgd=>?_
 obtain⟨hg_p0,_⟩:=hgd
 have hM:=Qhc.eq_1 p0
 refine ad 28 ?_
 exact rz (rs:=[.cell 2 38]) (congrArg (fun x=>[Re.st Journal _ inferInstance x]) hM)
def Qjd (p0:Disk):Disk:=(Disk.mk (Qif p0.Slots) (Qhc p0.Journal))
theorem Q9y (p0:Disk) (hs:Dat.small 1048576 p0):CTs 40 [.o (.st Disk _ inferInstance p0)] [Re.st Disk _ inferInstance (Qjd p0)]:=by
 refine en Tryz.func40 Tryz.ntmps40 fun w hG hgd=>?_
 obtain⟨hg_p0,_⟩:=hgd
 have hM:=Qjd.eq_1 p0
 have hs0:Dat.small 1048576 p0.Slots:=hs.1
 have hs1:Dat.small 1048576 p0.Journal:=hs.2
 refine ad 13 ?_
 refine og (clg (Q2k p0.Slots (by first | assumption | exact Qcs hs (by omega))) Yu1) fun hgq=>?_
 obtain⟨hg1,_⟩:=hgq
 refine ad 7 ?_
 have hg2:Dat.good (p0.Journal:Journal):=hg_p0.2
 refine og (clg (Qzg p0.Journal) Yu0) fun hgq=>?_
 obtain⟨hg3,_⟩:=hgq
 refine ad 8 ?_
 have hg4:Dat.good (Disk.mk (Qif p0.Slots) (Qhc p0.Journal):Disk):=⟨hg1,hg3⟩
 exact rz (rs:=[.cell 2 40]) (congrArg (fun x=>[Re.st Disk _ inferInstance x]) hM)
def Qhj (p0:Step):Step:=(Step.mk p0.Proc (Qgo p0.Call))
theorem Q9v (p0:Step):CTs 214 [.o (.st Step _ inferInstance p0)] [Re.st Step _ inferInstance (Qhj p0)]:=by
 refine en Tryz.func214 Tryz.ntmps214 fun w hG hgd=>?_
 obtain⟨hg_p0,_⟩:=hgd
 have hM:=Qhj.eq_1 p0
 refine ad 20 ?_
 have hg1:Dat.good (p0.Call:Call):=hg_p0.2
 refine og (clg (Qrt p0.Call) Yok) fun hgq=>?_
 obtain⟨hg2,_⟩:=hgq
 refine ad 8 ?_
 have hg3:Dat.good (Step.mk p0.Proc (Qgo p0.Call):Step):=⟨hg_p0.1,hg2⟩
 exact rz (rs:=[.cell 2 151]) (congrArg (fun x=>[Re.st Step _ inferInstance x]) hM)
def Qet (p0:List Step):Nat→(List Step)→Nat→(List Step)
 | 0,w1,i=>w1
 | n+1,w1,i=>Qet p0 n (w1.set i (Qhj (nth p0 i))) (i+1)
def Qie (p0:List Step):(List Step):=Qet p0 (p0.length - 0) (List.replicate p0.length (Step.mk 0 (Call.mk 0 ⟨#[]⟩ ⟨#[]⟩ 0 0 ⟨#[]⟩))) 0
theorem Q2j (p0:List Step) (hs:Dat.small 1048576 p0):CTs 157 [.o (.sl Step instDatStep p0)] [Re.sl Step instDatStep (Qie p0)]:=by
 refine en Tryz.func157 Tryz.ntmps157 fun w hG hgd=>?_
 obtain⟨hg_p0,_⟩:=hgd
 have hl_p0:p0.length≤9223372036854775807:=hg_p0.1
 have hM:=Qie.eq_1 p0
 have hs0:p0.length≤1048576:=hs.1
 refine ad 8 ?_
 refine op (ma p0.length (Step.mk 0 (Call.mk 0 ⟨#[]⟩ ⟨#[]⟩ 0 0 ⟨#[]⟩)) (ho:=gdz)) ?_
 refine ad 8 ?_
 refine Run.loopM (ι:=(List Step)×Nat) (fun s=>Qet p0 (p0.length - s.2) s.1 s.2) (fun s=>⟨23,2,[(0,.sl 0 p0.length),(3,.sl 1 s.1.length),(4,.v (.int .i64 (s.2:Int)))],[(0,.ros Step instDatStep p0),(1,.own Step instDatStep s.1)]⟩) (fun s=>s.2≤p0.length∧s.1.length=p0.length) (fun s=>p0.length - s.2) ((List.replicate p0.length (Step.mk 0 (Call.mk 0 ⟨#[]⟩ ⟨#[]⟩ 0 0 ⟨#[]⟩))),0) [0,1] [1,0] hM lv0 su (by decide) ?_
 rintro ⟨w1,i⟩ hv hE
 try dsimp only at hE
 obtain⟨hi,hv0⟩:=hv
 try dsimp only at hi hv0
 refine ad 8 ?_
 refine cd (fun h1=>?_) (fun h1=>?_)
 ·
  have h1l:i<p0.length:=by have:=of_decide_eq_true h1;omega
  have hM:=hE.trans ((congrArg (fun n=>Qet p0 n w1 i) (show p0.length - i=(p0.length - (i+1))+1 by omega)).trans (Qet.eq_2 _ _ _ _))
  refine ad 8 ?_
  have hg3:=Qan (k:=i) hg_p0 om
  refine op (ix (xs:=p0) i om) ?_
  refine ad 1 ?_
  have hg4:Dat.good (nth p0 i:Step):=hg3
  refine og (clg (Q9v (nth p0 i)) Yr1) fun hgq=>?_
  obtain⟨hg5,_⟩:=hgq
  refine op (oi (xs:=w1) i om) ?_
  refine op (se (xs:=w1) i (Qhj (nth p0 i)) hg5 om) ?_
  refine ad 5 ?_
  rw[Qcv (i:=i) om]
  refine ad 2 ?_
  exact Run.again ((w1.set i (Qhj (nth p0 i))),(i+1)) [0,3] [2,0] ⟨by first | omega | exact trivial | (dsimp only;omega) | (refine⟨by omega,?_⟩;simp_all;try omega),hM⟩ rfl lv1 su (by decide)
 ·
  have h1l: ¬ (i<p0.length):=by have:=of_decide_eq_false h1;omega
  have hM:=hE.trans ((congrArg (fun n=>Qet p0 n w1 i) (show p0.length - i=0 by omega)).trans (Qet.eq_1 _ _ _))
  refine ad 6 ?_
  exact rz (rs:=[.tmp 2]) (congrArg (fun x=>[Re.sl Step instDatStep x]) hM)
def Qgx (p0:Entry):Entry:=(Entry.mk p0.Seq p0.Kind p0.Tx (Qie p0.Steps) (Qf6 p0.Answers) p0.Began p0.Ended p0.Laid)
theorem Q2l (p0:Entry) (hs:Dat.small 1048576 p0):CTs 87 [.o (.st Entry _ inferInstance p0)] [Re.st Entry _ inferInstance (Qgx p0)]:=by
 refine en Tryz.func87 Tryz.ntmps87 fun w hG hgd=>?_
 obtain⟨hg_p0,_⟩:=hgd
 have hM:=Qgx.eq_1 p0
 have hs3:Dat.small 1048576 p0.Steps:=hs.2.2.2.1
 have hs4:Dat.small 1048576 p0.Answers:=hs.2.2.2.2.1
 refine ad 34 ?_
 refine og (clg (Q2j p0.Steps (by first | assumption | exact Qcs hs (by omega))) Yso) fun hgq=>?_
 obtain⟨hg1,_⟩:=hgq
 refine ad 7 ?_
 refine og (clg (Qnk p0.Answers (by first | assumption | exact Qcs hs (by omega))) Yov) fun hgq=>?_
 obtain⟨hg2,_⟩:=hgq
 refine ad 29 ?_
 have hg3:Dat.good (Entry.mk p0.Seq p0.Kind p0.Tx (Qie p0.Steps) (Qf6 p0.Answers) p0.Began p0.Ended p0.Laid:Entry):=⟨hg_p0.1,hg_p0.2.1,hg_p0.2.2.1,hg1,hg2,hg_p0.2.2.2.2.2.1,hg_p0.2.2.2.2.2.2.1,hg_p0.2.2.2.2.2.2.2⟩
 exact rz (rs:=[.cell 2 80]) (congrArg (fun x=>[Re.st Entry _ inferInstance x]) hM)
def Qeb (p0:List Entry):Nat→(List Entry)→Nat→(List Entry)
 | 0,w1,i=>w1
 | n+1,w1,i=>Qeb p0 n (w1.set i (Qgx (nth p0 i))) (i+1)
def Qhw (p0:List Entry):(List Entry):=Qeb p0 (p0.length - 0) (List.replicate p0.length (Entry.mk 0 0 0 [] [] 0 0 false)) 0
theorem Q09 (p0:List Entry) (hs:Dat.small 1048576 p0):CTs 41 [.o (.sl Entry instDatEntry p0)] [Re.sl Entry instDatEntry (Qhw p0)]:=by
 refine en Tryz.func41 Tryz.ntmps41 fun w hG hgd=>?_
 obtain⟨hg_p0,_⟩:=hgd
 have hl_p0:p0.length≤9223372036854775807:=hg_p0.1
 have hM:=Qhw.eq_1 p0
 have hs0:p0.length≤1048576:=hs.1
 refine ad 8 ?_
 refine op (ma p0.length (Entry.mk 0 0 0 [] [] 0 0 false) (ho:=gdz)) ?_
 refine ad 8 ?_
 refine Run.loopM (ι:=(List Entry)×Nat) (fun s=>Qeb p0 (p0.length - s.2) s.1 s.2) (fun s=>⟨23,2,[(0,.sl 0 p0.length),(3,.sl 1 s.1.length),(4,.v (.int .i64 (s.2:Int)))],[(0,.ros Entry instDatEntry p0),(1,.own Entry instDatEntry s.1)]⟩) (fun s=>s.2≤p0.length∧s.1.length=p0.length) (fun s=>p0.length - s.2) ((List.replicate p0.length (Entry.mk 0 0 0 [] [] 0 0 false)),0) [0,1] [1,0] hM lv0 su (by decide) ?_
 rintro ⟨w1,i⟩ hv hE
 try dsimp only at hE
 obtain⟨hi,hv0⟩:=hv
 try dsimp only at hi hv0
 refine ad 8 ?_
 refine cd (fun h1=>?_) (fun h1=>?_)
 ·
  have h1l:i<p0.length:=by have:=of_decide_eq_true h1;omega
  have hM:=hE.trans ((congrArg (fun n=>Qeb p0 n w1 i) (show p0.length - i=(p0.length - (i+1))+1 by omega)).trans (Qeb.eq_2 _ _ _ _))
  refine ad 8 ?_
  have hg3:=Qan (k:=i) hg_p0 om
  refine op (ix (xs:=p0) i om) ?_
  refine ad 1 ?_
  have hg4:Dat.good (nth p0 i:Entry):=hg3
  refine og (clg (Q2l (nth p0 i) (by first | assumption | exact Qcs hs (by omega))) Yuz) fun hgq=>?_
  obtain⟨hg5,_⟩:=hgq
  refine op (oi (xs:=w1) i om) ?_
  refine op (se (xs:=w1) i (Qgx (nth p0 i)) hg5 om) ?_
  refine ad 5 ?_
  rw[Qcv (i:=i) om]
  refine ad 2 ?_
  exact Run.again ((w1.set i (Qgx (nth p0 i))),(i+1)) [0,7] [4,0] ⟨by first | omega | exact trivial | (dsimp only;omega) | (refine⟨by omega,?_⟩;simp_all;try omega),hM⟩ rfl lv1 su (by decide)
 ·
  have h1l: ¬ (i<p0.length):=by have:=of_decide_eq_false h1;omega
  have hM:=hE.trans ((congrArg (fun n=>Qeb p0 n w1 i) (show p0.length - i=0 by omega)).trans (Qeb.eq_1 _ _ _))
  refine ad 6 ?_
  exact rz (rs:=[.tmp 2]) (congrArg (fun x=>[Re.sl Entry instDatEntry x]) hM)
def Qdq (p0:Kernel):Kernel:=(Kernel.mk (Qgy p0.Store) (Qkr p0.Txs) (Qjd p0.Disk) p0.Seq p0.Next p0.Time (Qhw p0.History) (Qeo p0.Seen) p0.Room)
theorem Qle (p0:Kernel) (hs:Dat.small 1048576 p0):CTs 11 [.o (.st Kernel _ inferInstance p0)] [Re.st Kernel _ inferInstance (Qdq p0)]:=by
 refine en Tryz.func11 Tryz.ntmps11 fun w hG hgd=>?_
 obtain⟨hg_p0,_⟩:=hgd
 have hM:=Qdq.eq_1 p0
 have hs0:Dat.small 1048576 p0.Store:=hs.1
 have hs1:Dat.small 1048576 p0.Txs:=hs.2.1
 have hs2:Dat.small 1048576 p0.Disk:=hs.2.2.1
 have hs6:Dat.small 1048576 p0.History:=hs.2.2.2.2.2.2.1
 have hs7:Dat.small 1048576 p0.Seen:=hs.2.2.2.2.2.2.2.1
 refine ad 13 ?_
 refine og (clg (Qpm p0.Store (by first | assumption | exact Qcs hs (by omega))) Yq6) fun hgq=>?_
 obtain⟨hg1,_⟩:=hgq
 refine ad 7 ?_
 refine og (clg (Yd2 p0.Txs (by first | assumption | exact Qcs hs (by omega))) Yvo) fun hgq=>?_
 obtain⟨hg2,_⟩:=hgq
 refine ad 7 ?_
 have hg3:Dat.good (p0.Disk:Disk):=hg_p0.2.2.1
 refine og (clg (Q9y p0.Disk (by first | assumption | exact Qcs hs (by omega))) Yvn) fun hgq=>?_
 obtain⟨hg4,_⟩:=hgq
 refine ad 28 ?_
 refine og (clg (Q09 p0.History (by first | assumption | exact Qcs hs (by omega))) Yvm) fun hgq=>?_
 obtain⟨hg5,_⟩:=hgq
 refine ad 7 ?_
 refine og (clg (Qj8 p0.Seen (by first | assumption | exact Qcs hs (by omega))) Yp2) fun hgq=>?_
 obtain⟨hg6,_⟩:=hgq
 refine ad 15 ?_
 have hg7:Dat.good (Kernel.mk (Qgy p0.Store) (Qkr p0.Txs) (Qjd p0.Disk) p0.Seq p0.Next p0.Time (Qhw p0.History) (Qeo p0.Seen) p0.Room:Kernel):=⟨hg1,hg2,hg4,hg_p0.2.2.2.1,hg_p0.2.2.2.2.1,hg_p0.2.2.2.2.2.1,hg5,hg6,hg_p0.2.2.2.2.2.2.2.2⟩
 exact rz (rs:=[.cell 2 43]) (congrArg (fun x=>[Re.st Kernel _ inferInstance x]) hM)
def Qjg (p0:Cell) (p1:Cell):Bool:=bif !decide (p0.Key=p1.Key) then false else(bif !decide (p0.Val=p1.Val) then false else true)
theorem Q99 (p0:Cell) (p1:Cell):CTs 94 [.o (.st Cell _ inferInstance p0),.o (.st Cell _ inferInstance p1)] [Re.c (.bool (Qjg p0 p1))]:=by
 refine en Tryz.func94 Tryz.ntmps94 fun w hG hgd=>?_
 obtain⟨hg_p0,hg_p1,_⟩:=hgd
 have hM:=Qjg.eq_1 p0 p1
 refine ad 15 ?_
 refine cd (fun h1=>?_) (fun h1=>?_)
 ·
  have hM:=hM.trans (bt h1)
  refine ad 4 ?_
  exact rz (rs:=[.tmp 4]) (congrArg (fun x=>[Re.c (.bool x)]) hM)
 ·
  have hM:=hM.trans (bf h1)
  refine ad 10 ?_
  refine cd (fun h2=>?_) (fun h2=>?_)
  ·
   have hM:=hM.trans (bt h2)
   refine ad 4 ?_
   exact rz (rs:=[.tmp 4]) (congrArg (fun x=>[Re.c (.bool x)]) hM)
  ·
   have hM:=hM.trans (bf h2)
   refine ad 5 ?_
   exact rz (rs:=[.tmp 4]) (congrArg (fun x=>[Re.c (.bool x)]) hM)
def Qe5 (p0:List Cell) (p1:List Cell):Nat→Nat→Bool
 | 0,i=>true
 | n+1,i=>bif !(Qjg (nth p0 i) (nth p1 i)) then false else(Qe5 p0 p1 n (i+1))
def Qii (p0:List Cell) (p1:List Cell):Bool:=bif !decide ((p0.length:Int)=(p1.length:Int)) then false else(Qe5 p0 p1 (p0.length - 0) 0)
theorem Qpo (p0:List Cell) (p1:List Cell):CTs 45 [.o (.sl Cell instDatCell p0),.o (.sl Cell instDatCell p1)] [Re.c (.bool (Qii p0 p1))]:=by
 refine en Tryz.func45 Tryz.ntmps45 fun w hG hgd=>?_
 obtain⟨hg_p0,hg_p1,_⟩:=hgd
 have hl_p0:p0.length≤9223372036854775807:=hg_p0.1
 have hl_p1:p1.length≤9223372036854775807:=hg_p1.1
 have hM:=Qii.eq_1 p0 p1
 refine ad 13 ?_
 refine cd (fun h1=>?_) (fun h1=>?_)
 ·
  have hM:=hM.trans (bt h1)
  refine ad 4 ?_
  exact rz (rs:=[.tmp 4]) (congrArg (fun x=>[Re.c (.bool x)]) hM)
 ·
  have hM:=hM.trans (bf h1)
  refine ad 7 ?_
  refine Run.loopM (ι:=Nat) (fun s=>Qe5 p0 p1 (p0.length - s) s) (fun s=>⟨27,2,[(0,.sl 0 p0.length),(1,.sl 1 p1.length),(5,.v (.int .i64 (s:Int)))],[(0,.ros Cell instDatCell p0),(1,.ros Cell instDatCell p1)]⟩) (fun s=>s≤p0.length) (fun s=>p0.length - s) 0 [0,1] [0,1] hM lv0 su (by decide) ?_
  rintro i hv hE
  try dsimp only at hE
  have hi:=hv
  try dsimp only at hi
  refine ad 8 ?_
  refine cd (fun h2=>?_) (fun h2=>?_)
  ·
   have h2l:i<p0.length:=by have:=of_decide_eq_true h2;omega
   have hM:=hE.trans ((congrArg (fun n=>Qe5 p0 p1 n i) (show p0.length - i=(p0.length - (i+1))+1 by omega)).trans (Qe5.eq_2 _ _ _ _))
   refine ad 4 ?_
   refine dr 10 fun _ _ _ _ _ hb=>?_
   refine tk [0,1] ?_
   have hg3:=Qan (k:=i) hg_p0 om
   refine tx 2 (dx (xs:=p0) i om) ?_
   refine tk [3,4,5] ?_
   have hg4:=Qan (k:=i) hg_p1 om
   refine tx 6 (dx (xs:=p1) i om) ?_
   refine tk [7] ?_
   have hg5:Dat.good (nth p0 i:Cell):=hg3
   have hg6:Dat.good (nth p1 i:Cell):=hg4
   refine on 8 [2,3] (cl (Q99 (nth p0 i) (nth p1 i)) Yux) ?_
   refine tk [9] ?_
   refine dn hb ?_
   refine cd (fun h7=>?_) (fun h7=>?_)
   ·
    have hM:=hM.trans (bt h7)
    refine ad 4 ?_
    exact rz (rs:=[.tmp 4]) (congrArg (fun x=>[Re.c (.bool x)]) hM)
   ·
    have hM:=hM.trans (bf h7)
    refine ad 5 ?_
    rw[Qcv (i:=i) om]
    refine ad 2 ?_
    exact Run.again (i+1) [0,1] [2,3] ⟨by first | omega | exact trivial | (dsimp only;omega) | (refine⟨by omega,?_⟩;simp_all;try omega),hM⟩ rfl lv1 su (by decide)
  ·
   have h2l: ¬ (i<p0.length):=by have:=of_decide_eq_false h2;omega
   have hM:=hE.trans ((congrArg (fun n=>Qe5 p0 p1 n i) (show p0.length - i=0 by omega)).trans (Qe5.eq_1 _ _ _))
   refine ad 5 ?_
   exact rz (rs:=[.tmp 4]) (congrArg (fun x=>[Re.c (.bool x)]) hM)
def Qh9 (p0:Call) (p1:Call):Bool:=bif !decide (p0.Kind=p1.Kind) then false else(bif !decide (p0.Name=p1.Name) then false else(bif !decide (p0.To=p1.To) then false else(bif !decide (p0.A=p1.A) then false else(bif !decide (p0.B=p1.B) then false else(bif !decide (p0.Text=p1.Text) then false else true)))))
theorem Qrv (p0:Call) (p1:Call):CTs 223 [.o (.st Call _ inferInstance p0),.o (.st Call _ inferInstance p1)] [Re.c (.bool (Qh9 p0 p1))]:=by
 refine en Tryz.func223 Tryz.ntmps223 fun w hG hgd=>?_
 obtain⟨hg_p0,hg_p1,_⟩:=hgd
 have hM:=Qh9.eq_1 p0 p1
 refine ad 15 ?_
 refine cd (fun h1=>?_) (fun h1=>?_)
 ·
  have hM:=hM.trans (bt h1)
  refine ad 4 ?_
  exact rz (rs:=[.tmp 4]) (congrArg (fun x=>[Re.c (.bool x)]) hM)
 ·
  have hM:=hM.trans (bf h1)
  refine ad 10 ?_
  refine cd (fun h2=>?_) (fun h2=>?_)
  ·
   have hM:=hM.trans (bt h2)
   refine ad 4 ?_
   exact rz (rs:=[.tmp 4]) (congrArg (fun x=>[Re.c (.bool x)]) hM)
  ·
   have hM:=hM.trans (bf h2)
   refine ad 10 ?_
   refine cd (fun h3=>?_) (fun h3=>?_)
   ·
    have hM:=hM.trans (bt h3)
    refine ad 4 ?_
    exact rz (rs:=[.tmp 4]) (congrArg (fun x=>[Re.c (.bool x)]) hM)
   ·
    have hM:=hM.trans (bf h3)
    refine ad 10 ?_
    refine cd (fun h4=>?_) (fun h4=>?_)
    ·
     have hM:=hM.trans (bt h4)
     refine ad 4 ?_
     exact rz (rs:=[.tmp 4]) (congrArg (fun x=>[Re.c (.bool x)]) hM)
    ·
     have hM:=hM.trans (bf h4)
     refine ad 10 ?_
     refine cd (fun h5=>?_) (fun h5=>?_)
     ·
      have hM:=hM.trans (bt h5)
      refine ad 4 ?_
      exact rz (rs:=[.tmp 4]) (congrArg (fun x=>[Re.c (.bool x)]) hM)
     ·
      have hM:=hM.trans (bf h5)
      refine ad 10 ?_
      refine cd (fun h6=>?_) (fun h6=>?_)
      ·
       have hM:=hM.trans (bt h6)
       refine ad 4 ?_
       exact rz (rs:=[.tmp 4]) (congrArg (fun x=>[Re.c (.bool x)]) hM)
      ·
       have hM:=hM.trans (bf h6)
       refine ad 5 ?_
       exact rz (rs:=[.tmp 4]) (congrArg (fun x=>[Re.c (.bool x)]) hM)
def Qe6 (p0:List Call) (p1:List Call):Nat→Nat→Bool
 | 0,i=>true
 | n+1,i=>bif !(Qh9 (nth p0 i) (nth p1 i)) then false else(Qe6 p0 p1 n (i+1))
def Qjw (p0:List Call) (p1:List Call):Bool:=bif !decide ((p0.length:Int)=(p1.length:Int)) then false else(Qe6 p0 p1 (p0.length - 0) 0)
theorem Q2w (p0:List Call) (p1:List Call):CTs 169 [.o (.sl Call instDatCall p0),.o (.sl Call instDatCall p1)] [Re.c (.bool (Qjw p0 p1))]:=by
 refine en Tryz.func169 Tryz.ntmps169 fun w hG hgd=>?_
 obtain⟨hg_p0,hg_p1,_⟩:=hgd
 have hl_p0:p0.length≤9223372036854775807:=hg_p0.1
 have hl_p1:p1.length≤9223372036854775807:=hg_p1.1
 have hM:=Qjw.eq_1 p0 p1
 refine ad 13 ?_
 refine cd (fun h1=>?_) (fun h1=>?_)
 ·
  have hM:=hM.trans (bt h1)
  refine ad 4 ?_
  exact rz (rs:=[.tmp 4]) (congrArg (fun x=>[Re.c (.bool x)]) hM)
 ·
  have hM:=hM.trans (bf h1)
  refine ad 7 ?_
  refine Run.loopM (ι:=Nat) (fun s=>Qe6 p0 p1 (p0.length - s) s) (fun s=>⟨27,2,[(0,.sl 0 p0.length),(1,.sl 1 p1.length),(5,.v (.int .i64 (s:Int)))],[(0,.ros Call instDatCall p0),(1,.ros Call instDatCall p1)]⟩) (fun s=>s≤p0.length) (fun s=>p0.length - s) 0 [0,1] [0,1] hM lv0 su (by decide) ?_
  rintro i hv hE
  try dsimp only at hE
  have hi:=hv
  try dsimp only at hi
  refine ad 8 ?_
  refine cd (fun h2=>?_) (fun h2=>?_)
  ·
   have h2l:i<p0.length:=by have:=of_decide_eq_true h2;omega
   have hM:=hE.trans ((congrArg (fun n=>Qe6 p0 p1 n i) (show p0.length - i=(p0.length - (i+1))+1 by omega)).trans (Qe6.eq_2 _ _ _ _))
   refine ad 4 ?_
   refine dr 10 fun _ _ _ _ _ hb=>?_
   refine tk [0,1] ?_
   have hg3:=Qan (k:=i) hg_p0 om
   refine tx 2 (dx (xs:=p0) i om) ?_
   refine tk [3,4,5] ?_
   have hg4:=Qan (k:=i) hg_p1 om
   refine tx 6 (dx (xs:=p1) i om) ?_
   refine tk [7] ?_
   have hg5:Dat.good (nth p0 i:Call):=hg3
   have hg6:Dat.good (nth p1 i:Call):=hg4
   refine on 8 [2,3] (cl (Qrv (nth p0 i) (nth p1 i)) Yoj) ?_
   refine tk [9] ?_
   refine dn hb ?_
   refine cd (fun h7=>?_) (fun h7=>?_)
   ·
    have hM:=hM.trans (bt h7)
    refine ad 4 ?_
    exact rz (rs:=[.tmp 4]) (congrArg (fun x=>[Re.c (.bool x)]) hM)
   ·
    have hM:=hM.trans (bf h7)
    refine ad 5 ?_
    rw[Qcv (i:=i) om]
    refine ad 2 ?_
    exact Run.again (i+1) [0,1] [2,3] ⟨by first | omega | exact trivial | (dsimp only;omega) | (refine⟨by omega,?_⟩;simp_all;try omega),hM⟩ rfl lv1 su (by decide)
  ·
   have h2l: ¬ (i<p0.length):=by have:=of_decide_eq_false h2;omega
   have hM:=hE.trans ((congrArg (fun n=>Qe6 p0 p1 n i) (show p0.length - i=0 by omega)).trans (Qe6.eq_1 _ _ _))
   refine ad 5 ?_
   exact rz (rs:=[.tmp 4]) (congrArg (fun x=>[Re.c (.bool x)]) hM)
def Qhy (p0:Answer) (p1:Answer):Bool:=bif !decide (p0.Code=p1.Code) then false else(bif !decide (p0.N=p1.N) then false else(bif !decide (p0.Text=p1.Text) then false else true))
theorem Q1g (p0:Answer) (p1:Answer):CTs 184 [.o (.st Answer _ inferInstance p0),.o (.st Answer _ inferInstance p1)] [Re.c (.bool (Qhy p0 p1))]:=by
 refine en Tryz.func184 Tryz.ntmps184 fun w hG hgd=>?_
 obtain⟨hg_p0,hg_p1,_⟩:=hgd
 have hM:=Qhy.eq_1 p0 p1
 refine ad 15 ?_
 refine cd (fun h1=>?_) (fun h1=>?_)
 ·
  have hM:=hM.trans (bt h1)
  refine ad 4 ?_
  exact rz (rs:=[.tmp 4]) (congrArg (fun x=>[Re.c (.bool x)]) hM)
 ·
  have hM:=hM.trans (bf h1)
  refine ad 10 ?_
  refine cd (fun h2=>?_) (fun h2=>?_)
  ·
   have hM:=hM.trans (bt h2)
   refine ad 4 ?_
   exact rz (rs:=[.tmp 4]) (congrArg (fun x=>[Re.c (.bool x)]) hM)
  ·
   have hM:=hM.trans (bf h2)
   refine ad 10 ?_
   refine cd (fun h3=>?_) (fun h3=>?_)
   ·
    have hM:=hM.trans (bt h3)
    refine ad 4 ?_
    exact rz (rs:=[.tmp 4]) (congrArg (fun x=>[Re.c (.bool x)]) hM)
   ·
    have hM:=hM.trans (bf h3)
    refine ad 5 ?_
    exact rz (rs:=[.tmp 4]) (congrArg (fun x=>[Re.c (.bool x)]) hM)
def Qdw (p0:List Answer) (p1:List Answer):Nat→Nat→Bool
 | 0,i=>true
 | n+1,i=>bif !(Qhy (nth p0 i) (nth p1 i)) then false else(Qdw p0 p1 n (i+1))
def Qhd (p0:List Answer) (p1:List Answer):Bool:=bif !decide ((p0.length:Int)=(p1.length:Int)) then false else(Qdw p0 p1 (p0.length - 0) 0)
theorem Qnm (p0:List Answer) (p1:List Answer):CTs 123 [.o (.sl Answer instDatAnswer p0),.o (.sl Answer instDatAnswer p1)] [Re.c (.bool (Qhd p0 p1))]:=by
 refine en Tryz.func123 Tryz.ntmps123 fun w hG hgd=>?_
 obtain⟨hg_p0,hg_p1,_⟩:=hgd
 have hl_p0:p0.length≤9223372036854775807:=hg_p0.1
 have hl_p1:p1.length≤9223372036854775807:=hg_p1.1
 have hM:=Qhd.eq_1 p0 p1
 refine ad 13 ?_
 refine cd (fun h1=>?_) (fun h1=>?_)
 ·
  have hM:=hM.trans (bt h1)
  refine ad 4 ?_
  exact rz (rs:=[.tmp 4]) (congrArg (fun x=>[Re.c (.bool x)]) hM)
 ·
  have hM:=hM.trans (bf h1)
  refine ad 7 ?_
  refine Run.loopM (ι:=Nat) (fun s=>Qdw p0 p1 (p0.length - s) s) (fun s=>⟨27,2,[(0,.sl 0 p0.length),(1,.sl 1 p1.length),(5,.v (.int .i64 (s:Int)))],[(0,.ros Answer instDatAnswer p0),(1,.ros Answer instDatAnswer p1)]⟩) (fun s=>s≤p0.length) (fun s=>p0.length - s) 0 [0,1] [0,1] hM lv0 su (by decide) ?_
  rintro i hv hE
  try dsimp only at hE
  have hi:=hv
  try dsimp only at hi
  refine ad 8 ?_
  refine cd (fun h2=>?_) (fun h2=>?_)
  ·
   have h2l:i<p0.length:=by have:=of_decide_eq_true h2;omega
   have hM:=hE.trans ((congrArg (fun n=>Qdw p0 p1 n i) (show p0.length - i=(p0.length - (i+1))+1 by omega)).trans (Qdw.eq_2 _ _ _ _))
   refine ad 4 ?_
   refine dr 10 fun _ _ _ _ _ hb=>?_
   refine tk [0,1] ?_
   have hg3:=Qan (k:=i) hg_p0 om
   refine tx 2 (dx (xs:=p0) i om) ?_
   refine tk [3,4,5] ?_
   have hg4:=Qan (k:=i) hg_p1 om
   refine tx 6 (dx (xs:=p1) i om) ?_
   refine tk [7] ?_
   have hg5:Dat.good (nth p0 i:Answer):=hg3
   have hg6:Dat.good (nth p1 i:Answer):=hg4
   refine on 8 [2,3] (cl (Q1g (nth p0 i) (nth p1 i)) Ysb) ?_
   refine tk [9] ?_
   refine dn hb ?_
   refine cd (fun h7=>?_) (fun h7=>?_)
   ·
    have hM:=hM.trans (bt h7)
    refine ad 4 ?_
    exact rz (rs:=[.tmp 4]) (congrArg (fun x=>[Re.c (.bool x)]) hM)
   ·
    have hM:=hM.trans (bf h7)
    refine ad 5 ?_
    rw[Qcv (i:=i) om]
    refine ad 2 ?_
    exact Run.again (i+1) [0,1] [2,3] ⟨by first | omega | exact trivial | (dsimp only;omega) | (refine⟨by omega,?_⟩;simp_all;try omega),hM⟩ rfl lv1 su (by decide)
  ·
   have h2l: ¬ (i<p0.length):=by have:=of_decide_eq_false h2;omega
   have hM:=hE.trans ((congrArg (fun n=>Qdw p0 p1 n i) (show p0.length - i=0 by omega)).trans (Qdw.eq_1 _ _ _))
   refine ad 5 ?_
   exact rz (rs:=[.tmp 4]) (congrArg (fun x=>[Re.c (.bool x)]) hM)
def Qdv (p0:List ByteArray) (p1:List ByteArray):Nat→Nat→Bool
 | 0,i=>true
 | n+1,i=>bif !decide ((nth p0 i)=(nth p1 i)) then false else(Qdv p0 p1 n (i+1))
def Qgp (p0:List ByteArray) (p1:List ByteArray):Bool:=bif !decide ((p0.length:Int)=(p1.length:Int)) then false else(Qdv p0 p1 (p0.length - 0) 0)
theorem Qka (p0:List ByteArray) (p1:List ByteArray):CTs 18 [.o (.sl ByteArray instDatByteArray p0),.o (.sl ByteArray instDatByteArray p1)] [Re.c (.bool (Qgp p0 p1))]:=by
 refine en Tryz.func18 Tryz.ntmps18 fun w hG hgd=>?_
 obtain⟨hg_p0,hg_p1,_⟩:=hgd
 have hl_p0:p0.length≤9223372036854775807:=hg_p0.1
 have hl_p1:p1.length≤9223372036854775807:=hg_p1.1
 have hM:=Qgp.eq_1 p0 p1
 refine ad 13 ?_
 refine cd (fun h1=>?_) (fun h1=>?_)
 ·
  have hM:=hM.trans (bt h1)
  refine ad 4 ?_
  exact rz (rs:=[.tmp 4]) (congrArg (fun x=>[Re.c (.bool x)]) hM)
 ·
  have hM:=hM.trans (bf h1)
  refine ad 7 ?_
  refine Run.loopM (ι:=Nat) (fun s=>Qdv p0 p1 (p0.length - s) s) (fun s=>⟨26,2,[(0,.sl 0 p0.length),(1,.sl 1 p1.length),(5,.v (.int .i64 (s:Int)))],[(0,.ros ByteArray instDatByteArray p0),(1,.ros ByteArray instDatByteArray p1)]⟩) (fun s=>s≤p0.length) (fun s=>p0.length - s) 0 [0,1] [0,1] hM lv0 su (by decide) ?_
  rintro i hv hE
  try dsimp only at hE
  have hi:=hv
  try dsimp only at hi
  refine ad 8 ?_
  refine cd (fun h2=>?_) (fun h2=>?_)
  ·
   have h2l:i<p0.length:=by have:=of_decide_eq_true h2;omega
   have hM:=hE.trans ((congrArg (fun n=>Qdv p0 p1 n i) (show p0.length - i=(p0.length - (i+1))+1 by omega)).trans (Qdv.eq_2 _ _ _ _))
   refine ad 4 ?_
   refine dr 9 fun _ _ _ _ _ hb=>?_
   refine tk [0,1] ?_
   have hg3:=Qan (k:=i) hg_p0 om
   refine tx 2 (dx (xs:=p0) i om) ?_
   refine tk [3,4,5] ?_
   have hg4:=Qan (k:=i) hg_p1 om
   refine tx 6 (dx (xs:=p1) i om) ?_
   refine tk [7,8] ?_
   refine dn hb ?_
   refine cd (fun h5=>?_) (fun h5=>?_)
   ·
    have hM:=hM.trans (bt h5)
    refine ad 4 ?_
    exact rz (rs:=[.tmp 4]) (congrArg (fun x=>[Re.c (.bool x)]) hM)
   ·
    have hM:=hM.trans (bf h5)
    refine ad 5 ?_
    rw[Qcv (i:=i) om]
    refine ad 2 ?_
    exact Run.again (i+1) [0,1] [2,3] ⟨by first | omega | exact trivial | (dsimp only;omega) | (refine⟨by omega,?_⟩;simp_all;try omega),hM⟩ rfl lv1 su (by decide)
  ·
   have h2l: ¬ (i<p0.length):=by have:=of_decide_eq_false h2;omega
   have hM:=hE.trans ((congrArg (fun n=>Qdv p0 p1 n i) (show p0.length - i=0 by omega)).trans (Qdv.eq_1 _ _ _))
   refine ad 5 ?_
   exact rz (rs:=[.tmp 4]) (congrArg (fun x=>[Re.c (.bool x)]) hM)
def Qjt (p0:Touch) (p1:Touch):Bool:=bif !(Qgp p0.Reads p1.Reads) then false else(bif !(Qgp p0.Writes p1.Writes) then false else true)
theorem Q2s (p0:Touch) (p1:Touch):CTs 170 [.o (.st Touch _ inferInstance p0),.o (.st Touch _ inferInstance p1)] [Re.c (.bool (Qjt p0 p1))]:=by
 refine en Tryz.func170 Tryz.ntmps170 fun w hG hgd=>?_
 obtain⟨hg_p0,hg_p1,_⟩:=hgd
 have hM:=Qjt.eq_1 p0 p1
 refine ad 13 ?_
 refine op (cl (Qka p0.Reads p1.Reads) Yp4) ?_
 refine ad 2 ?_
 refine cd (fun h1=>?_) (fun h1=>?_)
 ·
  have hM:=hM.trans (bt h1)
  refine ad 4 ?_
  exact rz (rs:=[.tmp 4]) (congrArg (fun x=>[Re.c (.bool x)]) hM)
 ·
  have hM:=hM.trans (bf h1)
  refine ad 8 ?_
  refine op (cl (Qka p0.Writes p1.Writes) Yp4) ?_
  refine ad 2 ?_
  refine cd (fun h2=>?_) (fun h2=>?_)
  ·
   have hM:=hM.trans (bt h2)
   refine ad 4 ?_
   exact rz (rs:=[.tmp 4]) (congrArg (fun x=>[Re.c (.bool x)]) hM)
  ·
   have hM:=hM.trans (bf h2)
   refine ad 5 ?_
   exact rz (rs:=[.tmp 4]) (congrArg (fun x=>[Re.c (.bool x)]) hM)
def Qfl (p0:List Int) (p1:List Int):Nat→Nat→Bool
 | 0,i=>true
 | n+1,i=>bif !decide ((nth p0 i)=(nth p1 i)) then false else(Qfl p0 p1 n (i+1))
def Qk2 (p0:List Int) (p1:List Int):Bool:=bif !decide ((p0.length:Int)=(p1.length:Int)) then false else(Qfl p0 p1 (p0.length - 0) 0)
theorem Q97 (p0:List Int) (p1:List Int):CTs 171 [.o (.sl Int instDatInt p0),.o (.sl Int instDatInt p1)] [Re.c (.bool (Qk2 p0 p1))]:=by
 refine en Tryz.func171 Tryz.ntmps171 fun w hG hgd=>?_
 obtain⟨hg_p0,hg_p1,_⟩:=hgd
 have hl_p0:p0.length≤9223372036854775807:=hg_p0.1
 have hl_p1:p1.length≤9223372036854775807:=hg_p1.1
 have hM:=Qk2.eq_1 p0 p1
 refine ad 13 ?_
 refine cd (fun h1=>?_) (fun h1=>?_)
 ·
  have hM:=hM.trans (bt h1)
  refine ad 4 ?_
  exact rz (rs:=[.tmp 4]) (congrArg (fun x=>[Re.c (.bool x)]) hM)
 ·
  have hM:=hM.trans (bf h1)
  refine ad 7 ?_
  refine Run.loopM (ι:=Nat) (fun s=>Qfl p0 p1 (p0.length - s) s) (fun s=>⟨26,2,[(0,.sl 0 p0.length),(1,.sl 1 p1.length),(5,.v (.int .i64 (s:Int)))],[(0,.ros Int instDatInt p0),(1,.ros Int instDatInt p1)]⟩) (fun s=>s≤p0.length) (fun s=>p0.length - s) 0 [0,1] [0,1] hM lv0 su (by decide) ?_
  rintro i hv hE
  try dsimp only at hE
  have hi:=hv
  try dsimp only at hi
  refine ad 8 ?_
  refine cd (fun h2=>?_) (fun h2=>?_)
  ·
   have h2l:i<p0.length:=by have:=of_decide_eq_true h2;omega
   have hM:=hE.trans ((congrArg (fun n=>Qfl p0 p1 n i) (show p0.length - i=(p0.length - (i+1))+1 by omega)).trans (Qfl.eq_2 _ _ _ _))
   refine ad 4 ?_
   refine dr 9 fun _ _ _ _ _ hb=>?_
   refine tk [0,1] ?_
   have hg3:=Qan (k:=i) hg_p0 om
   refine tx 2 (dx (xs:=p0) i om) ?_
   refine tk [3,4,5] ?_
   have hg4:=Qan (k:=i) hg_p1 om
   refine tx 6 (dx (xs:=p1) i om) ?_
   refine tk [7,8] ?_
   refine dn hb ?_
   refine cd (fun h5=>?_) (fun h5=>?_)
   ·
    have hM:=hM.trans (bt h5)
    refine ad 4 ?_
    exact rz (rs:=[.tmp 4]) (congrArg (fun x=>[Re.c (.bool x)]) hM)
   ·
    have hM:=hM.trans (bf h5)
    refine ad 5 ?_
    rw[Qcv (i:=i) om]
    refine ad 2 ?_
    exact Run.again (i+1) [0,1] [2,3] ⟨by first | omega | exact trivial | (dsimp only;omega) | (refine⟨by omega,?_⟩;simp_all;try omega),hM⟩ rfl lv1 su (by decide)
  ·
   have h2l: ¬ (i<p0.length):=by have:=of_decide_eq_false h2;omega
   have hM:=hE.trans ((congrArg (fun n=>Qfl p0 p1 n i) (show p0.length - i=0 by omega)).trans (Qfl.eq_1 _ _ _))
   refine ad 5 ?_
   exact rz (rs:=[.tmp 4]) (congrArg (fun x=>[Re.c (.bool x)]) hM)
def Qmo (p0:Tx) (p1:Tx):Bool:=bif !decide (p0.Id=p1.Id) then false else(bif !decide (p0.Age=p1.Age) then false else(bif !decide (p0.Proc=p1.Proc) then false else(bif !decide (p0.Began=p1.Began) then false else(bif !(Qjw p0.Calls p1.Calls) then false else(bif !(Qhd p0.Answers p1.Answers) then false else(bif !(Qjt p0.Touch p1.Touch) then false else(bif !(Qk2 p0.Marks p1.Marks) then false else(bif !decide (p0.State=p1.State) then false else true))))))))
theorem Yfa (p0:Tx) (p1:Tx):CTs 95 [.o (.st Tx _ inferInstance p0),.o (.st Tx _ inferInstance p1)] [Re.c (.bool (Qmo p0 p1))]:=by
 refine en Tryz.func95 Tryz.ntmps95 fun w hG hgd=>?_
 obtain⟨hg_p0,hg_p1,_⟩:=hgd
 have hM:=Qmo.eq_1 p0 p1
 refine ad 15 ?_
 refine cd (fun h1=>?_) (fun h1=>?_)
 ·
  have hM:=hM.trans (bt h1)
  refine ad 4 ?_
  exact rz (rs:=[.tmp 4]) (congrArg (fun x=>[Re.c (.bool x)]) hM)
 ·
  have hM:=hM.trans (bf h1)
  refine ad 10 ?_
  refine cd (fun h2=>?_) (fun h2=>?_)
  ·
   have hM:=hM.trans (bt h2)
   refine ad 4 ?_
   exact rz (rs:=[.tmp 4]) (congrArg (fun x=>[Re.c (.bool x)]) hM)
  ·
   have hM:=hM.trans (bf h2)
   refine ad 10 ?_
   refine cd (fun h3=>?_) (fun h3=>?_)
   ·
    have hM:=hM.trans (bt h3)
    refine ad 4 ?_
    exact rz (rs:=[.tmp 4]) (congrArg (fun x=>[Re.c (.bool x)]) hM)
   ·
    have hM:=hM.trans (bf h3)
    refine ad 10 ?_
    refine cd (fun h4=>?_) (fun h4=>?_)
    ·
     have hM:=hM.trans (bt h4)
     refine ad 4 ?_
     exact rz (rs:=[.tmp 4]) (congrArg (fun x=>[Re.c (.bool x)]) hM)
    ·
     have hM:=hM.trans (bf h4)
     refine ad 8 ?_
     refine op (cl (Q2w p0.Calls p1.Calls) Ysi) ?_
     refine ad 2 ?_
     refine cd (fun h5=>?_) (fun h5=>?_)
     ·
      have hM:=hM.trans (bt h5)
      refine ad 4 ?_
      exact rz (rs:=[.tmp 4]) (congrArg (fun x=>[Re.c (.bool x)]) hM)
     ·
      have hM:=hM.trans (bf h5)
      refine ad 8 ?_
      refine op (cl (Qnm p0.Answers p1.Answers) Yoz) ?_
      refine ad 2 ?_
      refine cd (fun h6=>?_) (fun h6=>?_)
      ·
       have hM:=hM.trans (bt h6)
       refine ad 4 ?_
       exact rz (rs:=[.tmp 4]) (congrArg (fun x=>[Re.c (.bool x)]) hM)
      ·
       have hM:=hM.trans (bf h6)
       refine ad 8 ?_
       have hg7:Dat.good (p0.Touch:Touch):=hg_p0.2.2.2.2.2.2.1
       have hg8:Dat.good (p1.Touch:Touch):=hg_p1.2.2.2.2.2.2.1
       refine op (cl (Q2s p0.Touch p1.Touch) Ysh) ?_
       refine ad 2 ?_
       refine cd (fun h9=>?_) (fun h9=>?_)
       ·
        have hM:=hM.trans (bt h9)
        refine ad 4 ?_
        exact rz (rs:=[.tmp 4]) (congrArg (fun x=>[Re.c (.bool x)]) hM)
       ·
        have hM:=hM.trans (bf h9)
        refine ad 8 ?_
        refine op (cl (Q97 p0.Marks p1.Marks) Ysg) ?_
        refine ad 2 ?_
        refine cd (fun h10=>?_) (fun h10=>?_)
        ·
         have hM:=hM.trans (bt h10)
         refine ad 4 ?_
         exact rz (rs:=[.tmp 4]) (congrArg (fun x=>[Re.c (.bool x)]) hM)
        ·
         have hM:=hM.trans (bf h10)
         refine ad 10 ?_
         refine cd (fun h11=>?_) (fun h11=>?_)
         ·
          have hM:=hM.trans (bt h11)
          refine ad 4 ?_
          exact rz (rs:=[.tmp 4]) (congrArg (fun x=>[Re.c (.bool x)]) hM)
         ·
          have hM:=hM.trans (bf h11)
          refine ad 5 ?_
          exact rz (rs:=[.tmp 4]) (congrArg (fun x=>[Re.c (.bool x)]) hM)
def Qf3 (p0:List Tx) (p1:List Tx):Nat→Nat→Bool
 | 0,i=>true
 | n+1,i=>bif !(Qmo (nth p0 i) (nth p1 i)) then false else(Qf3 p0 p1 n (i+1))
def Qmn (p0:List Tx) (p1:List Tx):Bool:=bif !decide ((p0.length:Int)=(p1.length:Int)) then false else(Qf3 p0 p1 (p0.length - 0) 0)
theorem Yd4 (p0:List Tx) (p1:List Tx):CTs 46 [.o (.sl Tx instDatTx p0),.o (.sl Tx instDatTx p1)] [Re.c (.bool (Qmn p0 p1))]:=by
 refine en Tryz.func46 Tryz.ntmps46 fun w hG hgd=>?_
 obtain⟨hg_p0,hg_p1,_⟩:=hgd
 have hl_p0:p0.length≤9223372036854775807:=hg_p0.1
 have hl_p1:p1.length≤9223372036854775807:=hg_p1.1
 have hM:=Qmn.eq_1 p0 p1
 refine ad 13 ?_
 refine cd (fun h1=>?_) (fun h1=>?_)
 ·
  have hM:=hM.trans (bt h1)
  refine ad 4 ?_
  exact rz (rs:=[.tmp 4]) (congrArg (fun x=>[Re.c (.bool x)]) hM)
 ·
  have hM:=hM.trans (bf h1)
  refine ad 7 ?_
  refine Run.loopM (ι:=Nat) (fun s=>Qf3 p0 p1 (p0.length - s) s) (fun s=>⟨27,2,[(0,.sl 0 p0.length),(1,.sl 1 p1.length),(5,.v (.int .i64 (s:Int)))],[(0,.ros Tx instDatTx p0),(1,.ros Tx instDatTx p1)]⟩) (fun s=>s≤p0.length) (fun s=>p0.length - s) 0 [0,1] [0,1] hM lv0 su (by decide) ?_
  rintro i hv hE
  try dsimp only at hE
  have hi:=hv
  try dsimp only at hi
  refine ad 8 ?_
  refine cd (fun h2=>?_) (fun h2=>?_)
  ·
   have h2l:i<p0.length:=by have:=of_decide_eq_true h2;omega
   have hM:=hE.trans ((congrArg (fun n=>Qf3 p0 p1 n i) (show p0.length - i=(p0.length - (i+1))+1 by omega)).trans (Qf3.eq_2 _ _ _ _))
   refine ad 4 ?_
   refine dr 10 fun _ _ _ _ _ hb=>?_
   refine tk [0,1] ?_
   have hg3:=Qan (k:=i) hg_p0 om
   refine tx 2 (dx (xs:=p0) i om) ?_
   refine tk [3,4,5] ?_
   have hg4:=Qan (k:=i) hg_p1 om
   refine tx 6 (dx (xs:=p1) i om) ?_
   refine tk [7] ?_
   have hg5:Dat.good (nth p0 i:Tx):=hg3
   have hg6:Dat.good (nth p1 i:Tx):=hg4
   refine on 8 [12,13] (cl (Yfa (nth p0 i) (nth p1 i)) Yuw) ?_
   refine tk [9] ?_
   refine dn hb ?_
   refine cd (fun h7=>?_) (fun h7=>?_)
   ·
    have hM:=hM.trans (bt h7)
    refine ad 4 ?_
    exact rz (rs:=[.tmp 4]) (congrArg (fun x=>[Re.c (.bool x)]) hM)
   ·
    have hM:=hM.trans (bf h7)
    refine ad 5 ?_
    rw[Qcv (i:=i) om]
    refine ad 2 ?_
    exact Run.again (i+1) [0,1] [12,13] ⟨by first | omega | exact trivial | (dsimp only;omega) | (refine⟨by omega,?_⟩;simp_all;try omega),hM⟩ rfl lv1 su (by decide)
  ·
   have h2l: ¬ (i<p0.length):=by have:=of_decide_eq_false h2;omega
   have hM:=hE.trans ((congrArg (fun n=>Qf3 p0 p1 n i) (show p0.length - i=0 by omega)).trans (Qf3.eq_1 _ _ _))
   refine ad 5 ?_
   exact rz (rs:=[.tmp 4]) (congrArg (fun x=>[Re.c (.bool x)]) hM)
def Qjf (p0:Slot) (p1:Slot):Bool:=bif !decide (p0.Seq=p1.Seq) then false else(bif !(Qii p0.Cells p1.Cells) then false else(bif !decide (p0.Whole=p1.Whole) then false else true))
theorem Q96 (p0:Slot) (p1:Slot):CTs 172 [.o (.st Slot _ inferInstance p0),.o (.st Slot _ inferInstance p1)] [Re.c (.bool (Qjf p0 p1))]:=by
 refine en Tryz.func172 Tryz.ntmps172 fun w hG hgd=>?_
 obtain⟨hg_p0,hg_p1,_⟩:=hgd
 have hM:=Qjf.eq_1 p0 p1
 refine ad 15 ?_
 refine cd (fun h1=>?_) (fun h1=>?_)
 ·
  have hM:=hM.trans (bt h1)
  refine ad 4 ?_
  exact rz (rs:=[.tmp 4]) (congrArg (fun x=>[Re.c (.bool x)]) hM)
 ·
  have hM:=hM.trans (bf h1)
  refine ad 8 ?_
  refine op (cl (Qpo p0.Cells p1.Cells) Yq5) ?_
  refine ad 2 ?_
  refine cd (fun h2=>?_) (fun h2=>?_)
  ·
   have hM:=hM.trans (bt h2)
   refine ad 4 ?_
   exact rz (rs:=[.tmp 4]) (congrArg (fun x=>[Re.c (.bool x)]) hM)
  ·
   have hM:=hM.trans (bf h2)
   refine ad 10 ?_
   refine cd (fun h3=>?_) (fun h3=>?_)
   ·
    have hM:=hM.trans (bt h3)
    refine ad 4 ?_
    exact rz (rs:=[.tmp 4]) (congrArg (fun x=>[Re.c (.bool x)]) hM)
   ·
    have hM:=hM.trans (bf h3)
    refine ad 5 ?_
    exact rz (rs:=[.tmp 4]) (congrArg (fun x=>[Re.c (.bool x)]) hM)
def Qe4 (p0:List Slot) (p1:List Slot):Nat→Nat→Bool
 | 0,i=>true
 | n+1,i=>bif !(Qjf (nth p0 i) (nth p1 i)) then false else(Qe4 p0 p1 n (i+1))
def Qjv (p0:List Slot) (p1:List Slot):Bool:=bif !decide ((p0.length:Int)=(p1.length:Int)) then false else(Qe4 p0 p1 (p0.length - 0) 0)
theorem Q2u (p0:List Slot) (p1:List Slot):CTs 96 [.o (.sl Slot instDatSlot p0),.o (.sl Slot instDatSlot p1)] [Re.c (.bool (Qjv p0 p1))]:=by
 refine en Tryz.func96 Tryz.ntmps96 fun w hG hgd=>?_
 obtain⟨hg_p0,hg_p1,_⟩:=hgd
 have hl_p0:p0.length≤9223372036854775807:=hg_p0.1
 have hl_p1:p1.length≤9223372036854775807:=hg_p1.1
 have hM:=Qjv.eq_1 p0 p1
 refine ad 13 ?_
 refine cd (fun h1=>?_) (fun h1=>?_)
 ·
  have hM:=hM.trans (bt h1)
  refine ad 4 ?_
  exact rz (rs:=[.tmp 4]) (congrArg (fun x=>[Re.c (.bool x)]) hM)
 ·
  have hM:=hM.trans (bf h1)
  refine ad 7 ?_
  refine Run.loopM (ι:=Nat) (fun s=>Qe4 p0 p1 (p0.length - s) s) (fun s=>⟨27,2,[(0,.sl 0 p0.length),(1,.sl 1 p1.length),(5,.v (.int .i64 (s:Int)))],[(0,.ros Slot instDatSlot p0),(1,.ros Slot instDatSlot p1)]⟩) (fun s=>s≤p0.length) (fun s=>p0.length - s) 0 [0,1] [0,1] hM lv0 su (by decide) ?_
  rintro i hv hE
  try dsimp only at hE
  have hi:=hv
  try dsimp only at hi
  refine ad 8 ?_
  refine cd (fun h2=>?_) (fun h2=>?_)
  ·
   have h2l:i<p0.length:=by have:=of_decide_eq_true h2;omega
   have hM:=hE.trans ((congrArg (fun n=>Qe4 p0 p1 n i) (show p0.length - i=(p0.length - (i+1))+1 by omega)).trans (Qe4.eq_2 _ _ _ _))
   refine ad 4 ?_
   refine dr 10 fun _ _ _ _ _ hb=>?_
   refine tk [0,1] ?_
   have hg3:=Qan (k:=i) hg_p0 om
   refine tx 2 (dx (xs:=p0) i om) ?_
   refine tk [3,4,5] ?_
   have hg4:=Qan (k:=i) hg_p1 om
   refine tx 6 (dx (xs:=p1) i om) ?_
   refine tk [7] ?_
   have hg5:Dat.good (nth p0 i:Slot):=hg3
   have hg6:Dat.good (nth p1 i:Slot):=hg4
   refine on 8 [4,5] (cl (Q96 (nth p0 i) (nth p1 i)) Ysf) ?_
   refine tk [9] ?_
   refine dn hb ?_
   refine cd (fun h7=>?_) (fun h7=>?_)
   ·
    have hM:=hM.trans (bt h7)
    refine ad 4 ?_
    exact rz (rs:=[.tmp 4]) (congrArg (fun x=>[Re.c (.bool x)]) hM)
   ·
    have hM:=hM.trans (bf h7)
    refine ad 5 ?_
    rw[Qcv (i:=i) om]
    refine ad 2 ?_
    exact Run.again (i+1) [0,1] [4,5] ⟨by first | omega | exact trivial | (dsimp only;omega) | (refine⟨by omega,?_⟩;simp_all;try omega),hM⟩ rfl lv1 su (by decide)
  ·
   have h2l: ¬ (i<p0.length):=by have:=of_decide_eq_false h2;omega
   have hM:=hE.trans ((congrArg (fun n=>Qe4 p0 p1 n i) (show p0.length - i=0 by omega)).trans (Qe4.eq_1 _ _ _))
   refine ad 5 ?_
   exact rz (rs:=[.tmp 4]) (congrArg (fun x=>[Re.c (.bool x)]) hM)
def Qh4 (p0:Journal) (p1:Journal):Bool:=bif !decide (p0.Text=p1.Text) then false else(bif !decide (p0.Sure=p1.Sure) then false else true)
theorem Qzi (p0:Journal) (p1:Journal):CTs 97 [.o (.st Journal _ inferInstance p0),.o (.st Journal _ inferInstance p1)] [Re.c (.bool (Qh4 p0 p1))]:=by
 refine en Tryz.func97 Tryz.ntmps97 fun w hG hgd=>?_
 obtain⟨hg_p0,hg_p1,_⟩:=hgd
 have hM:=Qh4.eq_1 p0 p1
 refine ad 15 ?_
 refine cd (fun h1=>?_) (fun h1=>?_)
 ·
  have hM:=hM.trans (bt h1)
  refine ad 4 ?_
  exact rz (rs:=[.tmp 4]) (congrArg (fun x=>[Re.c (.bool x)]) hM)
 ·
  have hM:=hM.trans (bf h1)
  refine ad 10 ?_
  refine cd (fun h2=>?_) (fun h2=>?_)
  ·
   have hM:=hM.trans (bt h2)
   refine ad 4 ?_
   exact rz (rs:=[.tmp 4]) (congrArg (fun x=>[Re.c (.bool x)]) hM)
  ·
   have hM:=hM.trans (bf h2)
   refine ad 5 ?_
   exact rz (rs:=[.tmp 4]) (congrArg (fun x=>[Re.c (.bool x)]) hM)
def Qk3 (p0:Disk) (p1:Disk):Bool:=bif !(Qjv p0.Slots p1.Slots) then false else(bif !(Qh4 p0.Journal p1.Journal) then false else true)
theorem Q98 (p0:Disk) (p1:Disk):CTs 47 [.o (.st Disk _ inferInstance p0),.o (.st Disk _ inferInstance p1)] [Re.c (.bool (Qk3 p0 p1))]:=by
 refine en Tryz.func47 Tryz.ntmps47 fun w hG hgd=>?_
 obtain⟨hg_p0,hg_p1,_⟩:=hgd
 have hM:=Qk3.eq_1 p0 p1
 refine ad 13 ?_
 refine op (cl (Q2u p0.Slots p1.Slots) Yuv) ?_
 refine ad 2 ?_
 refine cd (fun h1=>?_) (fun h1=>?_)
 ·
  have hM:=hM.trans (bt h1)
  refine ad 4 ?_
  exact rz (rs:=[.tmp 4]) (congrArg (fun x=>[Re.c (.bool x)]) hM)
 ·
  have hM:=hM.trans (bf h1)
  refine ad 8 ?_
  have hg2:Dat.good (p0.Journal:Journal):=hg_p0.2
  have hg3:Dat.good (p1.Journal:Journal):=hg_p1.2
  refine op (cl (Qzi p0.Journal p1.Journal) Yuu) ?_
  refine ad 2 ?_
  refine cd (fun h4=>?_) (fun h4=>?_)
  ·
   have hM:=hM.trans (bt h4)
   refine ad 4 ?_
   exact rz (rs:=[.tmp 4]) (congrArg (fun x=>[Re.c (.bool x)]) hM)
  ·
   have hM:=hM.trans (bf h4)
   refine ad 5 ?_
   exact rz (rs:=[.tmp 4]) (congrArg (fun x=>[Re.c (.bool x)]) hM)
def Qje (p0:Step) (p1:Step):Bool:=bif !decide (p0.Proc=p1.Proc) then false else(bif !(Qh9 p0.Call p1.Call) then false else true)
theorem Q95 (p0:Step) (p1:Step):CTs 183 [.o (.st Step _ inferInstance p0),.o (.st Step _ inferInstance p1)] [Re.c (.bool (Qje p0 p1))]:=by
 refine en Tryz.func183 Tryz.ntmps183 fun w hG hgd=>?_
 obtain⟨hg_p0,hg_p1,_⟩:=hgd
 have hM:=Qje.eq_1 p0 p1
 refine ad 15 ?_
 refine cd (fun h1=>?_) (fun h1=>?_)
 ·
  have hM:=hM.trans (bt h1)
  refine ad 4 ?_
  exact rz (rs:=[.tmp 4]) (congrArg (fun x=>[Re.c (.bool x)]) hM)
 ·
  have hM:=hM.trans (bf h1)
  refine ad 8 ?_
  have hg2:Dat.good (p0.Call:Call):=hg_p0.2
  have hg3:Dat.good (p1.Call:Call):=hg_p1.2
  refine op (cl (Qrv p0.Call p1.Call) Yoj) ?_
  refine ad 2 ?_
  refine cd (fun h4=>?_) (fun h4=>?_)
  ·
   have hM:=hM.trans (bt h4)
   refine ad 4 ?_
   exact rz (rs:=[.tmp 4]) (congrArg (fun x=>[Re.c (.bool x)]) hM)
  ·
   have hM:=hM.trans (bf h4)
   refine ad 5 ?_
   exact rz (rs:=[.tmp 4]) (congrArg (fun x=>[Re.c (.bool x)]) hM)
def Qe3 (p0:List Step) (p1:List Step):Nat→Nat→Bool
 | 0,i=>true
 | n+1,i=>bif !(Qje (nth p0 i) (nth p1 i)) then false else(Qe3 p0 p1 n (i+1))
def Qju (p0:List Step) (p1:List Step):Bool:=bif !decide ((p0.length:Int)=(p1.length:Int)) then false else(Qe3 p0 p1 (p0.length - 0) 0)
theorem Q2t (p0:List Step) (p1:List Step):CTs 122 [.o (.sl Step instDatStep p0),.o (.sl Step instDatStep p1)] [Re.c (.bool (Qju p0 p1))]:=by
 refine en Tryz.func122 Tryz.ntmps122 fun w hG hgd=>?_
 obtain⟨hg_p0,hg_p1,_⟩:=hgd
 have hl_p0:p0.length≤9223372036854775807:=hg_p0.1
 have hl_p1:p1.length≤9223372036854775807:=hg_p1.1
 have hM:=Qju.eq_1 p0 p1
 refine ad 13 ?_
 refine cd (fun h1=>?_) (fun h1=>?_)
 ·
  have hM:=hM.trans (bt h1)
  refine ad 4 ?_
  exact rz (rs:=[.tmp 4]) (congrArg (fun x=>[Re.c (.bool x)]) hM)
 ·
  have hM:=hM.trans (bf h1)
  refine ad 7 ?_
  refine Run.loopM (ι:=Nat) (fun s=>Qe3 p0 p1 (p0.length - s) s) (fun s=>⟨27,2,[(0,.sl 0 p0.length),(1,.sl 1 p1.length),(5,.v (.int .i64 (s:Int)))],[(0,.ros Step instDatStep p0),(1,.ros Step instDatStep p1)]⟩) (fun s=>s≤p0.length) (fun s=>p0.length - s) 0 [0,1] [0,1] hM lv0 su (by decide) ?_
  rintro i hv hE
  try dsimp only at hE
  have hi:=hv
  try dsimp only at hi
  refine ad 8 ?_
  refine cd (fun h2=>?_) (fun h2=>?_)
  ·
   have h2l:i<p0.length:=by have:=of_decide_eq_true h2;omega
   have hM:=hE.trans ((congrArg (fun n=>Qe3 p0 p1 n i) (show p0.length - i=(p0.length - (i+1))+1 by omega)).trans (Qe3.eq_2 _ _ _ _))
   refine ad 4 ?_
   refine dr 10 fun _ _ _ _ _ hb=>?_
   refine tk [0,1] ?_
   have hg3:=Qan (k:=i) hg_p0 om
   refine tx 2 (dx (xs:=p0) i om) ?_
   refine tk [3,4,5] ?_
   have hg4:=Qan (k:=i) hg_p1 om
   refine tx 6 (dx (xs:=p1) i om) ?_
   refine tk [7] ?_
   have hg5:Dat.good (nth p0 i:Step):=hg3
   have hg6:Dat.good (nth p1 i:Step):=hg4
   refine on 8 [2,3] (cl (Q95 (nth p0 i) (nth p1 i)) Ysc) ?_
   refine tk [9] ?_
   refine dn hb ?_
   refine cd (fun h7=>?_) (fun h7=>?_)
   ·
    have hM:=hM.trans (bt h7)
    refine ad 4 ?_
    exact rz (rs:=[.tmp 4]) (congrArg (fun x=>[Re.c (.bool x)]) hM)
   ·
    have hM:=hM.trans (bf h7)
    refine ad 5 ?_
    rw[Qcv (i:=i) om]
    refine ad 2 ?_
    exact Run.again (i+1) [0,1] [2,3] ⟨by first | omega | exact trivial | (dsimp only;omega) | (refine⟨by omega,?_⟩;simp_all;try omega),hM⟩ rfl lv1 su (by decide)
  ·
   have h2l: ¬ (i<p0.length):=by have:=of_decide_eq_false h2;omega
   have hM:=hE.trans ((congrArg (fun n=>Qe3 p0 p1 n i) (show p0.length - i=0 by omega)).trans (Qe3.eq_1 _ _ _))
   refine ad 5 ?_
   exact rz (rs:=[.tmp 4]) (congrArg (fun x=>[Re.c (.bool x)]) hM)
def Qih (p0:Entry) (p1:Entry):Bool:=bif !decide (p0.Seq=p1.Seq) then false else(bif !decide (p0.Kind=p1.Kind) then false else(bif !decide (p0.Tx=p1.Tx) then false else(bif !(Qju p0.Steps p1.Steps) then false else(bif !(Qhd p0.Answers p1.Answers) then false else(bif !decide (p0.Began=p1.Began) then false else(bif !decide (p0.Ended=p1.Ended) then false else(bif !decide (p0.Laid=p1.Laid) then false else true)))))))
theorem Q2v (p0:Entry) (p1:Entry):CTs 63 [.o (.st Entry _ inferInstance p0),.o (.st Entry _ inferInstance p1)] [Re.c (.bool (Qih p0 p1))]:=by
 refine en Tryz.func63 Tryz.ntmps63 fun w hG hgd=>?_
 obtain⟨hg_p0,hg_p1,_⟩:=hgd
 have hM:=Qih.eq_1 p0 p1
 refine ad 15 ?_
 refine cd (fun h1=>?_) (fun h1=>?_)
 ·
  have hM:=hM.trans (bt h1)
  refine ad 4 ?_
  exact rz (rs:=[.tmp 4]) (congrArg (fun x=>[Re.c (.bool x)]) hM)
 ·
  have hM:=hM.trans (bf h1)
  refine ad 10 ?_
  refine cd (fun h2=>?_) (fun h2=>?_)
  ·
   have hM:=hM.trans (bt h2)
   refine ad 4 ?_
   exact rz (rs:=[.tmp 4]) (congrArg (fun x=>[Re.c (.bool x)]) hM)
  ·
   have hM:=hM.trans (bf h2)
   refine ad 10 ?_
   refine cd (fun h3=>?_) (fun h3=>?_)
   ·
    have hM:=hM.trans (bt h3)
    refine ad 4 ?_
    exact rz (rs:=[.tmp 4]) (congrArg (fun x=>[Re.c (.bool x)]) hM)
   ·
    have hM:=hM.trans (bf h3)
    refine ad 8 ?_
    refine op (cl (Q2t p0.Steps p1.Steps) Ys9) ?_
    refine ad 2 ?_
    refine cd (fun h4=>?_) (fun h4=>?_)
    ·
     have hM:=hM.trans (bt h4)
     refine ad 4 ?_
     exact rz (rs:=[.tmp 4]) (congrArg (fun x=>[Re.c (.bool x)]) hM)
    ·
     have hM:=hM.trans (bf h4)
     refine ad 8 ?_
     refine op (cl (Qnm p0.Answers p1.Answers) Yoz) ?_
     refine ad 2 ?_
     refine cd (fun h5=>?_) (fun h5=>?_)
     ·
      have hM:=hM.trans (bt h5)
      refine ad 4 ?_
      exact rz (rs:=[.tmp 4]) (congrArg (fun x=>[Re.c (.bool x)]) hM)
     ·
      have hM:=hM.trans (bf h5)
      refine ad 10 ?_
      refine cd (fun h6=>?_) (fun h6=>?_)
      ·
       have hM:=hM.trans (bt h6)
       refine ad 4 ?_
       exact rz (rs:=[.tmp 4]) (congrArg (fun x=>[Re.c (.bool x)]) hM)
      ·
       have hM:=hM.trans (bf h6)
       refine ad 10 ?_
       refine cd (fun h7=>?_) (fun h7=>?_)
       ·
        have hM:=hM.trans (bt h7)
        refine ad 4 ?_
        exact rz (rs:=[.tmp 4]) (congrArg (fun x=>[Re.c (.bool x)]) hM)
       ·
        have hM:=hM.trans (bf h7)
        refine ad 10 ?_
        refine cd (fun h8=>?_) (fun h8=>?_)
        ·
         have hM:=hM.trans (bt h8)
         refine ad 4 ?_
         exact rz (rs:=[.tmp 4]) (congrArg (fun x=>[Re.c (.bool x)]) hM)
        ·
         have hM:=hM.trans (bf h8)
         refine ad 5 ?_
         exact rz (rs:=[.tmp 4]) (congrArg (fun x=>[Re.c (.bool x)]) hM)
def Qed (p0:List Entry) (p1:List Entry):Nat→Nat→Bool
 | 0,i=>true
 | n+1,i=>bif !(Qih (nth p0 i) (nth p1 i)) then false else(Qed p0 p1 n (i+1))
def Qix (p0:List Entry) (p1:List Entry):Bool:=bif !decide ((p0.length:Int)=(p1.length:Int)) then false else(Qed p0 p1 (p0.length - 0) 0)
theorem Q1f (p0:List Entry) (p1:List Entry):CTs 24 [.o (.sl Entry instDatEntry p0),.o (.sl Entry instDatEntry p1)] [Re.c (.bool (Qix p0 p1))]:=by
 refine en Tryz.func24 Tryz.ntmps24 fun w hG hgd=>?_
 obtain⟨hg_p0,hg_p1,_⟩:=hgd
 have hl_p0:p0.length≤9223372036854775807:=hg_p0.1
 have hl_p1:p1.length≤9223372036854775807:=hg_p1.1
 have hM:=Qix.eq_1 p0 p1
 refine ad 13 ?_
 refine cd (fun h1=>?_) (fun h1=>?_)
 ·
  have hM:=hM.trans (bt h1)
  refine ad 4 ?_
  exact rz (rs:=[.tmp 4]) (congrArg (fun x=>[Re.c (.bool x)]) hM)
 ·
  have hM:=hM.trans (bf h1)
  refine ad 7 ?_
  refine Run.loopM (ι:=Nat) (fun s=>Qed p0 p1 (p0.length - s) s) (fun s=>⟨27,2,[(0,.sl 0 p0.length),(1,.sl 1 p1.length),(5,.v (.int .i64 (s:Int)))],[(0,.ros Entry instDatEntry p0),(1,.ros Entry instDatEntry p1)]⟩) (fun s=>s≤p0.length) (fun s=>p0.length - s) 0 [0,1] [0,1] hM lv0 su (by decide) ?_
  rintro i hv hE
  try dsimp only at hE
  have hi:=hv
  try dsimp only at hi
  refine ad 8 ?_
  refine cd (fun h2=>?_) (fun h2=>?_)
  ·
   have h2l:i<p0.length:=by have:=of_decide_eq_true h2;omega
   have hM:=hE.trans ((congrArg (fun n=>Qed p0 p1 n i) (show p0.length - i=(p0.length - (i+1))+1 by omega)).trans (Qed.eq_2 _ _ _ _))
   refine ad 4 ?_
   refine dr 10 fun _ _ _ _ _ hb=>?_
   refine tk [0,1] ?_
   have hg3:=Qan (k:=i) hg_p0 om
   refine tx 2 (dx (xs:=p0) i om) ?_
   refine tk [3,4,5] ?_
   have hg4:=Qan (k:=i) hg_p1 om
   refine tx 6 (dx (xs:=p1) i om) ?_
   refine tk [7] ?_
   have hg5:Dat.good (nth p0 i:Entry):=hg3
   have hg6:Dat.good (nth p1 i:Entry):=hg4
   refine on 8 [6,7] (cl (Q2v (nth p0 i) (nth p1 i)) Yvd) ?_
   refine tk [9] ?_
   refine dn hb ?_
   refine cd (fun h7=>?_) (fun h7=>?_)
   ·
    have hM:=hM.trans (bt h7)
    refine ad 4 ?_
    exact rz (rs:=[.tmp 4]) (congrArg (fun x=>[Re.c (.bool x)]) hM)
   ·
    have hM:=hM.trans (bf h7)
    refine ad 5 ?_
    rw[Qcv (i:=i) om]
    refine ad 2 ?_
    exact Run.again (i+1) [0,1] [6,7] ⟨by first | omega | exact trivial | (dsimp only;omega) | (refine⟨by omega,?_⟩;simp_all;try omega),hM⟩ rfl lv1 su (by decide)
  ·
   have h2l: ¬ (i<p0.length):=by have:=of_decide_eq_false h2;omega
   have hM:=hE.trans ((congrArg (fun n=>Qed p0 p1 n i) (show p0.length - i=0 by omega)).trans (Qed.eq_1 _ _ _))
   refine ad 5 ?_
   exact rz (rs:=[.tmp 4]) (congrArg (fun x=>[Re.c (.bool x)]) hM)
def Qiw (p0:Kernel) (p1:Kernel):Bool:=bif !(Qii p0.Store p1.Store) then false else(bif !(Qmn p0.Txs p1.Txs) then false else(bif !(Qk3 p0.Disk p1.Disk) then false else(bif !decide (p0.Seq=p1.Seq) then false else(bif !decide (p0.Next=p1.Next) then false else(bif !decide (p0.Time=p1.Time) then false else(bif !(Qix p0.History p1.History) then false else(bif !(Qgp p0.Seen p1.Seen) then false else(bif !decide (p0.Room=p1.Room) then false else true))))))))
theorem Q1e (p0:Kernel) (p1:Kernel):CTs 13 [.o (.st Kernel _ inferInstance p0),.o (.st Kernel _ inferInstance p1)] [Re.c (.bool (Qiw p0 p1))]:=by
 refine en Tryz.func13 Tryz.ntmps13 fun w hG hgd=>?_
 obtain⟨hg_p0,hg_p1,_⟩:=hgd
 have hM:=Qiw.eq_1 p0 p1
 refine ad 13 ?_
 refine op (cl (Qpo p0.Store p1.Store) Yq5) ?_
 refine ad 2 ?_
 refine cd (fun h1=>?_) (fun h1=>?_)
 ·
  have hM:=hM.trans (bt h1)
  refine ad 4 ?_
  exact rz (rs:=[.tmp 4]) (congrArg (fun x=>[Re.c (.bool x)]) hM)
 ·
  have hM:=hM.trans (bf h1)
  refine ad 8 ?_
  refine op (cl (Yd4 p0.Txs p1.Txs) Yvk) ?_
  refine ad 2 ?_
  refine cd (fun h2=>?_) (fun h2=>?_)
  ·
   have hM:=hM.trans (bt h2)
   refine ad 4 ?_
   exact rz (rs:=[.tmp 4]) (congrArg (fun x=>[Re.c (.bool x)]) hM)
  ·
   have hM:=hM.trans (bf h2)
   refine ad 8 ?_
   have hg3:Dat.good (p0.Disk:Disk):=hg_p0.2.2.1
   have hg4:Dat.good (p1.Disk:Disk):=hg_p1.2.2.1
   refine op (cl (Q98 p0.Disk p1.Disk) Yvj) ?_
   refine ad 2 ?_
   refine cd (fun h5=>?_) (fun h5=>?_)
   ·
    have hM:=hM.trans (bt h5)
    refine ad 4 ?_
    exact rz (rs:=[.tmp 4]) (congrArg (fun x=>[Re.c (.bool x)]) hM)
   ·
    have hM:=hM.trans (bf h5)
    refine ad 10 ?_
    refine cd (fun h6=>?_) (fun h6=>?_)
    ·
     have hM:=hM.trans (bt h6)
     refine ad 4 ?_
     exact rz (rs:=[.tmp 4]) (congrArg (fun x=>[Re.c (.bool x)]) hM)
    ·
     have hM:=hM.trans (bf h6)
     refine ad 10 ?_
     refine cd (fun h7=>?_) (fun h7=>?_)
     ·
      have hM:=hM.trans (bt h7)
      refine ad 4 ?_
      exact rz (rs:=[.tmp 4]) (congrArg (fun x=>[Re.c (.bool x)]) hM)
     ·
      have hM:=hM.trans (bf h7)
      refine ad 10 ?_
      refine cd (fun h8=>?_) (fun h8=>?_)
      ·
       have hM:=hM.trans (bt h8)
       refine ad 4 ?_
       exact rz (rs:=[.tmp 4]) (congrArg (fun x=>[Re.c (.bool x)]) hM)
      ·
       have hM:=hM.trans (bf h8)
       refine ad 8 ?_
       refine op (cl (Q1f p0.History p1.History) Yvv) ?_
       refine ad 2 ?_
       refine cd (fun h9=>?_) (fun h9=>?_)
       ·
        have hM:=hM.trans (bt h9)
        refine ad 4 ?_
        exact rz (rs:=[.tmp 4]) (congrArg (fun x=>[Re.c (.bool x)]) hM)
       ·
        have hM:=hM.trans (bf h9)
        refine ad 8 ?_
        refine op (cl (Qka p0.Seen p1.Seen) Yp4) ?_
        refine ad 2 ?_
        refine cd (fun h10=>?_) (fun h10=>?_)
        ·
         have hM:=hM.trans (bt h10)
         refine ad 4 ?_
         exact rz (rs:=[.tmp 4]) (congrArg (fun x=>[Re.c (.bool x)]) hM)
        ·
         have hM:=hM.trans (bf h10)
         refine ad 10 ?_
         refine cd (fun h11=>?_) (fun h11=>?_)
         ·
          have hM:=hM.trans (bt h11)
          refine ad 4 ?_
          exact rz (rs:=[.tmp 4]) (congrArg (fun x=>[Re.c (.bool x)]) hM)
         ·
          have hM:=hM.trans (bf h11)
          refine ad 5 ?_
          exact rz (rs:=[.tmp 4]) (congrArg (fun x=>[Re.c (.bool x)]) hM)
end
section
def toL {α:Type} [Inhabited α] (f:α→α) (xs:List α):Nat→List α→Nat→List α
 | 0,w,_=>w
 | n+1,w,i=>toL f xs n (w.set i (f (nth xs i))) (i+1)
theorem Qql {α:Type} [Inhabited α] {f:α→α} (hf: ∀ x,f x=x) (xs:List α): ∀ n w i,n=xs.length - i→w.length=xs.length→(∀ j,j<i→w[j]?=xs[j]?)→toL f xs n w i=xs:=by
 intro n
 induction n with
 | zero =>
  intro w i h hl hj
  show w=xs
  apply List.ext_getElem?
  intro j
  rcases Nat.lt_or_ge j i with h1 | h1
  ·exact hj j h1
  ·rw[List.getElem?_eq_none (by omega),List.getElem?_eq_none (by omega)]
 | succ n ih =>
  intro w i h hl hj
  rw[toL]
  refine ih _ (i+1) (by omega) (by rw[List.length_set];exact hl) fun j hji=>?_
  rcases Nat.lt_or_ge j i with h1 | h1
  ·rw[List.getElem?_set_ne (by omega)]
   exact hj j h1
  ·obtain rfl : j = i := by omega
   rw[List.getElem?_set_self (by omega),hf]
   unfold nth
   rw[List.getD_eq_getElem?_getD,List.getElem?_eq_getElem (by omega:j<xs.length)]
   rfl
def eqL {α:Type} [Inhabited α] (f:α→α→Bool) (xs ys:List α):Nat→Nat→Bool
 | 0,_=>true
 | n+1,i=>bif !(f (nth xs i) (nth ys i)) then false else eqL f xs ys n (i+1)
theorem Qki {α:Type} [Inhabited α] {f:α→α→Bool} (hf: ∀ x,f x x=true) (xs:List α): ∀ n i,eqL f xs xs n i=true:=by
 intro n
 induction n with
 | zero=>intro i;rfl
 | succ n ih=>intro i;rw[eqL,hf,ih];rfl
theorem Q16 (p0:Cell):Qhl p0=p0:=by
 unfold Qhl
 rfl
theorem Qq0 (p0:List Cell): ∀ n w i,Qev p0 n w i=toL (Qhl) p0 n w i:=by
 intro n
 induction n with
 | zero=>intro w i;rfl
 | succ n ih=>intro w i;rw[Qev,toL,ih]
theorem Qob (p0:List Cell):Qgy p0=p0:=by
 unfold Qgy
 rw[Qq0]
 exact Qql (Q16) p0 _ _ 0 rfl (by rw[List.length_replicate]) fun j hj=>by omega
theorem Qpe (p0:Call):Qgo p0=p0:=by
 unfold Qgo
 rfl
theorem Qq1 (p0:List Call): ∀ n w i,Qew p0 n w i=toL (Qgo) p0 n w i:=by
 intro n
 induction n with
 | zero=>intro w i;rfl
 | succ n ih=>intro w i;rw[Qew,toL,ih]
theorem Q0k (p0:List Call):Qig p0=p0:=by
 unfold Qig
 rw[Qq1]
 exact Qql (Qpe) p0 _ _ 0 rfl (by rw[List.length_replicate]) fun j hj=>by omega
theorem Qy3 (p0:Answer):Qgj p0=p0:=by
 unfold Qgj
 rfl
theorem Qo3 (p0:List Answer): ∀ n w i,Qdr p0 n w i=toL (Qgj) p0 n w i:=by
 intro n
 induction n with
 | zero=>intro w i;rfl
 | succ n ih=>intro w i;rw[Qdr,toL,ih]
theorem Qml (p0:List Answer):Qf6 p0=p0:=by
 unfold Qf6
 rw[Qo3]
 exact Qql (Qy3) p0 _ _ 0 rfl (by rw[List.length_replicate]) fun j hj=>by omega
theorem Qo2 (p0:List ByteArray): ∀ n w i,Qdp p0 n w i=toL (fun x=>x) p0 n w i:=by
 intro n
 induction n with
 | zero=>intro w i;rfl
 | succ n ih=>intro w i;rw[Qdp,toL,ih]
theorem Qmk (p0:List ByteArray):Qeo p0=p0:=by
 unfold Qeo
 rw[Qo2]
 exact Qql (fun _=>rfl) p0 _ _ 0 rfl (by rw[List.length_replicate]) fun j hj=>by omega
theorem Q0g (p0:Touch):Qid p0=p0:=by
 unfold Qid
 simp only[Qmk]
theorem Qsb (p0:List Int): ∀ n w i,Qfj p0 n w i=toL (fun x=>x) p0 n w i:=by
 intro n
 induction n with
 | zero=>intro w i;rfl
 | succ n ih=>intro w i;rw[Qfj,toL,ih]
theorem Q14 (p0:List Int):Qjc p0=p0:=by
 unfold Qjc
 rw[Qsb]
 exact Qql (fun _=>rfl) p0 _ _ 0 rfl (by rw[List.length_replicate]) fun j hj=>by omega
theorem Ydl (p0:Tx):Qjs p0=p0:=by
 unfold Qjs
 simp only[Qml,Q0k,Q14,Q0g]
theorem Qy1 (p0:List Tx): ∀ n w i,Qf1 p0 n w i=toL (Qjs) p0 n w i:=by
 intro n
 induction n with
 | zero=>intro w i;rfl
 | succ n ih=>intro w i;rw[Qf1,toL,ih]
theorem Q9f (p0:List Tx):Qkr p0=p0:=by
 unfold Qkr
 rw[Qy1]
 exact Qql (Ydl) p0 _ _ 0 rfl (by rw[List.length_replicate]) fun j hj=>by omega
theorem Q13 (p0:Slot):Qhk p0=p0:=by
 unfold Qhk
 simp only[Qob]
theorem Qqz (p0:List Slot): ∀ n w i,Qeu p0 n w i=toL (Qhk) p0 n w i:=by
 intro n
 induction n with
 | zero=>intro w i;rfl
 | succ n ih=>intro w i;rw[Qeu,toL,ih]
theorem Q0i (p0:List Slot):Qif p0=p0:=by
 unfold Qif
 rw[Qqz]
 exact Qql (Q13) p0 _ _ 0 rfl (by rw[List.length_replicate]) fun j hj=>by omega
theorem Qsa (p0:Journal):Qhc p0=p0:=by
 unfold Qhc
 rfl
theorem Q15 (p0:Disk):Qjd p0=p0:=by
 unfold Qjd
 simp only[Qsa,Q0i]
theorem Q12 (p0:Step):Qhj p0=p0:=by
 unfold Qhj
 simp only[Qpe]
theorem Qqy (p0:List Step): ∀ n w i,Qet p0 n w i=toL (Qhj) p0 n w i:=by
 intro n
 induction n with
 | zero=>intro w i;rfl
 | succ n ih=>intro w i;rw[Qet,toL,ih]
theorem Q0h (p0:List Step):Qie p0=p0:=by
 unfold Qie
 rw[Qqy]
 exact Qql (Q12) p0 _ _ 0 rfl (by rw[List.length_replicate]) fun j hj=>by omega
theorem Q0j (p0:Entry):Qgx p0=p0:=by
 unfold Qgx
 simp only[Qml,Q0h]
theorem Qp6 (p0:List Entry): ∀ n w i,Qeb p0 n w i=toL (Qgx) p0 n w i:=by
 intro n
 induction n with
 | zero=>intro w i;rfl
 | succ n ih=>intro w i;rw[Qeb,toL,ih]
theorem Qy2 (p0:List Entry):Qhw p0=p0:=by
 unfold Qhw
 rw[Qp6]
 exact Qql (Q0j) p0 _ _ 0 rfl (by rw[List.length_replicate]) fun j hj=>by omega
theorem Qnf (p0:Kernel):Qdq p0=p0:=by
 unfold Qdq
 simp only[Qob,Q15,Qy2,Qmk,Q9f]
theorem Qzb (p0:Cell):Qjg p0 p0=true:=by
 unfold Qjg
 simp only[decide_true,Bool.not_true,cond_false]
theorem Qrf (p0 p1:List Cell): ∀ n i,Qe5 p0 p1 n i=eqL (Qjg) p0 p1 n i:=by
 intro n
 induction n with
 | zero=>intro i;rfl
 | succ n ih=>intro i;rw[Qe5,eqL,ih]
theorem Qmp (p0:List Cell):Qii p0 p0=true:=by
 unfold Qii
 rw[decide_eq_true rfl,Qrf]
 exact Qki (Qzb) _ _ _
theorem Qng (p0:Call):Qh9 p0 p0=true:=by
 unfold Qh9
 simp only[decide_true,Bool.not_true,cond_false]
theorem Qrg (p0 p1:List Call): ∀ n i,Qe6 p0 p1 n i=eqL (Qh9) p0 p1 n i:=by
 intro n
 induction n with
 | zero=>intro i;rfl
 | succ n ih=>intro i;rw[Qe6,eqL,ih]
theorem Qsm (p0:List Call):Qjw p0 p0=true:=by
 unfold Qjw
 rw[decide_eq_true rfl,Qrg]
 exact Qki (Qng) _ _ _
theorem Qrh (p0:Answer):Qhy p0 p0=true:=by
 unfold Qhy
 simp only[decide_true,Bool.not_true,cond_false]
theorem Qo8 (p0 p1:List Answer): ∀ n i,Qdw p0 p1 n i=eqL (Qhy) p0 p1 n i:=by
 intro n
 induction n with
 | zero=>intro i;rfl
 | succ n ih=>intro i;rw[Qdw,eqL,ih]
theorem Qk4 (p0:List Answer):Qhd p0 p0=true:=by
 unfold Qhd
 rw[decide_eq_true rfl,Qo8]
 exact Qki (Qrh) _ _ _
theorem Qo7 (p0 p1:List ByteArray): ∀ n i,Qdv p0 p1 n i=eqL (fun a b=>decide (a=b)) p0 p1 n i:=by
 intro n
 induction n with
 | zero=>intro i;rfl
 | succ n ih=>intro i;rw[Qdv,eqL,ih]
theorem Qk1 (p0:List ByteArray):Qgp p0 p0=true:=by
 unfold Qgp
 rw[decide_eq_true rfl,Qo7]
 exact Qki (fun x=>by simp) _ _ _
theorem Qsh (p0:Touch):Qjt p0 p0=true:=by
 unfold Qjt
 simp only[decide_true,Bool.not_true,cond_false,Qk1]
theorem Qsk (p0 p1:List Int): ∀ n i,Qfl p0 p1 n i=eqL (fun a b=>decide (a=b)) p0 p1 n i:=by
 intro n
 induction n with
 | zero=>intro i;rfl
 | succ n ih=>intro i;rw[Qfl,eqL,ih]
theorem Qy9 (p0:List Int):Qk2 p0 p0=true:=by
 unfold Qk2
 rw[decide_eq_true rfl,Qsk]
 exact Qki (fun x=>by simp) _ _ _
theorem Q17 (p0:Tx):Qmo p0 p0=true:=by
 unfold Qmo
 simp only[decide_true,Bool.not_true,cond_false,Qk4,Qsm,Qy9,Qsh]
theorem Qy6 (p0 p1:List Tx): ∀ n i,Qf3 p0 p1 n i=eqL (Qmo) p0 p1 n i:=by
 intro n
 induction n with
 | zero=>intro i;rfl
 | succ n ih=>intro i;rw[Qf3,eqL,ih]
theorem Q0m (p0:List Tx):Qmn p0 p0=true:=by
 unfold Qmn
 rw[decide_eq_true rfl,Qy6]
 exact Qki (Q17) _ _ _
theorem Qy8 (p0:Slot):Qjf p0 p0=true:=by
 unfold Qjf
 simp only[decide_true,Bool.not_true,cond_false,Qmp]
theorem Qrc (p0 p1:List Slot): ∀ n i,Qe4 p0 p1 n i=eqL (Qjf) p0 p1 n i:=by
 intro n
 induction n with
 | zero=>intro i;rfl
 | succ n ih=>intro i;rw[Qe4,eqL,ih]
theorem Qsj (p0:List Slot):Qjv p0 p0=true:=by
 unfold Qjv
 rw[decide_eq_true rfl,Qrc]
 exact Qki (Qy8) _ _ _
theorem Qqc (p0:Journal):Qh4 p0 p0=true:=by
 unfold Qh4
 simp only[decide_true,Bool.not_true,cond_false]
theorem Qza (p0:Disk):Qk3 p0 p0=true:=by
 unfold Qk3
 simp only[decide_true,Bool.not_true,cond_false,Qqc,Qsj]
theorem Qy7 (p0:Step):Qje p0 p0=true:=by
 unfold Qje
 simp only[decide_true,Bool.not_true,cond_false,Qng]
theorem Qrb (p0 p1:List Step): ∀ n i,Qe3 p0 p1 n i=eqL (Qje) p0 p1 n i:=by
 intro n
 induction n with
 | zero=>intro i;rfl
 | succ n ih=>intro i;rw[Qe3,eqL,ih]
theorem Qsi (p0:List Step):Qju p0 p0=true:=by
 unfold Qju
 rw[decide_eq_true rfl,Qrb]
 exact Qki (Qy7) _ _ _
theorem Qsl (p0:Entry):Qih p0 p0=true:=by
 unfold Qih
 simp only[decide_true,Bool.not_true,cond_false,Qk4,Qsi]
theorem Qqd (p0 p1:List Entry): ∀ n i,Qed p0 p1 n i=eqL (Qih) p0 p1 n i:=by
 intro n
 induction n with
 | zero=>intro i;rfl
 | succ n ih=>intro i;rw[Qed,eqL,ih]
theorem Qre (p0:List Entry):Qix p0 p0=true:=by
 unfold Qix
 rw[decide_eq_true rfl,Qqd]
 exact Qki (Qsl) _ _ _
theorem Qrd (p0:Kernel):Qiw p0 p0=true:=by
 unfold Qiw
 simp only[decide_true,Bool.not_true,cond_false,Qmp,Qza,Qre,Qk1,Q0m]
end
section
theorem fok9:FnOk Tryz.prog 9:=⟨_,Tryz.func9,rfl,by kernel_rfl⟩
theorem Yp5:FnOk Tryz.prog 11:=⟨_,Tryz.func11,rfl,by kernel_rfl⟩
theorem Yvw:FnOk Tryz.prog 13:=⟨_,Tryz.func13,rfl,by kernel_rfl⟩
theorem Yvu:FnOk Tryz.prog 27:=⟨_,Tryz.func27,rfl,by kernel_rfl⟩
theorem Yvt:FnOk Tryz.prog 28:=⟨_,Tryz.func28,rfl,by kernel_rfl⟩
def Qfv (p0:Kernel) (p1:Int):Bool:=bif decide ((Qgk p0 1048576)<0) then true else(bif !decide ((Qiy (Qdq p0) p1)=(Qit (Qdq p0) p1)) then false else(bif !(Qiw (Qdq p0) (Qdq p0)) then false else true))
theorem Qnu (p0:Kernel) (p1:Int):CTs 7 [.o (.st Kernel _ inferInstance p0),.o (.c (.int .i64 p1))] [Re.c (.bool (Qfv p0 p1))]:=by
 refine en Tryz.func7 Tryz.ntmps7 fun w hG hgd=>?_
 obtain⟨hg_p0,_⟩:=hgd
 have hM:=Qfv.eq_1 p0 p1
 refine ad 13 ?_
 refine op (cl (Q1b p0 1048576) fok9) ?_
 refine ad 8 ?_
 refine cd (fun h1=>?_) (fun h1=>?_)
 ·
  have hM:=hM.trans (bt h1)
  refine ad 4 ?_
  exact rz (rs:=[.tmp 4]) (congrArg (fun x=>[Re.c (.bool x)]) hM)
 ·
  have hM:=hM.trans (bf h1)
  have hsm:=(Qp8 p0 1048576 (by decide) (by decide) hg_p0 (of_decide_eq_false h1)).1
  have hsm2:Dat.small 1048576 (Qdq p0):=by rw[Qnf];exact hsm
  refine ad 4 ?_
  refine og (clg (Qle p0 (by first | assumption | exact Qcs hs (by omega))) Yp5) fun hgq=>?_
  obtain⟨hg2,_⟩:=hgq
  refine ad 1 ?_
  refine op (cl (Q05 (Qdq p0) p1 (by first | assumption | exact hsm2)) Yvu) ?_
  refine ad 5 ?_
  refine og (clg (Qle p0 (by first | assumption | exact Qcs hs (by omega))) Yp5) fun hgq=>?_
  obtain⟨hg3,_⟩:=hgq
  refine ad 7 ?_
  refine op (cl (Q1j (Qdq p0) p1 (by first | assumption | exact hsm2)) Yvt) ?_
  refine ad 9 ?_
  refine cd (fun h4=>?_) (fun h4=>?_)
  ·
   have hM:=hM.trans (bt h4)
   refine ad 4 ?_
   exact rz (rs:=[.tmp 4]) (congrArg (fun x=>[Re.c (.bool x)]) hM)
  ·
   have hM:=hM.trans (bf h4)
   refine ad 3 ?_
   refine dr 5 fun _ _ _ _ _ hb=>?_
   refine tk [0,1] ?_
   refine ong 2 [5,6,7,8,9,10,11,12,13,14,15,16,17,18,19,20,21] (clg (Qle p0 (by first | assumption | exact Qcs hs (by omega))) Yp5) fun hgq=>?_
   obtain⟨hg5,_⟩:=hgq
   refine on 3 [5,6,7,8,9,10,11,12,13,14,15,16,17,18,19,20,21] (cl (Q1e (Qdq p0) (Qdq p0)) Yvw) ?_
   refine tk [4] ?_
   refine dn hb ?_
   refine cd (fun h6=>?_) (fun h6=>?_)
   ·
    have hM:=hM.trans (bt h6)
    refine ad 4 ?_
    exact rz (rs:=[.tmp 4]) (congrArg (fun x=>[Re.c (.bool x)]) hM)
   ·
    have hM:=hM.trans (bf h6)
    refine ad 5 ?_
    exact rz (rs:=[.tmp 4]) (congrArg (fun x=>[Re.c (.bool x)]) hM)
end
section
theorem Yan {P:Program} {W:World} {H:Type} {enc:TypeId×Value→H} {sp:Nat→Bool} {b:Bool} {fuel t g:Nat} {x:List MemPlace} {cs:Array Value} {nm nm2:String} {d:DataW H} {ms:Array (String×TypeId)}
  (hg:P.globalNamed nm=some g) (hu:P.underlying t=some (.interface ms)) (hv:W.var? P nm=some cs) (hd:DataW.trod enc P W 0 sp b fuel t cs.toList=some (.iface nm2 d,x)):GE g W:=by
 have key: ∃ u v,cs.toList=[.iface u v]:=by
  cases fuel with
  | zero=>simp[DataW.trod] at hd
  | succ n =>
   generalize cs.toList=l at hd ⊢
   rcases l with _ | ⟨c,_ | ⟨c2,r⟩⟩
   ·simp[DataW.trod,hu] at hd
   ·cases c<;>first | exact⟨_,_,rfl⟩ | simp[DataW.trod,hu] at hd
   ·simp[DataW.trod,hu] at hd
 obtain⟨u,v,e⟩:=key
 obtain⟨T,fr,h⟩:=Yn0 hg hv e
 refine⟨u,v,?_⟩
 simp[World.cell?,h]
end
end Go.Proofs.YtppialklomgajaaGreatDoor.Fw
