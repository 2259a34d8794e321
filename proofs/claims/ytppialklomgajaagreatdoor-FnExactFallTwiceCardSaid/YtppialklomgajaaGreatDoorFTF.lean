/-
  The texts HT, HQ, YL, YT, GEi of this proof, one behind the other: what each proves stands at its head. No condition.
-/
import Derived.Test.YtppialklomgajaaGreatDoorFTA
import Derived.Test.YtppialklomgajaaGreatDoorFTB
import Derived.Test.YtppialklomgajaaGreatDoorFTC
import Derived.Test.YtppialklomgajaaGreatDoorFTD
import Derived.Test.YtppialklomgajaaGreatDoorFTE
set_option linter.unusedVariables false
set_option linter.unusedSimpArgs false
set_option maxRecDepth 100000
namespace Go.Proofs.YtppialklomgajaaGreatDoor.Fw
open Go.RowKit
open List (length_replicate)
section
set_option maxHeartbeats 2000000
theorem Yhb:FnOk Tryz.prog 18:=⟨_,Tryz.func18,rfl,by kernel_rfl⟩
theorem Ynw:FnOk Tryz.prog 24:=⟨_,Tryz.func24,rfl,by kernel_rfl⟩
theorem Yih:FnOk Tryz.prog 38:=⟨_,Tryz.func38,rfl,by kernel_rfl⟩
theorem Ynp:FnOk Tryz.prog 39:=⟨_,Tryz.func39,rfl,by kernel_rfl⟩
theorem Yno:FnOk Tryz.prog 40:=⟨_,Tryz.func40,rfl,by kernel_rfl⟩
theorem Ynn:FnOk Tryz.prog 41:=⟨_,Tryz.func41,rfl,by kernel_rfl⟩
theorem Yg9:FnOk Tryz.prog 42:=⟨_,Tryz.func42,rfl,by kernel_rfl⟩
theorem Yif:FnOk Tryz.prog 45:=⟨_,Tryz.func45,rfl,by kernel_rfl⟩
theorem Ynl:FnOk Tryz.prog 46:=⟨_,Tryz.func46,rfl,by kernel_rfl⟩
theorem Ynk:FnOk Tryz.prog 47:=⟨_,Tryz.func47,rfl,by kernel_rfl⟩
theorem Yne:FnOk Tryz.prog 63:=⟨_,Tryz.func63,rfl,by kernel_rfl⟩
theorem Ym5:FnOk Tryz.prog 83:=⟨_,Tryz.func83,rfl,by kernel_rfl⟩
theorem Ym4:FnOk Tryz.prog 84:=⟨_,Tryz.func84,rfl,by kernel_rfl⟩
theorem Ym3:FnOk Tryz.prog 85:=⟨_,Tryz.func85,rfl,by kernel_rfl⟩
theorem Ym2:FnOk Tryz.prog 86:=⟨_,Tryz.func86,rfl,by kernel_rfl⟩
theorem Ym1:FnOk Tryz.prog 87:=⟨_,Tryz.func87,rfl,by kernel_rfl⟩
theorem Ymy:FnOk Tryz.prog 94:=⟨_,Tryz.func94,rfl,by kernel_rfl⟩
theorem Ymx:FnOk Tryz.prog 95:=⟨_,Tryz.func95,rfl,by kernel_rfl⟩
theorem Ymw:FnOk Tryz.prog 96:=⟨_,Tryz.func96,rfl,by kernel_rfl⟩
theorem Ymv:FnOk Tryz.prog 97:=⟨_,Tryz.func97,rfl,by kernel_rfl⟩
theorem Yk4:FnOk Tryz.prog 122:=⟨_,Tryz.func122,rfl,by kernel_rfl⟩
theorem Yfz:FnOk Tryz.prog 123:=⟨_,Tryz.func123,rfl,by kernel_rfl⟩
theorem Yki:FnOk Tryz.prog 152:=⟨_,Tryz.func152,rfl,by kernel_rfl⟩
theorem Yfv:FnOk Tryz.prog 153:=⟨_,Tryz.func153,rfl,by kernel_rfl⟩
theorem Ykh:FnOk Tryz.prog 154:=⟨_,Tryz.func154,rfl,by kernel_rfl⟩
theorem Ykg:FnOk Tryz.prog 155:=⟨_,Tryz.func155,rfl,by kernel_rfl⟩
theorem Ykf:FnOk Tryz.prog 156:=⟨_,Tryz.func156,rfl,by kernel_rfl⟩
theorem Yke:FnOk Tryz.prog 157:=⟨_,Tryz.func157,rfl,by kernel_rfl⟩
theorem Yj8:FnOk Tryz.prog 169:=⟨_,Tryz.func169,rfl,by kernel_rfl⟩
theorem Yj7:FnOk Tryz.prog 170:=⟨_,Tryz.func170,rfl,by kernel_rfl⟩
theorem Yj6:FnOk Tryz.prog 171:=⟨_,Tryz.func171,rfl,by kernel_rfl⟩
theorem Yj5:FnOk Tryz.prog 172:=⟨_,Tryz.func172,rfl,by kernel_rfl⟩
theorem Yj2:FnOk Tryz.prog 183:=⟨_,Tryz.func183,rfl,by kernel_rfl⟩
theorem Yj1:FnOk Tryz.prog 184:=⟨_,Tryz.func184,rfl,by kernel_rfl⟩
theorem Yfi:FnOk Tryz.prog 212:=⟨_,Tryz.func212,rfl,by kernel_rfl⟩
theorem Yjh:FnOk Tryz.prog 213:=⟨_,Tryz.func213,rfl,by kernel_rfl⟩
theorem Yjg:FnOk Tryz.prog 214:=⟨_,Tryz.func214,rfl,by kernel_rfl⟩
theorem Yfh:FnOk Tryz.prog 223:=⟨_,Tryz.func223,rfl,by kernel_rfl⟩
def Qig (p0:Cell):Cell:=p0
theorem Q3r (p0:Cell):CTs 83 [.o (.st Cell _ inferInstance p0)] [Re.st Cell _ inferInstance (Qig p0)]:=by
 refine en Tryz.func83 Tryz.ntmps83 fun w hG hgd=>?_
 obtain⟨hg_p0,_⟩:=hgd
 have hM:=Qig.eq_1 p0
 refine ad 28 ?_
 exact rz (rs:=[.cell 2 114]) (congrArg (fun x=>[Re.st Cell _ inferInstance x]) hM)
def Qfh (p0:List Cell):Nat→(List Cell)→Nat→(List Cell)
 | 0,w1,i=>w1
 | n+1,w1,i=>Qfh p0 n (w1.set i (Qig (nth p0 i))) (i+1)
def Qhq (p0:List Cell):(List Cell):=Qfh p0 (p0.length - 0) (List.replicate p0.length (Cell.mk ⟨#[]⟩ ⟨#[]⟩)) 0
theorem Qq9 (p0:List Cell) (hs:Dat.small 1048576 p0):CTs 38 [.o (.sl Cell instDatCell p0)] [Re.sl Cell instDatCell (Qhq p0)]:=by
 refine en Tryz.func38 Tryz.ntmps38 fun w hG hgd=>?_
 obtain⟨hg_p0,_⟩:=hgd
 have hl_p0:p0.length≤9223372036854775807:=hg_p0.1
 have hM:=Qhq.eq_1 p0
 have hs0:p0.length≤1048576:=hs.1
 refine ad 8 ?_
 refine op (ma p0.length (Cell.mk ⟨#[]⟩ ⟨#[]⟩)) ?_
 refine ad 8 ?_
 refine Run.loopM (ι:=(List Cell)×Nat) (fun s=>Qfh p0 (p0.length - s.2) s.1 s.2) (fun s=>⟨23,2,[(0,.sl 0 p0.length),(3,.sl 1 s.1.length),(4,.v (.int .i64 (s.2:Int)))],[(0,.ros Cell instDatCell p0),(1,.own Cell instDatCell s.1)]⟩) (fun s=>s.2≤p0.length∧s.1.length=p0.length) (fun s=>p0.length - s.2) ((List.replicate p0.length (Cell.mk ⟨#[]⟩ ⟨#[]⟩)),0) [0,1] [1,0] hM lv0 su (by decide) ?_
 rintro ⟨w1,i⟩ hv hE
 try dsimp only at hE
 obtain⟨hi,hv0⟩:=hv
 try dsimp only at hi hv0
 refine ad 8 ?_
 refine cd (fun h1=>?_) (fun h1=>?_)
 ·
  have h1l:i<p0.length:=dtl h1
  have hM:=hE.trans ((congrArg (fun n=>Qfh p0 n w1 i) (sb1 h1l)).trans (Qfh.eq_2 _ _ _ _))
  refine ad 8 ?_
  have hg3:=Qai (k:=i) hg_p0 om
  refine op (ix (xs:=p0) i om) ?_
  refine ad 1 ?_
  have hg4:Dat.good (nth p0 i:Cell):=hg3
  refine og (clg (Q3r (nth p0 i)) Ym5) fun hgq=>?_
  obtain⟨hg5,_⟩:=hgq
  refine op (oi (xs:=w1) i om) ?_
  refine op (se (xs:=w1) i (Qig (nth p0 i)) hg5 om) ?_
  refine ad 5 ?_
  rw[Qb3 (i:=i) om]
  refine ad 2 ?_
  exact Run.again ((w1.set i (Qig (nth p0 i))),(i+1)) [0,3] [2,0] ⟨by first | omega | exact trivial | (dsimp only;omega) | (refine⟨by omega,?_⟩;simp_all;try omega),hM⟩ rfl lv1 su (by decide)
 ·
  have h1l: ¬ (i<p0.length):=dfl h1
  have hM:=hE.trans ((congrArg (fun n=>Qfh p0 n w1 i) (sb0 h1l)).trans (Qfh.eq_1 _ _ _))
  refine ad 6 ?_
  exact rz (rs:=[.tmp 2]) (congrArg (fun x=>[Re.sl Cell instDatCell x]) hM)
def Qhf (p0:Call):Call:=p0
theorem Qtn (p0:Call):CTs 212 [.o (.st Call _ inferInstance p0)] [Re.st Call _ inferInstance (Qhf p0)]:=by
 refine en Tryz.func212 Tryz.ntmps212 fun w hG hgd=>?_
 obtain⟨hg_p0,_⟩:=hgd
 have hM:=Qhf.eq_1 p0
 refine ad 56 ?_
 exact rz (rs:=[.cell 2 149]) (congrArg (fun x=>[Re.st Call _ inferInstance x]) hM)
def Qfi (p0:List Call):Nat→(List Call)→Nat→(List Call)
 | 0,w1,i=>w1
 | n+1,w1,i=>Qfi p0 n (w1.set i (Qhf (nth p0 i))) (i+1)
def Qjm (p0:List Call):(List Call):=Qfi p0 (p0.length - 0) (List.replicate p0.length (Call.mk 0 ⟨#[]⟩ ⟨#[]⟩ 0 0 ⟨#[]⟩)) 0
theorem Q0k (p0:List Call) (hs:Dat.small 1048576 p0):CTs 152 [.o (.sl Call instDatCall p0)] [Re.sl Call instDatCall (Qjm p0)]:=by
 refine en Tryz.func152 Tryz.ntmps152 fun w hG hgd=>?_
 obtain⟨hg_p0,_⟩:=hgd
 have hl_p0:p0.length≤9223372036854775807:=hg_p0.1
 have hM:=Qjm.eq_1 p0
 have hs0:p0.length≤1048576:=hs.1
 refine ad 8 ?_
 refine op (ma p0.length (Call.mk 0 ⟨#[]⟩ ⟨#[]⟩ 0 0 ⟨#[]⟩) (ho:=gdz)) ?_
 refine ad 8 ?_
 refine Run.loopM (ι:=(List Call)×Nat) (fun s=>Qfi p0 (p0.length - s.2) s.1 s.2) (fun s=>⟨23,2,[(0,.sl 0 p0.length),(3,.sl 1 s.1.length),(4,.v (.int .i64 (s.2:Int)))],[(0,.ros Call instDatCall p0),(1,.own Call instDatCall s.1)]⟩) (fun s=>s.2≤p0.length∧s.1.length=p0.length) (fun s=>p0.length - s.2) ((List.replicate p0.length (Call.mk 0 ⟨#[]⟩ ⟨#[]⟩ 0 0 ⟨#[]⟩)),0) [0,1] [1,0] hM lv0 su (by decide) ?_
 rintro ⟨w1,i⟩ hv hE
 try dsimp only at hE
 obtain⟨hi,hv0⟩:=hv
 try dsimp only at hi hv0
 refine ad 8 ?_
 refine cd (fun h1=>?_) (fun h1=>?_)
 ·
  have h1l:i<p0.length:=dtl h1
  have hM:=hE.trans ((congrArg (fun n=>Qfi p0 n w1 i) (sb1 h1l)).trans (Qfi.eq_2 _ _ _ _))
  refine ad 8 ?_
  have hg3:=Qai (k:=i) hg_p0 om
  refine op (ix (xs:=p0) i om) ?_
  refine ad 1 ?_
  have hg4:Dat.good (nth p0 i:Call):=hg3
  refine og (clg (Qtn (nth p0 i)) Yfi) fun hgq=>?_
  obtain⟨hg5,_⟩:=hgq
  refine op (oi (xs:=w1) i om) ?_
  refine op (se (xs:=w1) i (Qhf (nth p0 i)) hg5 om) ?_
  refine ad 5 ?_
  rw[Qb3 (i:=i) om]
  refine ad 2 ?_
  exact Run.again ((w1.set i (Qhf (nth p0 i))),(i+1)) [0,3] [2,0] ⟨by first | omega | exact trivial | (dsimp only;omega) | (refine⟨by omega,?_⟩;simp_all;try omega),hM⟩ rfl lv1 su (by decide)
 ·
  have h1l: ¬ (i<p0.length):=dfl h1
  have hM:=hE.trans ((congrArg (fun n=>Qfi p0 n w1 i) (sb0 h1l)).trans (Qfi.eq_1 _ _ _))
  refine ad 6 ?_
  exact rz (rs:=[.tmp 2]) (congrArg (fun x=>[Re.sl Call instDatCall x]) hM)
def Qg8 (p0:Answer):Answer:=p0
theorem Qy5 (p0:Answer):CTs 213 [.o (.st Answer _ inferInstance p0)] [Re.st Answer _ inferInstance (Qg8 p0)]:=by
 refine en Tryz.func213 Tryz.ntmps213 fun w hG hgd=>?_
 obtain⟨hg_p0,_⟩:=hgd
 have hM:=Qg8.eq_1 p0
 refine ad 35 ?_
 exact rz (rs:=[.cell 2 154]) (congrArg (fun x=>[Re.st Answer _ inferInstance x]) hM)
def Qd7 (p0:List Answer):Nat→(List Answer)→Nat→(List Answer)
 | 0,w1,i=>w1
 | n+1,w1,i=>Qd7 p0 n (w1.set i (Qg8 (nth p0 i))) (i+1)
def Qgp (p0:List Answer):(List Answer):=Qd7 p0 (p0.length - 0) (List.replicate p0.length (Answer.mk 0 0 ⟨#[]⟩)) 0
theorem Qo6 (p0:List Answer) (hs:Dat.small 1048576 p0):CTs 153 [.o (.sl Answer instDatAnswer p0)] [Re.sl Answer instDatAnswer (Qgp p0)]:=by
 refine en Tryz.func153 Tryz.ntmps153 fun w hG hgd=>?_
 obtain⟨hg_p0,_⟩:=hgd
 have hl_p0:p0.length≤9223372036854775807:=hg_p0.1
 have hM:=Qgp.eq_1 p0
 have hs0:p0.length≤1048576:=hs.1
 refine ad 8 ?_
 refine op (ma p0.length (Answer.mk 0 0 ⟨#[]⟩) (ho:=gdz)) ?_
 refine ad 8 ?_
 refine Run.loopM (ι:=(List Answer)×Nat) (fun s=>Qd7 p0 (p0.length - s.2) s.1 s.2) (fun s=>⟨23,2,[(0,.sl 0 p0.length),(3,.sl 1 s.1.length),(4,.v (.int .i64 (s.2:Int)))],[(0,.ros Answer instDatAnswer p0),(1,.own Answer instDatAnswer s.1)]⟩) (fun s=>s.2≤p0.length∧s.1.length=p0.length) (fun s=>p0.length - s.2) ((List.replicate p0.length (Answer.mk 0 0 ⟨#[]⟩)),0) [0,1] [1,0] hM lv0 su (by decide) ?_
 rintro ⟨w1,i⟩ hv hE
 try dsimp only at hE
 obtain⟨hi,hv0⟩:=hv
 try dsimp only at hi hv0
 refine ad 8 ?_
 refine cd (fun h1=>?_) (fun h1=>?_)
 ·
  have h1l:i<p0.length:=dtl h1
  have hM:=hE.trans ((congrArg (fun n=>Qd7 p0 n w1 i) (sb1 h1l)).trans (Qd7.eq_2 _ _ _ _))
  refine ad 8 ?_
  have hg3:=Qai (k:=i) hg_p0 om
  refine op (ix (xs:=p0) i om) ?_
  refine ad 1 ?_
  have hg4:Dat.good (nth p0 i:Answer):=hg3
  refine og (clg (Qy5 (nth p0 i)) Yjh) fun hgq=>?_
  obtain⟨hg5,_⟩:=hgq
  refine op (oi (xs:=w1) i om) ?_
  refine op (se (xs:=w1) i (Qg8 (nth p0 i)) hg5 om) ?_
  refine ad 5 ?_
  rw[Qb3 (i:=i) om]
  refine ad 2 ?_
  exact Run.again ((w1.set i (Qg8 (nth p0 i))),(i+1)) [0,3] [2,0] ⟨by first | omega | exact trivial | (dsimp only;omega) | (refine⟨by omega,?_⟩;simp_all;try omega),hM⟩ rfl lv1 su (by decide)
 ·
  have h1l: ¬ (i<p0.length):=dfl h1
  have hM:=hE.trans ((congrArg (fun n=>Qd7 p0 n w1 i) (sb0 h1l)).trans (Qd7.eq_1 _ _ _))
  refine ad 6 ?_
  exact rz (rs:=[.tmp 2]) (congrArg (fun x=>[Re.sl Answer instDatAnswer x]) hM)
def Qd5 (p0:List ByteArray):Nat→(List ByteArray)→Nat→(List ByteArray)
 | 0,w1,i=>w1
 | n+1,w1,i=>Qd5 p0 n (w1.set i (nth p0 i)) (i+1)
def Qe8 (p0:List ByteArray):(List ByteArray):=Qd5 p0 (p0.length - 0) (List.replicate p0.length (⟨#[]⟩:ByteArray)) 0
theorem Qlk (p0:List ByteArray) (hs:Dat.small 1048576 p0):CTs 42 [.o (.sl ByteArray instDatByteArray p0)] [Re.sl ByteArray instDatByteArray (Qe8 p0)]:=by
 refine en Tryz.func42 Tryz.ntmps42 fun w hG hgd=>?_
 obtain⟨hg_p0,_⟩:=hgd
 have hl_p0:p0.length≤9223372036854775807:=hg_p0.1
 have hM:=Qe8.eq_1 p0
 have hs0:p0.length≤1048576:=hs.1
 refine ad 8 ?_
 refine op (ma p0.length (⟨#[]⟩:ByteArray)) ?_
 refine ad 8 ?_
 refine Run.loopM (ι:=(List ByteArray)×Nat) (fun s=>Qd5 p0 (p0.length - s.2) s.1 s.2) (fun s=>⟨22,2,[(0,.sl 0 p0.length),(3,.sl 1 s.1.length),(4,.v (.int .i64 (s.2:Int)))],[(0,.ros ByteArray instDatByteArray p0),(1,.own ByteArray instDatByteArray s.1)]⟩) (fun s=>s.2≤p0.length∧s.1.length=p0.length) (fun s=>p0.length - s.2) ((List.replicate p0.length (⟨#[]⟩:ByteArray)),0) [0,1] [1,0] hM lv0 su (by decide) ?_
 rintro ⟨w1,i⟩ hv hE
 try dsimp only at hE
 obtain⟨hi,hv0⟩:=hv
 try dsimp only at hi hv0
 refine ad 8 ?_
 refine cd (fun h1=>?_) (fun h1=>?_)
 ·
  have h1l:i<p0.length:=dtl h1
  have hM:=hE.trans ((congrArg (fun n=>Qd5 p0 n w1 i) (sb1 h1l)).trans (Qd5.eq_2 _ _ _ _))
  refine ad 8 ?_
  have hg3:=Qai (k:=i) hg_p0 om
  refine op (ix (xs:=p0) i om) ?_
  refine ad 1 ?_
  refine op (oi (xs:=w1) i om) ?_
  refine op (se (xs:=w1) i (nth p0 i) hg3 om) ?_
  refine ad 5 ?_
  rw[Qb3 (i:=i) om]
  refine ad 2 ?_
  exact Run.again ((w1.set i (nth p0 i)),(i+1)) [0,3] [2,0] ⟨by first | omega | exact trivial | (dsimp only;omega) | (refine⟨by omega,?_⟩;simp_all;try omega),hM⟩ rfl lv1 su (by decide)
 ·
  have h1l: ¬ (i<p0.length):=dfl h1
  have hM:=hE.trans ((congrArg (fun n=>Qd5 p0 n w1 i) (sb0 h1l)).trans (Qd5.eq_1 _ _ _))
  refine ad 6 ?_
  exact rz (rs:=[.tmp 2]) (congrArg (fun x=>[Re.sl ByteArray instDatByteArray x]) hM)
def Qjj (p0:Touch):Touch:=(Touch.mk (Qe8 p0.Reads) (Qe8 p0.Writes))
theorem Q0g (p0:Touch) (hs:Dat.small 1048576 p0):CTs 154 [.o (.st Touch _ inferInstance p0)] [Re.st Touch _ inferInstance (Qjj p0)]:=by
 refine en Tryz.func154 Tryz.ntmps154 fun w hG hgd=>?_
 obtain⟨hg_p0,_⟩:=hgd
 have hM:=Qjj.eq_1 p0
 have hs0:Dat.small 1048576 p0.Reads:=hs.1
 have hs1:Dat.small 1048576 p0.Writes:=hs.2
 refine ad 13 ?_
 refine og (clg (Qlk p0.Reads (by first | assumption | exact Qcv hs (by omega))) Yg9) fun hgq=>?_
 obtain⟨hg1,_⟩:=hgq
 refine ad 7 ?_
 refine og (clg (Qlk p0.Writes (by first | assumption | exact Qcv hs (by omega))) Yg9) fun hgq=>?_
 obtain⟨hg2,_⟩:=hgq
 refine ad 8 ?_
 have hg3:Dat.good (Touch.mk (Qe8 p0.Reads) (Qe8 p0.Writes):Touch):=⟨hg1,hg2⟩
 exact rz (rs:=[.cell 2 117]) (congrArg (fun x=>[Re.st Touch _ inferInstance x]) hM)
def Qf3 (p0:List Int):Nat→(List Int)→Nat→(List Int)
 | 0,w1,i=>w1
 | n+1,w1,i=>Qf3 p0 n (w1.set i (nth p0 i)) (i+1)
def Qkl (p0:List Int):(List Int):=Qf3 p0 (p0.length - 0) (List.replicate p0.length (0:Int)) 0
theorem Q3p (p0:List Int) (hs:Dat.small 1048576 p0):CTs 155 [.o (.sl Int instDatInt p0)] [Re.sl Int instDatInt (Qkl p0)]:=by
 refine en Tryz.func155 Tryz.ntmps155 fun w hG hgd=>?_
 obtain⟨hg_p0,_⟩:=hgd
 have hl_p0:p0.length≤9223372036854775807:=hg_p0.1
 have hM:=Qkl.eq_1 p0
 have hs0:p0.length≤1048576:=hs.1
 refine ad 8 ?_
 refine op (ma p0.length (0:Int)) ?_
 refine ad 8 ?_
 refine Run.loopM (ι:=(List Int)×Nat) (fun s=>Qf3 p0 (p0.length - s.2) s.1 s.2) (fun s=>⟨22,2,[(0,.sl 0 p0.length),(3,.sl 1 s.1.length),(4,.v (.int .i64 (s.2:Int)))],[(0,.ros Int instDatInt p0),(1,.own Int instDatInt s.1)]⟩) (fun s=>s.2≤p0.length∧s.1.length=p0.length) (fun s=>p0.length - s.2) ((List.replicate p0.length (0:Int)),0) [0,1] [1,0] hM lv0 su (by decide) ?_
 rintro ⟨w1,i⟩ hv hE
 try dsimp only at hE
 obtain⟨hi,hv0⟩:=hv
 try dsimp only at hi hv0
 refine ad 8 ?_
 refine cd (fun h1=>?_) (fun h1=>?_)
 ·
  have h1l:i<p0.length:=dtl h1
  have hM:=hE.trans ((congrArg (fun n=>Qf3 p0 n w1 i) (sb1 h1l)).trans (Qf3.eq_2 _ _ _ _))
  refine ad 8 ?_
  have hg3:=Qai (k:=i) hg_p0 om
  refine op (ix (xs:=p0) i om) ?_
  refine ad 1 ?_
  refine op (oi (xs:=w1) i om) ?_
  refine op (se (xs:=w1) i (nth p0 i) hg3 om) ?_
  refine ad 5 ?_
  rw[Qb3 (i:=i) om]
  refine ad 2 ?_
  exact Run.again ((w1.set i (nth p0 i)),(i+1)) [0,3] [2,0] ⟨by first | omega | exact trivial | (dsimp only;omega) | (refine⟨by omega,?_⟩;simp_all;try omega),hM⟩ rfl lv1 su (by decide)
 ·
  have h1l: ¬ (i<p0.length):=dfl h1
  have hM:=hE.trans ((congrArg (fun n=>Qf3 p0 n w1 i) (sb0 h1l)).trans (Qf3.eq_1 _ _ _))
  refine ad 6 ?_
  exact rz (rs:=[.tmp 2]) (congrArg (fun x=>[Re.sl Int instDatInt x]) hM)
def Qk4 (p0:Tx):Tx:=(Tx.mk p0.Id p0.Age p0.Proc p0.Began (Qjm p0.Calls) (Qgp p0.Answers) (Qjj p0.Touch) (Qkl p0.Marks) p0.State)
theorem Q7k (p0:Tx) (hs:Dat.small 1048576 p0):CTs 84 [.o (.st Tx _ inferInstance p0)] [Re.st Tx _ inferInstance (Qk4 p0)]:=by
 refine en Tryz.func84 Tryz.ntmps84 fun w hG hgd=>?_
 obtain⟨hg_p0,_⟩:=hgd
 have hM:=Qk4.eq_1 p0
 have hs4:Dat.small 1048576 p0.Calls:=hs.2.2.2.2.1
 have hs5:Dat.small 1048576 p0.Answers:=hs.2.2.2.2.2.1
 have hs6:Dat.small 1048576 p0.Touch:=hs.2.2.2.2.2.2.1
 have hs7:Dat.small 1048576 p0.Marks:=hs.2.2.2.2.2.2.2.1
 refine ad 41 ?_
 refine og (clg (Q0k p0.Calls (by first | assumption | exact Qcv hs (by omega))) Yki) fun hgq=>?_
 obtain⟨hg1,_⟩:=hgq
 refine ad 7 ?_
 refine og (clg (Qo6 p0.Answers (by first | assumption | exact Qcv hs (by omega))) Yfv) fun hgq=>?_
 obtain⟨hg2,_⟩:=hgq
 refine ad 7 ?_
 have hg3:Dat.good (p0.Touch:Touch):=hg_p0.2.2.2.2.2.2.1
 refine og (clg (Q0g p0.Touch (by first | assumption | exact Qcv hs (by omega))) Ykh) fun hgq=>?_
 obtain⟨hg4,_⟩:=hgq
 refine ad 7 ?_
 refine og (clg (Q3p p0.Marks (by first | assumption | exact Qcv hs (by omega))) Ykg) fun hgq=>?_
 obtain⟨hg5,_⟩:=hgq
 refine ad 15 ?_
 have hg6:Dat.good (Tx.mk p0.Id p0.Age p0.Proc p0.Began (Qjm p0.Calls) (Qgp p0.Answers) (Qjj p0.Touch) (Qkl p0.Marks) p0.State:Tx):=⟨hg_p0.1,hg_p0.2.1,hg_p0.2.2.1,hg_p0.2.2.2.1,hg1,hg2,hg4,hg5,hg_p0.2.2.2.2.2.2.2.2⟩
 exact rz (rs:=[.cell 2 119]) (congrArg (fun x=>[Re.st Tx _ inferInstance x]) hM)
def Qgk (p0:List Tx):Nat→(List Tx)→Nat→(List Tx)
 | 0,w1,i=>w1
 | n+1,w1,i=>Qgk p0 n (w1.set i (Qk4 (nth p0 i))) (i+1)
def Ql1 (p0:List Tx):(List Tx):=Qgk p0 (p0.length - 0) (List.replicate p0.length (Tx.mk 0 0 0 0 [] [] (Touch.mk [] []) [] 0)) 0
theorem Q6c (p0:List Tx) (hs:Dat.small 1048576 p0):CTs 39 [.o (.sl Tx instDatTx p0)] [Re.sl Tx instDatTx (Ql1 p0)]:=by
 refine en Tryz.func39 Tryz.ntmps39 fun w hG hgd=>?_
 obtain⟨hg_p0,_⟩:=hgd
 have hl_p0:p0.length≤9223372036854775807:=hg_p0.1
 have hM:=Ql1.eq_1 p0
 have hs0:p0.length≤1048576:=hs.1
 refine ad 8 ?_
 refine op (ma p0.length (Tx.mk 0 0 0 0 [] [] (Touch.mk [] []) [] 0) (ho:=gdz)) ?_
 refine ad 8 ?_
 refine Run.loopM (ι:=(List Tx)×Nat) (fun s=>Qgk p0 (p0.length - s.2) s.1 s.2) (fun s=>⟨23,2,[(0,.sl 0 p0.length),(3,.sl 1 s.1.length),(4,.v (.int .i64 (s.2:Int)))],[(0,.ros Tx instDatTx p0),(1,.own Tx instDatTx s.1)]⟩) (fun s=>s.2≤p0.length∧s.1.length=p0.length) (fun s=>p0.length - s.2) ((List.replicate p0.length (Tx.mk 0 0 0 0 [] [] (Touch.mk [] []) [] 0)),0) [0,1] [1,0] hM lv0 su (by decide) ?_
 rintro ⟨w1,i⟩ hv hE
 try dsimp only at hE
 obtain⟨hi,hv0⟩:=hv
 try dsimp only at hi hv0
 refine ad 8 ?_
 refine cd (fun h1=>?_) (fun h1=>?_)
 ·
  have h1l:i<p0.length:=dtl h1
  have hM:=hE.trans ((congrArg (fun n=>Qgk p0 n w1 i) (sb1 h1l)).trans (Qgk.eq_2 _ _ _ _))
  refine ad 8 ?_
  have hg3:=Qai (k:=i) hg_p0 om
  refine op (ix (xs:=p0) i om) ?_
  refine ad 1 ?_
  have hg4:Dat.good (nth p0 i:Tx):=hg3
  refine og (clg (Q7k (nth p0 i) (by first | assumption | exact Qcv hs (by omega))) Ym4) fun hgq=>?_
  obtain⟨hg5,_⟩:=hgq
  refine op (oi (xs:=w1) i om) ?_
  refine op (se (xs:=w1) i (Qk4 (nth p0 i)) hg5 om) ?_
  refine ad 5 ?_
  rw[Qb3 (i:=i) om]
  refine ad 2 ?_
  exact Run.again ((w1.set i (Qk4 (nth p0 i))),(i+1)) [0,13] [7,0] ⟨by first | omega | exact trivial | (dsimp only;omega) | (refine⟨by omega,?_⟩;simp_all;try omega),hM⟩ rfl lv1 su (by decide)
 ·
  have h1l: ¬ (i<p0.length):=dfl h1
  have hM:=hE.trans ((congrArg (fun n=>Qgk p0 n w1 i) (sb0 h1l)).trans (Qgk.eq_1 _ _ _))
  refine ad 6 ?_
  exact rz (rs:=[.tmp 2]) (congrArg (fun x=>[Re.sl Tx instDatTx x]) hM)
def Qif (p0:Slot):Slot:=(Slot.mk p0.Seq (Qhq p0.Cells) p0.Whole)
theorem Q3o (p0:Slot) (hs:Dat.small 1048576 p0):CTs 156 [.o (.st Slot _ inferInstance p0)] [Re.st Slot _ inferInstance (Qif p0)]:=by
 refine en Tryz.func156 Tryz.ntmps156 fun w hG hgd=>?_
 obtain⟨hg_p0,_⟩:=hgd
 have hM:=Qif.eq_1 p0
 have hs1:Dat.small 1048576 p0.Cells:=hs.2.1
 refine ad 20 ?_
 refine og (clg (Qq9 p0.Cells (by first | assumption | exact Qcv hs (by omega))) Yih) fun hgq=>?_
 obtain⟨hg1,_⟩:=hgq
 refine ad 15 ?_
 have hg2:Dat.good (Slot.mk p0.Seq (Qhq p0.Cells) p0.Whole:Slot):=⟨hg_p0.1,hg1,hg_p0.2.2⟩
 exact rz (rs:=[.cell 2 108]) (congrArg (fun x=>[Re.st Slot _ inferInstance x]) hM)
def Qfg (p0:List Slot):Nat→(List Slot)→Nat→(List Slot)
 | 0,w1,i=>w1
 | n+1,w1,i=>Qfg p0 n (w1.set i (Qif (nth p0 i))) (i+1)
def Qjl (p0:List Slot):(List Slot):=Qfg p0 (p0.length - 0) (List.replicate p0.length (Slot.mk 0 [] false)) 0
theorem Q0i (p0:List Slot) (hs:Dat.small 1048576 p0):CTs 85 [.o (.sl Slot instDatSlot p0)] [Re.sl Slot instDatSlot (Qjl p0)]:=by
 refine en Tryz.func85 Tryz.ntmps85 fun w hG hgd=>?_
 obtain⟨hg_p0,_⟩:=hgd
 have hl_p0:p0.length≤9223372036854775807:=hg_p0.1
 have hM:=Qjl.eq_1 p0
 have hs0:p0.length≤1048576:=hs.1
 refine ad 8 ?_
 refine op (ma p0.length (Slot.mk 0 [] false) (ho:=gdz)) ?_
 refine ad 8 ?_
 refine Run.loopM (ι:=(List Slot)×Nat) (fun s=>Qfg p0 (p0.length - s.2) s.1 s.2) (fun s=>⟨23,2,[(0,.sl 0 p0.length),(3,.sl 1 s.1.length),(4,.v (.int .i64 (s.2:Int)))],[(0,.ros Slot instDatSlot p0),(1,.own Slot instDatSlot s.1)]⟩) (fun s=>s.2≤p0.length∧s.1.length=p0.length) (fun s=>p0.length - s.2) ((List.replicate p0.length (Slot.mk 0 [] false)),0) [0,1] [1,0] hM lv0 su (by decide) ?_
 rintro ⟨w1,i⟩ hv hE
 try dsimp only at hE
 obtain⟨hi,hv0⟩:=hv
 try dsimp only at hi hv0
 refine ad 8 ?_
 refine cd (fun h1=>?_) (fun h1=>?_)
 ·
  have h1l:i<p0.length:=dtl h1
  have hM:=hE.trans ((congrArg (fun n=>Qfg p0 n w1 i) (sb1 h1l)).trans (Qfg.eq_2 _ _ _ _))
  refine ad 8 ?_
  have hg3:=Qai (k:=i) hg_p0 om
  refine op (ix (xs:=p0) i om) ?_
  refine ad 1 ?_
  have hg4:Dat.good (nth p0 i:Slot):=hg3
  refine og (clg (Q3o (nth p0 i) (by first | assumption | exact Qcv hs (by omega))) Ykf) fun hgq=>?_
  obtain⟨hg5,_⟩:=hgq
  refine op (oi (xs:=w1) i om) ?_
  refine op (se (xs:=w1) i (Qif (nth p0 i)) hg5 om) ?_
  refine ad 5 ?_
  rw[Qb3 (i:=i) om]
  refine ad 2 ?_
  exact Run.again ((w1.set i (Qif (nth p0 i))),(i+1)) [0,5] [3,0] ⟨by first | omega | exact trivial | (dsimp only;omega) | (refine⟨by omega,?_⟩;simp_all;try omega),hM⟩ rfl lv1 su (by decide)
 ·
  have h1l: ¬ (i<p0.length):=dfl h1
  have hM:=hE.trans ((congrArg (fun n=>Qfg p0 n w1 i) (sb0 h1l)).trans (Qfg.eq_1 _ _ _))
  refine ad 6 ?_
  exact rz (rs:=[.tmp 2]) (congrArg (fun x=>[Re.sl Slot instDatSlot x]) hM)
def Qh4 (p0:Journal):Journal:=p0
theorem Qw6 (p0:Journal):CTs 86 [.o (.st Journal _ inferInstance p0)] [Re.st Journal _ inferInstance (Qh4 p0)]:=by
 refine en Tryz.func86 Tryz.ntmps86 fun w hG hgd=>?_
 obtain⟨hg_p0,_⟩:=hgd
 have hM:=Qh4.eq_1 p0
 refine ad 28 ?_
 exact rz (rs:=[.cell 2 38]) (congrArg (fun x=>[Re.st Journal _ inferInstance x]) hM)
def Qkm (p0:Disk):Disk:=(Disk.mk (Qjl p0.Slots) (Qh4 p0.Journal))
theorem Q3q (p0:Disk) (hs:Dat.small 1048576 p0):CTs 40 [.o (.st Disk _ inferInstance p0)] [Re.st Disk _ inferInstance (Qkm p0)]:=by
 refine en Tryz.func40 Tryz.ntmps40 fun w hG hgd=>?_
 obtain⟨hg_p0,_⟩:=hgd
 have hM:=Qkm.eq_1 p0
 have hs0:Dat.small 1048576 p0.Slots:=hs.1
 have hs1:Dat.small 1048576 p0.Journal:=hs.2
 refine ad 13 ?_
 refine og (clg (Q0i p0.Slots (by first | assumption | exact Qcv hs (by omega))) Ym3) fun hgq=>?_
 obtain⟨hg1,_⟩:=hgq
 refine ad 7 ?_
 have hg2:Dat.good (p0.Journal:Journal):=hg_p0.2
 refine og (clg (Qw6 p0.Journal) Ym2) fun hgq=>?_
 obtain⟨hg3,_⟩:=hgq
 refine ad 8 ?_
 have hg4:Dat.good (Disk.mk (Qjl p0.Slots) (Qh4 p0.Journal):Disk):=⟨hg1,hg3⟩
 exact rz (rs:=[.cell 2 40]) (congrArg (fun x=>[Re.st Disk _ inferInstance x]) hM)
def Qie (p0:Step):Step:=(Step.mk p0.Proc (Qhf p0.Call))
theorem Q3n (p0:Step):CTs 214 [.o (.st Step _ inferInstance p0)] [Re.st Step _ inferInstance (Qie p0)]:=by
 refine en Tryz.func214 Tryz.ntmps214 fun w hG hgd=>?_
 obtain⟨hg_p0,_⟩:=hgd
 have hM:=Qie.eq_1 p0
 refine ad 20 ?_
 have hg1:Dat.good (p0.Call:Call):=hg_p0.2
 refine og (clg (Qtn p0.Call) Yfi) fun hgq=>?_
 obtain⟨hg2,_⟩:=hgq
 refine ad 8 ?_
 have hg3:Dat.good (Step.mk p0.Proc (Qhf p0.Call):Step):=⟨hg_p0.1,hg2⟩
 exact rz (rs:=[.cell 2 151]) (congrArg (fun x=>[Re.st Step _ inferInstance x]) hM)
def Qff (p0:List Step):Nat→(List Step)→Nat→(List Step)
 | 0,w1,i=>w1
 | n+1,w1,i=>Qff p0 n (w1.set i (Qie (nth p0 i))) (i+1)
def Qjk (p0:List Step):(List Step):=Qff p0 (p0.length - 0) (List.replicate p0.length (Step.mk 0 (Call.mk 0 ⟨#[]⟩ ⟨#[]⟩ 0 0 ⟨#[]⟩))) 0
theorem Q0h (p0:List Step) (hs:Dat.small 1048576 p0):CTs 157 [.o (.sl Step instDatStep p0)] [Re.sl Step instDatStep (Qjk p0)]:=by
 refine en Tryz.func157 Tryz.ntmps157 fun w hG hgd=>?_
 obtain⟨hg_p0,_⟩:=hgd
 have hl_p0:p0.length≤9223372036854775807:=hg_p0.1
 have hM:=Qjk.eq_1 p0
 have hs0:p0.length≤1048576:=hs.1
 refine ad 8 ?_
 refine op (ma p0.length (Step.mk 0 (Call.mk 0 ⟨#[]⟩ ⟨#[]⟩ 0 0 ⟨#[]⟩)) (ho:=gdz)) ?_
 refine ad 8 ?_
 refine Run.loopM (ι:=(List Step)×Nat) (fun s=>Qff p0 (p0.length - s.2) s.1 s.2) (fun s=>⟨23,2,[(0,.sl 0 p0.length),(3,.sl 1 s.1.length),(4,.v (.int .i64 (s.2:Int)))],[(0,.ros Step instDatStep p0),(1,.own Step instDatStep s.1)]⟩) (fun s=>s.2≤p0.length∧s.1.length=p0.length) (fun s=>p0.length - s.2) ((List.replicate p0.length (Step.mk 0 (Call.mk 0 ⟨#[]⟩ ⟨#[]⟩ 0 0 ⟨#[]⟩))),0) [0,1] [1,0] hM lv0 su (by decide) ?_
 rintro ⟨w1,i⟩ hv hE
 try dsimp only at hE
 obtain⟨hi,hv0⟩:=hv
 try dsimp only at hi hv0
 refine ad 8 ?_
 refine cd (fun h1=>?_) (fun h1=>?_)
 ·
  have h1l:i<p0.length:=dtl h1
  have hM:=hE.trans ((congrArg (fun n=>Qff p0 n w1 i) (sb1 h1l)).trans (Qff.eq_2 _ _ _ _))
  refine ad 8 ?_
  have hg3:=Qai (k:=i) hg_p0 om
  refine op (ix (xs:=p0) i om) ?_
  refine ad 1 ?_
  have hg4:Dat.good (nth p0 i:Step):=hg3
  refine og (clg (Q3n (nth p0 i)) Yjg) fun hgq=>?_
  obtain⟨hg5,_⟩:=hgq
  refine op (oi (xs:=w1) i om) ?_
  refine op (se (xs:=w1) i (Qie (nth p0 i)) hg5 om) ?_
  refine ad 5 ?_
  rw[Qb3 (i:=i) om]
  refine ad 2 ?_
  exact Run.again ((w1.set i (Qie (nth p0 i))),(i+1)) [0,3] [2,0] ⟨by first | omega | exact trivial | (dsimp only;omega) | (refine⟨by omega,?_⟩;simp_all;try omega),hM⟩ rfl lv1 su (by decide)
 ·
  have h1l: ¬ (i<p0.length):=dfl h1
  have hM:=hE.trans ((congrArg (fun n=>Qff p0 n w1 i) (sb0 h1l)).trans (Qff.eq_1 _ _ _))
  refine ad 6 ?_
  exact rz (rs:=[.tmp 2]) (congrArg (fun x=>[Re.sl Step instDatStep x]) hM)
def Qhp (p0:Entry):Entry:=(Entry.mk p0.Seq p0.Kind p0.Tx (Qjk p0.Steps) (Qgp p0.Answers) p0.Began p0.Ended p0.Laid)
theorem Q0j (p0:Entry) (hs:Dat.small 1048576 p0):CTs 87 [.o (.st Entry _ inferInstance p0)] [Re.st Entry _ inferInstance (Qhp p0)]:=by
 refine en Tryz.func87 Tryz.ntmps87 fun w hG hgd=>?_
 obtain⟨hg_p0,_⟩:=hgd
 have hM:=Qhp.eq_1 p0
 have hs3:Dat.small 1048576 p0.Steps:=hs.2.2.2.1
 have hs4:Dat.small 1048576 p0.Answers:=hs.2.2.2.2.1
 refine ad 34 ?_
 refine og (clg (Q0h p0.Steps (by first | assumption | exact Qcv hs (by omega))) Yke) fun hgq=>?_
 obtain⟨hg1,_⟩:=hgq
 refine ad 7 ?_
 refine og (clg (Qo6 p0.Answers (by first | assumption | exact Qcv hs (by omega))) Yfv) fun hgq=>?_
 obtain⟨hg2,_⟩:=hgq
 refine ad 29 ?_
 have hg3:Dat.good (Entry.mk p0.Seq p0.Kind p0.Tx (Qjk p0.Steps) (Qgp p0.Answers) p0.Began p0.Ended p0.Laid:Entry):=⟨hg_p0.1,hg_p0.2.1,hg_p0.2.2.1,hg1,hg2,hg_p0.2.2.2.2.2.1,hg_p0.2.2.2.2.2.2.1,hg_p0.2.2.2.2.2.2.2⟩
 exact rz (rs:=[.cell 2 80]) (congrArg (fun x=>[Re.st Entry _ inferInstance x]) hM)
def Qes (p0:List Entry):Nat→(List Entry)→Nat→(List Entry)
 | 0,w1,i=>w1
 | n+1,w1,i=>Qes p0 n (w1.set i (Qhp (nth p0 i))) (i+1)
def Qiw (p0:List Entry):(List Entry):=Qes p0 (p0.length - 0) (List.replicate p0.length (Entry.mk 0 0 0 [] [] 0 0 false)) 0
theorem Qy4 (p0:List Entry) (hs:Dat.small 1048576 p0):CTs 41 [.o (.sl Entry instDatEntry p0)] [Re.sl Entry instDatEntry (Qiw p0)]:=by
 refine en Tryz.func41 Tryz.ntmps41 fun w hG hgd=>?_
 obtain⟨hg_p0,_⟩:=hgd
 have hl_p0:p0.length≤9223372036854775807:=hg_p0.1
 have hM:=Qiw.eq_1 p0
 have hs0:p0.length≤1048576:=hs.1
 refine ad 8 ?_
 refine op (ma p0.length (Entry.mk 0 0 0 [] [] 0 0 false) (ho:=gdz)) ?_
 refine ad 8 ?_
 refine Run.loopM (ι:=(List Entry)×Nat) (fun s=>Qes p0 (p0.length - s.2) s.1 s.2) (fun s=>⟨23,2,[(0,.sl 0 p0.length),(3,.sl 1 s.1.length),(4,.v (.int .i64 (s.2:Int)))],[(0,.ros Entry instDatEntry p0),(1,.own Entry instDatEntry s.1)]⟩) (fun s=>s.2≤p0.length∧s.1.length=p0.length) (fun s=>p0.length - s.2) ((List.replicate p0.length (Entry.mk 0 0 0 [] [] 0 0 false)),0) [0,1] [1,0] hM lv0 su (by decide) ?_
 rintro ⟨w1,i⟩ hv hE
 try dsimp only at hE
 obtain⟨hi,hv0⟩:=hv
 try dsimp only at hi hv0
 refine ad 8 ?_
 refine cd (fun h1=>?_) (fun h1=>?_)
 ·
  have h1l:i<p0.length:=dtl h1
  have hM:=hE.trans ((congrArg (fun n=>Qes p0 n w1 i) (sb1 h1l)).trans (Qes.eq_2 _ _ _ _))
  refine ad 8 ?_
  have hg3:=Qai (k:=i) hg_p0 om
  refine op (ix (xs:=p0) i om) ?_
  refine ad 1 ?_
  have hg4:Dat.good (nth p0 i:Entry):=hg3
  refine og (clg (Q0j (nth p0 i) (by first | assumption | exact Qcv hs (by omega))) Ym1) fun hgq=>?_
  obtain⟨hg5,_⟩:=hgq
  refine op (oi (xs:=w1) i om) ?_
  refine op (se (xs:=w1) i (Qhp (nth p0 i)) hg5 om) ?_
  refine ad 5 ?_
  rw[Qb3 (i:=i) om]
  refine ad 2 ?_
  exact Run.again ((w1.set i (Qhp (nth p0 i))),(i+1)) [0,7] [4,0] ⟨by first | omega | exact trivial | (dsimp only;omega) | (refine⟨by omega,?_⟩;simp_all;try omega),hM⟩ rfl lv1 su (by decide)
 ·
  have h1l: ¬ (i<p0.length):=dfl h1
  have hM:=hE.trans ((congrArg (fun n=>Qes p0 n w1 i) (sb0 h1l)).trans (Qes.eq_1 _ _ _))
  refine ad 6 ?_
  exact rz (rs:=[.tmp 2]) (congrArg (fun x=>[Re.sl Entry instDatEntry x]) hM)
def Qd6 (p0:Kernel):Kernel:=(Kernel.mk (Qhq p0.Store) (Ql1 p0.Txs) (Qkm p0.Disk) p0.Seq p0.Next p0.Time (Qiw p0.History) (Qe8 p0.Seen) p0.Room)
theorem Qmq (p0:Kernel) (hs:Dat.small 1048576 p0):CTs 11 [.o (.st Kernel _ inferInstance p0)] [Re.st Kernel _ inferInstance (Qd6 p0)]:=by
 refine en Tryz.func11 Tryz.ntmps11 fun w hG hgd=>?_
 obtain⟨hg_p0,_⟩:=hgd
 have hM:=Qd6.eq_1 p0
 have hs0:Dat.small 1048576 p0.Store:=hs.1
 have hs1:Dat.small 1048576 p0.Txs:=hs.2.1
 have hs2:Dat.small 1048576 p0.Disk:=hs.2.2.1
 have hs6:Dat.small 1048576 p0.History:=hs.2.2.2.2.2.2.1
 have hs7:Dat.small 1048576 p0.Seen:=hs.2.2.2.2.2.2.2.1
 refine ad 13 ?_
 refine og (clg (Qq9 p0.Store (by first | assumption | exact Qcv hs (by omega))) Yih) fun hgq=>?_
 obtain⟨hg1,_⟩:=hgq
 refine ad 7 ?_
 refine og (clg (Q6c p0.Txs (by first | assumption | exact Qcv hs (by omega))) Ynp) fun hgq=>?_
 obtain⟨hg2,_⟩:=hgq
 refine ad 7 ?_
 have hg3:Dat.good (p0.Disk:Disk):=hg_p0.2.2.1
 refine og (clg (Q3q p0.Disk (by first | assumption | exact Qcv hs (by omega))) Yno) fun hgq=>?_
 obtain⟨hg4,_⟩:=hgq
 refine ad 28 ?_
 refine og (clg (Qy4 p0.History (by first | assumption | exact Qcv hs (by omega))) Ynn) fun hgq=>?_
 obtain⟨hg5,_⟩:=hgq
 refine ad 7 ?_
 refine og (clg (Qlk p0.Seen (by first | assumption | exact Qcv hs (by omega))) Yg9) fun hgq=>?_
 obtain⟨hg6,_⟩:=hgq
 refine ad 15 ?_
 have hg7:Dat.good (Kernel.mk (Qhq p0.Store) (Ql1 p0.Txs) (Qkm p0.Disk) p0.Seq p0.Next p0.Time (Qiw p0.History) (Qe8 p0.Seen) p0.Room:Kernel):=⟨hg1,hg2,hg4,hg_p0.2.2.2.1,hg_p0.2.2.2.2.1,hg_p0.2.2.2.2.2.1,hg5,hg6,hg_p0.2.2.2.2.2.2.2.2⟩
 exact rz (rs:=[.cell 2 43]) (congrArg (fun x=>[Re.st Kernel _ inferInstance x]) hM)
def Qkp (p0:Cell) (p1:Cell):Bool:=bif !decide (p0.Key=p1.Key) then false else(bif !decide (p0.Val=p1.Val) then false else true)
theorem Q31 (p0:Cell) (p1:Cell):CTs 94 [.o (.st Cell _ inferInstance p0),.o (.st Cell _ inferInstance p1)] [Re.c (.bool (Qkp p0 p1))]:=by
 refine en Tryz.func94 Tryz.ntmps94 fun w hG hgd=>?_
 obtain⟨hg_p0,hg_p1,_⟩:=hgd
 have hM:=Qkp.eq_1 p0 p1
 refine ad 15 ?_
 refine cd (fun h1=>?_) (fun h1=>?_)
 ·
  have hM:=hM.trans (bt h1)
  refine ad 4 ?_
  exact rz (rs:=[.tmp 4]) (rzB hM)
 ·
  have hM:=hM.trans (bf h1)
  refine ad 10 ?_
  refine cd (fun h2=>?_) (fun h2=>?_)
  ·
   have hM:=hM.trans (bt h2)
   refine ad 4 ?_
   exact rz (rs:=[.tmp 4]) (rzB hM)
  ·
   have hM:=hM.trans (bf h2)
   refine ad 5 ?_
   exact rz (rs:=[.tmp 4]) (rzB hM)
def Qfr (p0:List Cell) (p1:List Cell):Nat→Nat→Bool
 | 0,i=>true
 | n+1,i=>bif !(Qkp (nth p0 i) (nth p1 i)) then false else(Qfr p0 p1 n (i+1))
def Qjo (p0:List Cell) (p1:List Cell):Bool:=bif !decide ((p0.length:Int)=(p1.length:Int)) then false else(Qfr p0 p1 (p0.length - 0) 0)
theorem Qrb (p0:List Cell) (p1:List Cell):CTs 45 [.o (.sl Cell instDatCell p0),.o (.sl Cell instDatCell p1)] [Re.c (.bool (Qjo p0 p1))]:=by
 refine en Tryz.func45 Tryz.ntmps45 fun w hG hgd=>?_
 obtain⟨hg_p0,hg_p1,_⟩:=hgd
 have hl_p0:p0.length≤9223372036854775807:=hg_p0.1
 have hl_p1:p1.length≤9223372036854775807:=hg_p1.1
 have hM:=Qjo.eq_1 p0 p1
 refine ad 13 ?_
 refine cd (fun h1=>?_) (fun h1=>?_)
 ·
  have hM:=hM.trans (bt h1)
  refine ad 4 ?_
  exact rz (rs:=[.tmp 4]) (rzB hM)
 ·
  have hM:=hM.trans (bf h1)
  refine ad 7 ?_
  refine Run.loopM (ι:=Nat) (fun s=>Qfr p0 p1 (p0.length - s) s) (fun s=>⟨27,2,[(0,.sl 0 p0.length),(1,.sl 1 p1.length),(5,.v (.int .i64 (s:Int)))],[(0,.ros Cell instDatCell p0),(1,.ros Cell instDatCell p1)]⟩) (fun s=>s≤p0.length) (fun s=>p0.length - s) 0 [0,1] [0,1] hM lv0 su (by decide) ?_
  rintro i hv hE
  try dsimp only at hE
  have hi:=hv
  try dsimp only at hi
  refine ad 8 ?_
  refine cd (fun h2=>?_) (fun h2=>?_)
  ·
   have h2l:i<p0.length:=dtl h2
   have hM:=hE.trans ((congrArg (fun n=>Qfr p0 p1 n i) (sb1 h2l)).trans (Qfr.eq_2 _ _ _ _))
   refine ad 4 ?_
   refine dr 10 fun _ _ _ _ _ hb=>?_
   refine tk [0,1] ?_
   have hg3:=Qai (k:=i) hg_p0 om
   refine tx 2 (dx (xs:=p0) i om) ?_
   refine tk [3,4,5] ?_
   have hg4:=Qai (k:=i) hg_p1 om
   refine tx 6 (dx (xs:=p1) i om) ?_
   refine tk [7] ?_
   have hg5:Dat.good (nth p0 i:Cell):=hg3
   have hg6:Dat.good (nth p1 i:Cell):=hg4
   refine on 8 [2,3] (cl (Q31 (nth p0 i) (nth p1 i)) Ymy) ?_
   refine tk [9] ?_
   refine dn hb ?_
   refine cd (fun h7=>?_) (fun h7=>?_)
   ·
    have hM:=hM.trans (bt h7)
    refine ad 4 ?_
    exact rz (rs:=[.tmp 4]) (rzB hM)
   ·
    have hM:=hM.trans (bf h7)
    refine ad 5 ?_
    rw[Qb3 (i:=i) om]
    refine ad 2 ?_
    exact Run.again (i+1) [0,1] [2,3] ⟨by first | omega | exact trivial | (dsimp only;omega) | (refine⟨by omega,?_⟩;simp_all;try omega),hM⟩ rfl lv1 su (by decide)
  ·
   have h2l: ¬ (i<p0.length):=dfl h2
   have hM:=hE.trans ((congrArg (fun n=>Qfr p0 p1 n i) (sb0 h2l)).trans (Qfr.eq_1 _ _ _))
   refine ad 5 ?_
   exact rz (rs:=[.tmp 4]) (rzB hM)
def Qjf (p0:Call) (p1:Call):Bool:=bif !decide (p0.Kind=p1.Kind) then false else(bif !decide (p0.Name=p1.Name) then false else(bif !decide (p0.To=p1.To) then false else(bif !decide (p0.A=p1.A) then false else(bif !decide (p0.B=p1.B) then false else(bif !decide (p0.Text=p1.Text) then false else true)))))
theorem Qtp (p0:Call) (p1:Call):CTs 223 [.o (.st Call _ inferInstance p0),.o (.st Call _ inferInstance p1)] [Re.c (.bool (Qjf p0 p1))]:=by
 refine en Tryz.func223 Tryz.ntmps223 fun w hG hgd=>?_
 obtain⟨hg_p0,hg_p1,_⟩:=hgd
 have hM:=Qjf.eq_1 p0 p1
 refine ad 15 ?_
 refine cd (fun h1=>?_) (fun h1=>?_)
 ·
  have hM:=hM.trans (bt h1)
  refine ad 4 ?_
  exact rz (rs:=[.tmp 4]) (rzB hM)
 ·
  have hM:=hM.trans (bf h1)
  refine ad 10 ?_
  refine cd (fun h2=>?_) (fun h2=>?_)
  ·
   have hM:=hM.trans (bt h2)
   refine ad 4 ?_
   exact rz (rs:=[.tmp 4]) (rzB hM)
  ·
   have hM:=hM.trans (bf h2)
   refine ad 10 ?_
   refine cd (fun h3=>?_) (fun h3=>?_)
   ·
    have hM:=hM.trans (bt h3)
    refine ad 4 ?_
    exact rz (rs:=[.tmp 4]) (rzB hM)
   ·
    have hM:=hM.trans (bf h3)
    refine ad 10 ?_
    refine cd (fun h4=>?_) (fun h4=>?_)
    ·
     have hM:=hM.trans (bt h4)
     refine ad 4 ?_
     exact rz (rs:=[.tmp 4]) (rzB hM)
    ·
     have hM:=hM.trans (bf h4)
     refine ad 10 ?_
     refine cd (fun h5=>?_) (fun h5=>?_)
     ·
      have hM:=hM.trans (bt h5)
      refine ad 4 ?_
      exact rz (rs:=[.tmp 4]) (rzB hM)
     ·
      have hM:=hM.trans (bf h5)
      refine ad 10 ?_
      refine cd (fun h6=>?_) (fun h6=>?_)
      ·
       have hM:=hM.trans (bt h6)
       refine ad 4 ?_
       exact rz (rs:=[.tmp 4]) (rzB hM)
      ·
       have hM:=hM.trans (bf h6)
       refine ad 5 ?_
       exact rz (rs:=[.tmp 4]) (rzB hM)
def Qfs (p0:List Call) (p1:List Call):Nat→Nat→Bool
 | 0,i=>true
 | n+1,i=>bif !(Qjf (nth p0 i) (nth p1 i)) then false else(Qfs p0 p1 n (i+1))
def Qk8 (p0:List Call) (p1:List Call):Bool:=bif !decide ((p0.length:Int)=(p1.length:Int)) then false else(Qfs p0 p1 (p0.length - 0) 0)
theorem Q0u (p0:List Call) (p1:List Call):CTs 169 [.o (.sl Call instDatCall p0),.o (.sl Call instDatCall p1)] [Re.c (.bool (Qk8 p0 p1))]:=by
 refine en Tryz.func169 Tryz.ntmps169 fun w hG hgd=>?_
 obtain⟨hg_p0,hg_p1,_⟩:=hgd
 have hl_p0:p0.length≤9223372036854775807:=hg_p0.1
 have hl_p1:p1.length≤9223372036854775807:=hg_p1.1
 have hM:=Qk8.eq_1 p0 p1
 refine ad 13 ?_
 refine cd (fun h1=>?_) (fun h1=>?_)
 ·
  have hM:=hM.trans (bt h1)
  refine ad 4 ?_
  exact rz (rs:=[.tmp 4]) (rzB hM)
 ·
  have hM:=hM.trans (bf h1)
  refine ad 7 ?_
  refine Run.loopM (ι:=Nat) (fun s=>Qfs p0 p1 (p0.length - s) s) (fun s=>⟨27,2,[(0,.sl 0 p0.length),(1,.sl 1 p1.length),(5,.v (.int .i64 (s:Int)))],[(0,.ros Call instDatCall p0),(1,.ros Call instDatCall p1)]⟩) (fun s=>s≤p0.length) (fun s=>p0.length - s) 0 [0,1] [0,1] hM lv0 su (by decide) ?_
  rintro i hv hE
  try dsimp only at hE
  have hi:=hv
  try dsimp only at hi
  refine ad 8 ?_
  refine cd (fun h2=>?_) (fun h2=>?_)
  ·
   have h2l:i<p0.length:=dtl h2
   have hM:=hE.trans ((congrArg (fun n=>Qfs p0 p1 n i) (sb1 h2l)).trans (Qfs.eq_2 _ _ _ _))
   refine ad 4 ?_
   refine dr 10 fun _ _ _ _ _ hb=>?_
   refine tk [0,1] ?_
   have hg3:=Qai (k:=i) hg_p0 om
   refine tx 2 (dx (xs:=p0) i om) ?_
   refine tk [3,4,5] ?_
   have hg4:=Qai (k:=i) hg_p1 om
   refine tx 6 (dx (xs:=p1) i om) ?_
   refine tk [7] ?_
   have hg5:Dat.good (nth p0 i:Call):=hg3
   have hg6:Dat.good (nth p1 i:Call):=hg4
   refine on 8 [2,3] (cl (Qtp (nth p0 i) (nth p1 i)) Yfh) ?_
   refine tk [9] ?_
   refine dn hb ?_
   refine cd (fun h7=>?_) (fun h7=>?_)
   ·
    have hM:=hM.trans (bt h7)
    refine ad 4 ?_
    exact rz (rs:=[.tmp 4]) (rzB hM)
   ·
    have hM:=hM.trans (bf h7)
    refine ad 5 ?_
    rw[Qb3 (i:=i) om]
    refine ad 2 ?_
    exact Run.again (i+1) [0,1] [2,3] ⟨by first | omega | exact trivial | (dsimp only;omega) | (refine⟨by omega,?_⟩;simp_all;try omega),hM⟩ rfl lv1 su (by decide)
  ·
   have h2l: ¬ (i<p0.length):=dfl h2
   have hM:=hE.trans ((congrArg (fun n=>Qfs p0 p1 n i) (sb0 h2l)).trans (Qfs.eq_1 _ _ _))
   refine ad 5 ?_
   exact rz (rs:=[.tmp 4]) (rzB hM)
def Qiy (p0:Answer) (p1:Answer):Bool:=bif !decide (p0.Code=p1.Code) then false else(bif !decide (p0.N=p1.N) then false else(bif !decide (p0.Text=p1.Text) then false else true))
theorem Qzb (p0:Answer) (p1:Answer):CTs 184 [.o (.st Answer _ inferInstance p0),.o (.st Answer _ inferInstance p1)] [Re.c (.bool (Qiy p0 p1))]:=by
 refine en Tryz.func184 Tryz.ntmps184 fun w hG hgd=>?_
 obtain⟨hg_p0,hg_p1,_⟩:=hgd
 have hM:=Qiy.eq_1 p0 p1
 refine ad 15 ?_
 refine cd (fun h1=>?_) (fun h1=>?_)
 ·
  have hM:=hM.trans (bt h1)
  refine ad 4 ?_
  exact rz (rs:=[.tmp 4]) (rzB hM)
 ·
  have hM:=hM.trans (bf h1)
  refine ad 10 ?_
  refine cd (fun h2=>?_) (fun h2=>?_)
  ·
   have hM:=hM.trans (bt h2)
   refine ad 4 ?_
   exact rz (rs:=[.tmp 4]) (rzB hM)
  ·
   have hM:=hM.trans (bf h2)
   refine ad 10 ?_
   refine cd (fun h3=>?_) (fun h3=>?_)
   ·
    have hM:=hM.trans (bt h3)
    refine ad 4 ?_
    exact rz (rs:=[.tmp 4]) (rzB hM)
   ·
    have hM:=hM.trans (bf h3)
    refine ad 5 ?_
    exact rz (rs:=[.tmp 4]) (rzB hM)
def Qec (p0:List Answer) (p1:List Answer):Nat→Nat→Bool
 | 0,i=>true
 | n+1,i=>bif !(Qiy (nth p0 i) (nth p1 i)) then false else(Qec p0 p1 n (i+1))
def Qh5 (p0:List Answer) (p1:List Answer):Bool:=bif !decide ((p0.length:Int)=(p1.length:Int)) then false else(Qec p0 p1 (p0.length - 0) 0)
theorem Qo8 (p0:List Answer) (p1:List Answer):CTs 123 [.o (.sl Answer instDatAnswer p0),.o (.sl Answer instDatAnswer p1)] [Re.c (.bool (Qh5 p0 p1))]:=by
 refine en Tryz.func123 Tryz.ntmps123 fun w hG hgd=>?_
 obtain⟨hg_p0,hg_p1,_⟩:=hgd
 have hl_p0:p0.length≤9223372036854775807:=hg_p0.1
 have hl_p1:p1.length≤9223372036854775807:=hg_p1.1
 have hM:=Qh5.eq_1 p0 p1
 refine ad 13 ?_
 refine cd (fun h1=>?_) (fun h1=>?_)
 ·
  have hM:=hM.trans (bt h1)
  refine ad 4 ?_
  exact rz (rs:=[.tmp 4]) (rzB hM)
 ·
  have hM:=hM.trans (bf h1)
  refine ad 7 ?_
  refine Run.loopM (ι:=Nat) (fun s=>Qec p0 p1 (p0.length - s) s) (fun s=>⟨27,2,[(0,.sl 0 p0.length),(1,.sl 1 p1.length),(5,.v (.int .i64 (s:Int)))],[(0,.ros Answer instDatAnswer p0),(1,.ros Answer instDatAnswer p1)]⟩) (fun s=>s≤p0.length) (fun s=>p0.length - s) 0 [0,1] [0,1] hM lv0 su (by decide) ?_
  rintro i hv hE
  try dsimp only at hE
  have hi:=hv
  try dsimp only at hi
  refine ad 8 ?_
  refine cd (fun h2=>?_) (fun h2=>?_)
  ·
   have h2l:i<p0.length:=dtl h2
   have hM:=hE.trans ((congrArg (fun n=>Qec p0 p1 n i) (sb1 h2l)).trans (Qec.eq_2 _ _ _ _))
   refine ad 4 ?_
   refine dr 10 fun _ _ _ _ _ hb=>?_
   refine tk [0,1] ?_
   have hg3:=Qai (k:=i) hg_p0 om
   refine tx 2 (dx (xs:=p0) i om) ?_
   refine tk [3,4,5] ?_
   have hg4:=Qai (k:=i) hg_p1 om
   refine tx 6 (dx (xs:=p1) i om) ?_
   refine tk [7] ?_
   have hg5:Dat.good (nth p0 i:Answer):=hg3
   have hg6:Dat.good (nth p1 i:Answer):=hg4
   refine on 8 [2,3] (cl (Qzb (nth p0 i) (nth p1 i)) Yj1) ?_
   refine tk [9] ?_
   refine dn hb ?_
   refine cd (fun h7=>?_) (fun h7=>?_)
   ·
    have hM:=hM.trans (bt h7)
    refine ad 4 ?_
    exact rz (rs:=[.tmp 4]) (rzB hM)
   ·
    have hM:=hM.trans (bf h7)
    refine ad 5 ?_
    rw[Qb3 (i:=i) om]
    refine ad 2 ?_
    exact Run.again (i+1) [0,1] [2,3] ⟨by first | omega | exact trivial | (dsimp only;omega) | (refine⟨by omega,?_⟩;simp_all;try omega),hM⟩ rfl lv1 su (by decide)
  ·
   have h2l: ¬ (i<p0.length):=dfl h2
   have hM:=hE.trans ((congrArg (fun n=>Qec p0 p1 n i) (sb0 h2l)).trans (Qec.eq_1 _ _ _))
   refine ad 5 ?_
   exact rz (rs:=[.tmp 4]) (rzB hM)
def Qeb (p0:List ByteArray) (p1:List ByteArray):Nat→Nat→Bool
 | 0,i=>true
 | n+1,i=>bif !decide ((nth p0 i)=(nth p1 i)) then false else(Qeb p0 p1 n (i+1))
def Qhg (p0:List ByteArray) (p1:List ByteArray):Bool:=bif !decide ((p0.length:Int)=(p1.length:Int)) then false else(Qeb p0 p1 (p0.length - 0) 0)
theorem Qlm (p0:List ByteArray) (p1:List ByteArray):CTs 18 [.o (.sl ByteArray instDatByteArray p0),.o (.sl ByteArray instDatByteArray p1)] [Re.c (.bool (Qhg p0 p1))]:=by
 refine en Tryz.func18 Tryz.ntmps18 fun w hG hgd=>?_
 obtain⟨hg_p0,hg_p1,_⟩:=hgd
 have hl_p0:p0.length≤9223372036854775807:=hg_p0.1
 have hl_p1:p1.length≤9223372036854775807:=hg_p1.1
 have hM:=Qhg.eq_1 p0 p1
 refine ad 13 ?_
 refine cd (fun h1=>?_) (fun h1=>?_)
 ·
  have hM:=hM.trans (bt h1)
  refine ad 4 ?_
  exact rz (rs:=[.tmp 4]) (rzB hM)
 ·
  have hM:=hM.trans (bf h1)
  refine ad 7 ?_
  refine Run.loopM (ι:=Nat) (fun s=>Qeb p0 p1 (p0.length - s) s) (fun s=>⟨26,2,[(0,.sl 0 p0.length),(1,.sl 1 p1.length),(5,.v (.int .i64 (s:Int)))],[(0,.ros ByteArray instDatByteArray p0),(1,.ros ByteArray instDatByteArray p1)]⟩) (fun s=>s≤p0.length) (fun s=>p0.length - s) 0 [0,1] [0,1] hM lv0 su (by decide) ?_
  rintro i hv hE
  try dsimp only at hE
  have hi:=hv
  try dsimp only at hi
  refine ad 8 ?_
  refine cd (fun h2=>?_) (fun h2=>?_)
  ·
   have h2l:i<p0.length:=dtl h2
   have hM:=hE.trans ((congrArg (fun n=>Qeb p0 p1 n i) (sb1 h2l)).trans (Qeb.eq_2 _ _ _ _))
   refine ad 4 ?_
   refine dr 9 fun _ _ _ _ _ hb=>?_
   refine tk [0,1] ?_
   have hg3:=Qai (k:=i) hg_p0 om
   refine tx 2 (dx (xs:=p0) i om) ?_
   refine tk [3,4,5] ?_
   have hg4:=Qai (k:=i) hg_p1 om
   refine tx 6 (dx (xs:=p1) i om) ?_
   refine tk [7,8] ?_
   refine dn hb ?_
   refine cd (fun h5=>?_) (fun h5=>?_)
   ·
    have hM:=hM.trans (bt h5)
    refine ad 4 ?_
    exact rz (rs:=[.tmp 4]) (rzB hM)
   ·
    have hM:=hM.trans (bf h5)
    refine ad 5 ?_
    rw[Qb3 (i:=i) om]
    refine ad 2 ?_
    exact Run.again (i+1) [0,1] [2,3] ⟨by first | omega | exact trivial | (dsimp only;omega) | (refine⟨by omega,?_⟩;simp_all;try omega),hM⟩ rfl lv1 su (by decide)
  ·
   have h2l: ¬ (i<p0.length):=dfl h2
   have hM:=hE.trans ((congrArg (fun n=>Qeb p0 p1 n i) (sb0 h2l)).trans (Qeb.eq_1 _ _ _))
   refine ad 5 ?_
   exact rz (rs:=[.tmp 4]) (rzB hM)
def Qk5 (p0:Touch) (p1:Touch):Bool:=bif !(Qhg p0.Reads p1.Reads) then false else(bif !(Qhg p0.Writes p1.Writes) then false else true)
theorem Q0q (p0:Touch) (p1:Touch):CTs 170 [.o (.st Touch _ inferInstance p0),.o (.st Touch _ inferInstance p1)] [Re.c (.bool (Qk5 p0 p1))]:=by
 refine en Tryz.func170 Tryz.ntmps170 fun w hG hgd=>?_
 obtain⟨hg_p0,hg_p1,_⟩:=hgd
 have hM:=Qk5.eq_1 p0 p1
 refine ad 13 ?_
 refine op (cl (Qlm p0.Reads p1.Reads) Yhb) ?_
 refine ad 2 ?_
 refine cd (fun h1=>?_) (fun h1=>?_)
 ·
  have hM:=hM.trans (bt h1)
  refine ad 4 ?_
  exact rz (rs:=[.tmp 4]) (rzB hM)
 ·
  have hM:=hM.trans (bf h1)
  refine ad 8 ?_
  refine op (cl (Qlm p0.Writes p1.Writes) Yhb) ?_
  refine ad 2 ?_
  refine cd (fun h2=>?_) (fun h2=>?_)
  ·
   have hM:=hM.trans (bt h2)
   refine ad 4 ?_
   exact rz (rs:=[.tmp 4]) (rzB hM)
  ·
   have hM:=hM.trans (bf h2)
   refine ad 5 ?_
   exact rz (rs:=[.tmp 4]) (rzB hM)
def Qf5 (p0:List Int) (p1:List Int):Nat→Nat→Bool
 | 0,i=>true
 | n+1,i=>bif !decide ((nth p0 i)=(nth p1 i)) then false else(Qf5 p0 p1 n (i+1))
def Qmc (p0:List Int) (p1:List Int):Bool:=bif !decide ((p0.length:Int)=(p1.length:Int)) then false else(Qf5 p0 p1 (p0.length - 0) 0)
theorem Q3z (p0:List Int) (p1:List Int):CTs 171 [.o (.sl Int instDatInt p0),.o (.sl Int instDatInt p1)] [Re.c (.bool (Qmc p0 p1))]:=by
 refine en Tryz.func171 Tryz.ntmps171 fun w hG hgd=>?_
 obtain⟨hg_p0,hg_p1,_⟩:=hgd
 have hl_p0:p0.length≤9223372036854775807:=hg_p0.1
 have hl_p1:p1.length≤9223372036854775807:=hg_p1.1
 have hM:=Qmc.eq_1 p0 p1
 refine ad 13 ?_
 refine cd (fun h1=>?_) (fun h1=>?_)
 ·
  have hM:=hM.trans (bt h1)
  refine ad 4 ?_
  exact rz (rs:=[.tmp 4]) (rzB hM)
 ·
  have hM:=hM.trans (bf h1)
  refine ad 7 ?_
  refine Run.loopM (ι:=Nat) (fun s=>Qf5 p0 p1 (p0.length - s) s) (fun s=>⟨26,2,[(0,.sl 0 p0.length),(1,.sl 1 p1.length),(5,.v (.int .i64 (s:Int)))],[(0,.ros Int instDatInt p0),(1,.ros Int instDatInt p1)]⟩) (fun s=>s≤p0.length) (fun s=>p0.length - s) 0 [0,1] [0,1] hM lv0 su (by decide) ?_
  rintro i hv hE
  try dsimp only at hE
  have hi:=hv
  try dsimp only at hi
  refine ad 8 ?_
  refine cd (fun h2=>?_) (fun h2=>?_)
  ·
   have h2l:i<p0.length:=dtl h2
   have hM:=hE.trans ((congrArg (fun n=>Qf5 p0 p1 n i) (sb1 h2l)).trans (Qf5.eq_2 _ _ _ _))
   refine ad 4 ?_
   refine dr 9 fun _ _ _ _ _ hb=>?_
   refine tk [0,1] ?_
   have hg3:=Qai (k:=i) hg_p0 om
   refine tx 2 (dx (xs:=p0) i om) ?_
   refine tk [3,4,5] ?_
   have hg4:=Qai (k:=i) hg_p1 om
   refine tx 6 (dx (xs:=p1) i om) ?_
   refine tk [7,8] ?_
   refine dn hb ?_
   refine cd (fun h5=>?_) (fun h5=>?_)
   ·
    have hM:=hM.trans (bt h5)
    refine ad 4 ?_
    exact rz (rs:=[.tmp 4]) (rzB hM)
   ·
    have hM:=hM.trans (bf h5)
    refine ad 5 ?_
    rw[Qb3 (i:=i) om]
    refine ad 2 ?_
    exact Run.again (i+1) [0,1] [2,3] ⟨by first | omega | exact trivial | (dsimp only;omega) | (refine⟨by omega,?_⟩;simp_all;try omega),hM⟩ rfl lv1 su (by decide)
  ·
   have h2l: ¬ (i<p0.length):=dfl h2
   have hM:=hE.trans ((congrArg (fun n=>Qf5 p0 p1 n i) (sb0 h2l)).trans (Qf5.eq_1 _ _ _))
   refine ad 5 ?_
   exact rz (rs:=[.tmp 4]) (rzB hM)
def Qn6 (p0:Tx) (p1:Tx):Bool:=bif !decide (p0.Id=p1.Id) then false else(bif !decide (p0.Age=p1.Age) then false else(bif !decide (p0.Proc=p1.Proc) then false else(bif !decide (p0.Began=p1.Began) then false else(bif !(Qk8 p0.Calls p1.Calls) then false else(bif !(Qh5 p0.Answers p1.Answers) then false else(bif !(Qk5 p0.Touch p1.Touch) then false else(bif !(Qmc p0.Marks p1.Marks) then false else(bif !decide (p0.State=p1.State) then false else true))))))))
theorem Q7m (p0:Tx) (p1:Tx):CTs 95 [.o (.st Tx _ inferInstance p0),.o (.st Tx _ inferInstance p1)] [Re.c (.bool (Qn6 p0 p1))]:=by
 refine en Tryz.func95 Tryz.ntmps95 fun w hG hgd=>?_
 obtain⟨hg_p0,hg_p1,_⟩:=hgd
 have hM:=Qn6.eq_1 p0 p1
 refine ad 15 ?_
 refine cd (fun h1=>?_) (fun h1=>?_)
 ·
  have hM:=hM.trans (bt h1)
  refine ad 4 ?_
  exact rz (rs:=[.tmp 4]) (rzB hM)
 ·
  have hM:=hM.trans (bf h1)
  refine ad 10 ?_
  refine cd (fun h2=>?_) (fun h2=>?_)
  ·
   have hM:=hM.trans (bt h2)
   refine ad 4 ?_
   exact rz (rs:=[.tmp 4]) (rzB hM)
  ·
   have hM:=hM.trans (bf h2)
   refine ad 10 ?_
   refine cd (fun h3=>?_) (fun h3=>?_)
   ·
    have hM:=hM.trans (bt h3)
    refine ad 4 ?_
    exact rz (rs:=[.tmp 4]) (rzB hM)
   ·
    have hM:=hM.trans (bf h3)
    refine ad 10 ?_
    refine cd (fun h4=>?_) (fun h4=>?_)
    ·
     have hM:=hM.trans (bt h4)
     refine ad 4 ?_
     exact rz (rs:=[.tmp 4]) (rzB hM)
    ·
     have hM:=hM.trans (bf h4)
     refine ad 8 ?_
     refine op (cl (Q0u p0.Calls p1.Calls) Yj8) ?_
     refine ad 2 ?_
     refine cd (fun h5=>?_) (fun h5=>?_)
     ·
      have hM:=hM.trans (bt h5)
      refine ad 4 ?_
      exact rz (rs:=[.tmp 4]) (rzB hM)
     ·
      have hM:=hM.trans (bf h5)
      refine ad 8 ?_
      refine op (cl (Qo8 p0.Answers p1.Answers) Yfz) ?_
      refine ad 2 ?_
      refine cd (fun h6=>?_) (fun h6=>?_)
      ·
       have hM:=hM.trans (bt h6)
       refine ad 4 ?_
       exact rz (rs:=[.tmp 4]) (rzB hM)
      ·
       have hM:=hM.trans (bf h6)
       refine ad 8 ?_
       have hg7:Dat.good (p0.Touch:Touch):=hg_p0.2.2.2.2.2.2.1
       have hg8:Dat.good (p1.Touch:Touch):=hg_p1.2.2.2.2.2.2.1
       refine op (cl (Q0q p0.Touch p1.Touch) Yj7) ?_
       refine ad 2 ?_
       refine cd (fun h9=>?_) (fun h9=>?_)
       ·
        have hM:=hM.trans (bt h9)
        refine ad 4 ?_
        exact rz (rs:=[.tmp 4]) (rzB hM)
       ·
        have hM:=hM.trans (bf h9)
        refine ad 8 ?_
        refine op (cl (Q3z p0.Marks p1.Marks) Yj6) ?_
        refine ad 2 ?_
        refine cd (fun h10=>?_) (fun h10=>?_)
        ·
         have hM:=hM.trans (bt h10)
         refine ad 4 ?_
         exact rz (rs:=[.tmp 4]) (rzB hM)
        ·
         have hM:=hM.trans (bf h10)
         refine ad 10 ?_
         refine cd (fun h11=>?_) (fun h11=>?_)
         ·
          have hM:=hM.trans (bt h11)
          refine ad 4 ?_
          exact rz (rs:=[.tmp 4]) (rzB hM)
         ·
          have hM:=hM.trans (bf h11)
          refine ad 5 ?_
          exact rz (rs:=[.tmp 4]) (rzB hM)
def Qgm (p0:List Tx) (p1:List Tx):Nat→Nat→Bool
 | 0,i=>true
 | n+1,i=>bif !(Qn6 (nth p0 i) (nth p1 i)) then false else(Qgm p0 p1 n (i+1))
def Qn5 (p0:List Tx) (p1:List Tx):Bool:=bif !decide ((p0.length:Int)=(p1.length:Int)) then false else(Qgm p0 p1 (p0.length - 0) 0)
theorem Q6e (p0:List Tx) (p1:List Tx):CTs 46 [.o (.sl Tx instDatTx p0),.o (.sl Tx instDatTx p1)] [Re.c (.bool (Qn5 p0 p1))]:=by
 refine en Tryz.func46 Tryz.ntmps46 fun w hG hgd=>?_
 obtain⟨hg_p0,hg_p1,_⟩:=hgd
 have hl_p0:p0.length≤9223372036854775807:=hg_p0.1
 have hl_p1:p1.length≤9223372036854775807:=hg_p1.1
 have hM:=Qn5.eq_1 p0 p1
 refine ad 13 ?_
 refine cd (fun h1=>?_) (fun h1=>?_)
 ·
  have hM:=hM.trans (bt h1)
  refine ad 4 ?_
  exact rz (rs:=[.tmp 4]) (rzB hM)
 ·
  have hM:=hM.trans (bf h1)
  refine ad 7 ?_
  refine Run.loopM (ι:=Nat) (fun s=>Qgm p0 p1 (p0.length - s) s) (fun s=>⟨27,2,[(0,.sl 0 p0.length),(1,.sl 1 p1.length),(5,.v (.int .i64 (s:Int)))],[(0,.ros Tx instDatTx p0),(1,.ros Tx instDatTx p1)]⟩) (fun s=>s≤p0.length) (fun s=>p0.length - s) 0 [0,1] [0,1] hM lv0 su (by decide) ?_
  rintro i hv hE
  try dsimp only at hE
  have hi:=hv
  try dsimp only at hi
  refine ad 8 ?_
  refine cd (fun h2=>?_) (fun h2=>?_)
  ·
   have h2l:i<p0.length:=dtl h2
   have hM:=hE.trans ((congrArg (fun n=>Qgm p0 p1 n i) (sb1 h2l)).trans (Qgm.eq_2 _ _ _ _))
   refine ad 4 ?_
   refine dr 10 fun _ _ _ _ _ hb=>?_
   refine tk [0,1] ?_
   have hg3:=Qai (k:=i) hg_p0 om
   refine tx 2 (dx (xs:=p0) i om) ?_
   refine tk [3,4,5] ?_
   have hg4:=Qai (k:=i) hg_p1 om
   refine tx 6 (dx (xs:=p1) i om) ?_
   refine tk [7] ?_
   have hg5:Dat.good (nth p0 i:Tx):=hg3
   have hg6:Dat.good (nth p1 i:Tx):=hg4
   refine on 8 [12,13] (cl (Q7m (nth p0 i) (nth p1 i)) Ymx) ?_
   refine tk [9] ?_
   refine dn hb ?_
   refine cd (fun h7=>?_) (fun h7=>?_)
   ·
    have hM:=hM.trans (bt h7)
    refine ad 4 ?_
    exact rz (rs:=[.tmp 4]) (rzB hM)
   ·
    have hM:=hM.trans (bf h7)
    refine ad 5 ?_
    rw[Qb3 (i:=i) om]
    refine ad 2 ?_
    exact Run.again (i+1) [0,1] [12,13] ⟨by first | omega | exact trivial | (dsimp only;omega) | (refine⟨by omega,?_⟩;simp_all;try omega),hM⟩ rfl lv1 su (by decide)
  ·
   have h2l: ¬ (i<p0.length):=dfl h2
   have hM:=hE.trans ((congrArg (fun n=>Qgm p0 p1 n i) (sb0 h2l)).trans (Qgm.eq_1 _ _ _))
   refine ad 5 ?_
   exact rz (rs:=[.tmp 4]) (rzB hM)
def Qko (p0:Slot) (p1:Slot):Bool:=bif !decide (p0.Seq=p1.Seq) then false else(bif !(Qjo p0.Cells p1.Cells) then false else(bif !decide (p0.Whole=p1.Whole) then false else true))
theorem Q3y (p0:Slot) (p1:Slot):CTs 172 [.o (.st Slot _ inferInstance p0),.o (.st Slot _ inferInstance p1)] [Re.c (.bool (Qko p0 p1))]:=by
 refine en Tryz.func172 Tryz.ntmps172 fun w hG hgd=>?_
 obtain⟨hg_p0,hg_p1,_⟩:=hgd
 have hM:=Qko.eq_1 p0 p1
 refine ad 15 ?_
 refine cd (fun h1=>?_) (fun h1=>?_)
 ·
  have hM:=hM.trans (bt h1)
  refine ad 4 ?_
  exact rz (rs:=[.tmp 4]) (rzB hM)
 ·
  have hM:=hM.trans (bf h1)
  refine ad 8 ?_
  refine op (cl (Qrb p0.Cells p1.Cells) Yif) ?_
  refine ad 2 ?_
  refine cd (fun h2=>?_) (fun h2=>?_)
  ·
   have hM:=hM.trans (bt h2)
   refine ad 4 ?_
   exact rz (rs:=[.tmp 4]) (rzB hM)
  ·
   have hM:=hM.trans (bf h2)
   refine ad 10 ?_
   refine cd (fun h3=>?_) (fun h3=>?_)
   ·
    have hM:=hM.trans (bt h3)
    refine ad 4 ?_
    exact rz (rs:=[.tmp 4]) (rzB hM)
   ·
    have hM:=hM.trans (bf h3)
    refine ad 5 ?_
    exact rz (rs:=[.tmp 4]) (rzB hM)
def Qfq (p0:List Slot) (p1:List Slot):Nat→Nat→Bool
 | 0,i=>true
 | n+1,i=>bif !(Qko (nth p0 i) (nth p1 i)) then false else(Qfq p0 p1 n (i+1))
def Qk7 (p0:List Slot) (p1:List Slot):Bool:=bif !decide ((p0.length:Int)=(p1.length:Int)) then false else(Qfq p0 p1 (p0.length - 0) 0)
theorem Q0s (p0:List Slot) (p1:List Slot):CTs 96 [.o (.sl Slot instDatSlot p0),.o (.sl Slot instDatSlot p1)] [Re.c (.bool (Qk7 p0 p1))]:=by
 refine en Tryz.func96 Tryz.ntmps96 fun w hG hgd=>?_
 obtain⟨hg_p0,hg_p1,_⟩:=hgd
 have hl_p0:p0.length≤9223372036854775807:=hg_p0.1
 have hl_p1:p1.length≤9223372036854775807:=hg_p1.1
 have hM:=Qk7.eq_1 p0 p1
 refine ad 13 ?_
 refine cd (fun h1=>?_) (fun h1=>?_)
 ·
  have hM:=hM.trans (bt h1)
  refine ad 4 ?_
  exact rz (rs:=[.tmp 4]) (rzB hM)
 ·
  have hM:=hM.trans (bf h1)
  refine ad 7 ?_
  refine Run.loopM (ι:=Nat) (fun s=>Qfq p0 p1 (p0.length - s) s) (fun s=>⟨27,2,[(0,.sl 0 p0.length),(1,.sl 1 p1.length),(5,.v (.int .i64 (s:Int)))],[(0,.ros Slot instDatSlot p0),(1,.ros Slot instDatSlot p1)]⟩) (fun s=>s≤p0.length) (fun s=>p0.length - s) 0 [0,1] [0,1] hM lv0 su (by decide) ?_
  rintro i hv hE
  try dsimp only at hE
  have hi:=hv
  try dsimp only at hi
  refine ad 8 ?_
  refine cd (fun h2=>?_) (fun h2=>?_)
  ·
   have h2l:i<p0.length:=dtl h2
   have hM:=hE.trans ((congrArg (fun n=>Qfq p0 p1 n i) (sb1 h2l)).trans (Qfq.eq_2 _ _ _ _))
   refine ad 4 ?_
   refine dr 10 fun _ _ _ _ _ hb=>?_
   refine tk [0,1] ?_
   have hg3:=Qai (k:=i) hg_p0 om
   refine tx 2 (dx (xs:=p0) i om) ?_
   refine tk [3,4,5] ?_
   have hg4:=Qai (k:=i) hg_p1 om
   refine tx 6 (dx (xs:=p1) i om) ?_
   refine tk [7] ?_
   have hg5:Dat.good (nth p0 i:Slot):=hg3
   have hg6:Dat.good (nth p1 i:Slot):=hg4
   refine on 8 [4,5] (cl (Q3y (nth p0 i) (nth p1 i)) Yj5) ?_
   refine tk [9] ?_
   refine dn hb ?_
   refine cd (fun h7=>?_) (fun h7=>?_)
   ·
    have hM:=hM.trans (bt h7)
    refine ad 4 ?_
    exact rz (rs:=[.tmp 4]) (rzB hM)
   ·
    have hM:=hM.trans (bf h7)
    refine ad 5 ?_
    rw[Qb3 (i:=i) om]
    refine ad 2 ?_
    exact Run.again (i+1) [0,1] [4,5] ⟨by first | omega | exact trivial | (dsimp only;omega) | (refine⟨by omega,?_⟩;simp_all;try omega),hM⟩ rfl lv1 su (by decide)
  ·
   have h2l: ¬ (i<p0.length):=dfl h2
   have hM:=hE.trans ((congrArg (fun n=>Qfq p0 p1 n i) (sb0 h2l)).trans (Qfq.eq_1 _ _ _))
   refine ad 5 ?_
   exact rz (rs:=[.tmp 4]) (rzB hM)
def Qi5 (p0:Journal) (p1:Journal):Bool:=bif !decide (p0.Text=p1.Text) then false else(bif !decide (p0.Sure=p1.Sure) then false else true)
theorem Qw8 (p0:Journal) (p1:Journal):CTs 97 [.o (.st Journal _ inferInstance p0),.o (.st Journal _ inferInstance p1)] [Re.c (.bool (Qi5 p0 p1))]:=by
 refine en Tryz.func97 Tryz.ntmps97 fun w hG hgd=>?_
 obtain⟨hg_p0,hg_p1,_⟩:=hgd
 have hM:=Qi5.eq_1 p0 p1
 refine ad 15 ?_
 refine cd (fun h1=>?_) (fun h1=>?_)
 ·
  have hM:=hM.trans (bt h1)
  refine ad 4 ?_
  exact rz (rs:=[.tmp 4]) (rzB hM)
 ·
  have hM:=hM.trans (bf h1)
  refine ad 10 ?_
  refine cd (fun h2=>?_) (fun h2=>?_)
  ·
   have hM:=hM.trans (bt h2)
   refine ad 4 ?_
   exact rz (rs:=[.tmp 4]) (rzB hM)
  ·
   have hM:=hM.trans (bf h2)
   refine ad 5 ?_
   exact rz (rs:=[.tmp 4]) (rzB hM)
def Qmd (p0:Disk) (p1:Disk):Bool:=bif !(Qk7 p0.Slots p1.Slots) then false else(bif !(Qi5 p0.Journal p1.Journal) then false else true)
theorem Q30 (p0:Disk) (p1:Disk):CTs 47 [.o (.st Disk _ inferInstance p0),.o (.st Disk _ inferInstance p1)] [Re.c (.bool (Qmd p0 p1))]:=by
 refine en Tryz.func47 Tryz.ntmps47 fun w hG hgd=>?_
 obtain⟨hg_p0,hg_p1,_⟩:=hgd
 have hM:=Qmd.eq_1 p0 p1
 refine ad 13 ?_
 refine op (cl (Q0s p0.Slots p1.Slots) Ymw) ?_
 refine ad 2 ?_
 refine cd (fun h1=>?_) (fun h1=>?_)
 ·
  have hM:=hM.trans (bt h1)
  refine ad 4 ?_
  exact rz (rs:=[.tmp 4]) (rzB hM)
 ·
  have hM:=hM.trans (bf h1)
  refine ad 8 ?_
  have hg2:Dat.good (p0.Journal:Journal):=hg_p0.2
  have hg3:Dat.good (p1.Journal:Journal):=hg_p1.2
  refine op (cl (Qw8 p0.Journal p1.Journal) Ymv) ?_
  refine ad 2 ?_
  refine cd (fun h4=>?_) (fun h4=>?_)
  ·
   have hM:=hM.trans (bt h4)
   refine ad 4 ?_
   exact rz (rs:=[.tmp 4]) (rzB hM)
  ·
   have hM:=hM.trans (bf h4)
   refine ad 5 ?_
   exact rz (rs:=[.tmp 4]) (rzB hM)
def Qkn (p0:Step) (p1:Step):Bool:=bif !decide (p0.Proc=p1.Proc) then false else(bif !(Qjf p0.Call p1.Call) then false else true)
theorem Q3x (p0:Step) (p1:Step):CTs 183 [.o (.st Step _ inferInstance p0),.o (.st Step _ inferInstance p1)] [Re.c (.bool (Qkn p0 p1))]:=by
 refine en Tryz.func183 Tryz.ntmps183 fun w hG hgd=>?_
 obtain⟨hg_p0,hg_p1,_⟩:=hgd
 have hM:=Qkn.eq_1 p0 p1
 refine ad 15 ?_
 refine cd (fun h1=>?_) (fun h1=>?_)
 ·
  have hM:=hM.trans (bt h1)
  refine ad 4 ?_
  exact rz (rs:=[.tmp 4]) (rzB hM)
 ·
  have hM:=hM.trans (bf h1)
  refine ad 8 ?_
  have hg2:Dat.good (p0.Call:Call):=hg_p0.2
  have hg3:Dat.good (p1.Call:Call):=hg_p1.2
  refine op (cl (Qtp p0.Call p1.Call) Yfh) ?_
  refine ad 2 ?_
  refine cd (fun h4=>?_) (fun h4=>?_)
  ·
   have hM:=hM.trans (bt h4)
   refine ad 4 ?_
   exact rz (rs:=[.tmp 4]) (rzB hM)
  ·
   have hM:=hM.trans (bf h4)
   refine ad 5 ?_
   exact rz (rs:=[.tmp 4]) (rzB hM)
def Qfp (p0:List Step) (p1:List Step):Nat→Nat→Bool
 | 0,i=>true
 | n+1,i=>bif !(Qkn (nth p0 i) (nth p1 i)) then false else(Qfp p0 p1 n (i+1))
def Qk6 (p0:List Step) (p1:List Step):Bool:=bif !decide ((p0.length:Int)=(p1.length:Int)) then false else(Qfp p0 p1 (p0.length - 0) 0)
theorem Q0r (p0:List Step) (p1:List Step):CTs 122 [.o (.sl Step instDatStep p0),.o (.sl Step instDatStep p1)] [Re.c (.bool (Qk6 p0 p1))]:=by
 refine en Tryz.func122 Tryz.ntmps122 fun w hG hgd=>?_
 obtain⟨hg_p0,hg_p1,_⟩:=hgd
 have hl_p0:p0.length≤9223372036854775807:=hg_p0.1
 have hl_p1:p1.length≤9223372036854775807:=hg_p1.1
 have hM:=Qk6.eq_1 p0 p1
 refine ad 13 ?_
 refine cd (fun h1=>?_) (fun h1=>?_)
 ·
  have hM:=hM.trans (bt h1)
  refine ad 4 ?_
  exact rz (rs:=[.tmp 4]) (rzB hM)
 ·
  have hM:=hM.trans (bf h1)
  refine ad 7 ?_
  refine Run.loopM (ι:=Nat) (fun s=>Qfp p0 p1 (p0.length - s) s) (fun s=>⟨27,2,[(0,.sl 0 p0.length),(1,.sl 1 p1.length),(5,.v (.int .i64 (s:Int)))],[(0,.ros Step instDatStep p0),(1,.ros Step instDatStep p1)]⟩) (fun s=>s≤p0.length) (fun s=>p0.length - s) 0 [0,1] [0,1] hM lv0 su (by decide) ?_
  rintro i hv hE
  try dsimp only at hE
  have hi:=hv
  try dsimp only at hi
  refine ad 8 ?_
  refine cd (fun h2=>?_) (fun h2=>?_)
  ·
   have h2l:i<p0.length:=dtl h2
   have hM:=hE.trans ((congrArg (fun n=>Qfp p0 p1 n i) (sb1 h2l)).trans (Qfp.eq_2 _ _ _ _))
   refine ad 4 ?_
   refine dr 10 fun _ _ _ _ _ hb=>?_
   refine tk [0,1] ?_
   have hg3:=Qai (k:=i) hg_p0 om
   refine tx 2 (dx (xs:=p0) i om) ?_
   refine tk [3,4,5] ?_
   have hg4:=Qai (k:=i) hg_p1 om
   refine tx 6 (dx (xs:=p1) i om) ?_
   refine tk [7] ?_
   have hg5:Dat.good (nth p0 i:Step):=hg3
   have hg6:Dat.good (nth p1 i:Step):=hg4
   refine on 8 [2,3] (cl (Q3x (nth p0 i) (nth p1 i)) Yj2) ?_
   refine tk [9] ?_
   refine dn hb ?_
   refine cd (fun h7=>?_) (fun h7=>?_)
   ·
    have hM:=hM.trans (bt h7)
    refine ad 4 ?_
    exact rz (rs:=[.tmp 4]) (rzB hM)
   ·
    have hM:=hM.trans (bf h7)
    refine ad 5 ?_
    rw[Qb3 (i:=i) om]
    refine ad 2 ?_
    exact Run.again (i+1) [0,1] [2,3] ⟨by first | omega | exact trivial | (dsimp only;omega) | (refine⟨by omega,?_⟩;simp_all;try omega),hM⟩ rfl lv1 su (by decide)
  ·
   have h2l: ¬ (i<p0.length):=dfl h2
   have hM:=hE.trans ((congrArg (fun n=>Qfp p0 p1 n i) (sb0 h2l)).trans (Qfp.eq_1 _ _ _))
   refine ad 5 ?_
   exact rz (rs:=[.tmp 4]) (rzB hM)
def Qjn (p0:Entry) (p1:Entry):Bool:=bif !decide (p0.Seq=p1.Seq) then false else(bif !decide (p0.Kind=p1.Kind) then false else(bif !decide (p0.Tx=p1.Tx) then false else(bif !(Qk6 p0.Steps p1.Steps) then false else(bif !(Qh5 p0.Answers p1.Answers) then false else(bif !decide (p0.Began=p1.Began) then false else(bif !decide (p0.Ended=p1.Ended) then false else(bif !decide (p0.Laid=p1.Laid) then false else true)))))))
theorem Q0t (p0:Entry) (p1:Entry):CTs 63 [.o (.st Entry _ inferInstance p0),.o (.st Entry _ inferInstance p1)] [Re.c (.bool (Qjn p0 p1))]:=by
 refine en Tryz.func63 Tryz.ntmps63 fun w hG hgd=>?_
 obtain⟨hg_p0,hg_p1,_⟩:=hgd
 have hM:=Qjn.eq_1 p0 p1
 refine ad 15 ?_
 refine cd (fun h1=>?_) (fun h1=>?_)
 ·
  have hM:=hM.trans (bt h1)
  refine ad 4 ?_
  exact rz (rs:=[.tmp 4]) (rzB hM)
 ·
  have hM:=hM.trans (bf h1)
  refine ad 10 ?_
  refine cd (fun h2=>?_) (fun h2=>?_)
  ·
   have hM:=hM.trans (bt h2)
   refine ad 4 ?_
   exact rz (rs:=[.tmp 4]) (rzB hM)
  ·
   have hM:=hM.trans (bf h2)
   refine ad 10 ?_
   refine cd (fun h3=>?_) (fun h3=>?_)
   ·
    have hM:=hM.trans (bt h3)
    refine ad 4 ?_
    exact rz (rs:=[.tmp 4]) (rzB hM)
   ·
    have hM:=hM.trans (bf h3)
    refine ad 8 ?_
    refine op (cl (Q0r p0.Steps p1.Steps) Yk4) ?_
    refine ad 2 ?_
    refine cd (fun h4=>?_) (fun h4=>?_)
    ·
     have hM:=hM.trans (bt h4)
     refine ad 4 ?_
     exact rz (rs:=[.tmp 4]) (rzB hM)
    ·
     have hM:=hM.trans (bf h4)
     refine ad 8 ?_
     refine op (cl (Qo8 p0.Answers p1.Answers) Yfz) ?_
     refine ad 2 ?_
     refine cd (fun h5=>?_) (fun h5=>?_)
     ·
      have hM:=hM.trans (bt h5)
      refine ad 4 ?_
      exact rz (rs:=[.tmp 4]) (rzB hM)
     ·
      have hM:=hM.trans (bf h5)
      refine ad 10 ?_
      refine cd (fun h6=>?_) (fun h6=>?_)
      ·
       have hM:=hM.trans (bt h6)
       refine ad 4 ?_
       exact rz (rs:=[.tmp 4]) (rzB hM)
      ·
       have hM:=hM.trans (bf h6)
       refine ad 10 ?_
       refine cd (fun h7=>?_) (fun h7=>?_)
       ·
        have hM:=hM.trans (bt h7)
        refine ad 4 ?_
        exact rz (rs:=[.tmp 4]) (rzB hM)
       ·
        have hM:=hM.trans (bf h7)
        refine ad 10 ?_
        refine cd (fun h8=>?_) (fun h8=>?_)
        ·
         have hM:=hM.trans (bt h8)
         refine ad 4 ?_
         exact rz (rs:=[.tmp 4]) (rzB hM)
        ·
         have hM:=hM.trans (bf h8)
         refine ad 5 ?_
         exact rz (rs:=[.tmp 4]) (rzB hM)
def Qeu (p0:List Entry) (p1:List Entry):Nat→Nat→Bool
 | 0,i=>true
 | n+1,i=>bif !(Qjn (nth p0 i) (nth p1 i)) then false else(Qeu p0 p1 n (i+1))
def Qj3 (p0:List Entry) (p1:List Entry):Bool:=bif !decide ((p0.length:Int)=(p1.length:Int)) then false else(Qeu p0 p1 (p0.length - 0) 0)
theorem Qza (p0:List Entry) (p1:List Entry):CTs 24 [.o (.sl Entry instDatEntry p0),.o (.sl Entry instDatEntry p1)] [Re.c (.bool (Qj3 p0 p1))]:=by
 refine en Tryz.func24 Tryz.ntmps24 fun w hG hgd=>?_
 obtain⟨hg_p0,hg_p1,_⟩:=hgd
 have hl_p0:p0.length≤9223372036854775807:=hg_p0.1
 have hl_p1:p1.length≤9223372036854775807:=hg_p1.1
 have hM:=Qj3.eq_1 p0 p1
 refine ad 13 ?_
 refine cd (fun h1=>?_) (fun h1=>?_)
 ·
  have hM:=hM.trans (bt h1)
  refine ad 4 ?_
  exact rz (rs:=[.tmp 4]) (rzB hM)
 ·
  have hM:=hM.trans (bf h1)
  refine ad 7 ?_
  refine Run.loopM (ι:=Nat) (fun s=>Qeu p0 p1 (p0.length - s) s) (fun s=>⟨27,2,[(0,.sl 0 p0.length),(1,.sl 1 p1.length),(5,.v (.int .i64 (s:Int)))],[(0,.ros Entry instDatEntry p0),(1,.ros Entry instDatEntry p1)]⟩) (fun s=>s≤p0.length) (fun s=>p0.length - s) 0 [0,1] [0,1] hM lv0 su (by decide) ?_
  rintro i hv hE
  try dsimp only at hE
  have hi:=hv
  try dsimp only at hi
  refine ad 8 ?_
  refine cd (fun h2=>?_) (fun h2=>?_)
  ·
   have h2l:i<p0.length:=dtl h2
   have hM:=hE.trans ((congrArg (fun n=>Qeu p0 p1 n i) (sb1 h2l)).trans (Qeu.eq_2 _ _ _ _))
   refine ad 4 ?_
   refine dr 10 fun _ _ _ _ _ hb=>?_
   refine tk [0,1] ?_
   have hg3:=Qai (k:=i) hg_p0 om
   refine tx 2 (dx (xs:=p0) i om) ?_
   refine tk [3,4,5] ?_
   have hg4:=Qai (k:=i) hg_p1 om
   refine tx 6 (dx (xs:=p1) i om) ?_
   refine tk [7] ?_
   have hg5:Dat.good (nth p0 i:Entry):=hg3
   have hg6:Dat.good (nth p1 i:Entry):=hg4
   refine on 8 [6,7] (cl (Q0t (nth p0 i) (nth p1 i)) Yne) ?_
   refine tk [9] ?_
   refine dn hb ?_
   refine cd (fun h7=>?_) (fun h7=>?_)
   ·
    have hM:=hM.trans (bt h7)
    refine ad 4 ?_
    exact rz (rs:=[.tmp 4]) (rzB hM)
   ·
    have hM:=hM.trans (bf h7)
    refine ad 5 ?_
    rw[Qb3 (i:=i) om]
    refine ad 2 ?_
    exact Run.again (i+1) [0,1] [6,7] ⟨by first | omega | exact trivial | (dsimp only;omega) | (refine⟨by omega,?_⟩;simp_all;try omega),hM⟩ rfl lv1 su (by decide)
  ·
   have h2l: ¬ (i<p0.length):=dfl h2
   have hM:=hE.trans ((congrArg (fun n=>Qeu p0 p1 n i) (sb0 h2l)).trans (Qeu.eq_1 _ _ _))
   refine ad 5 ?_
   exact rz (rs:=[.tmp 4]) (rzB hM)
def Qj2 (p0:Kernel) (p1:Kernel):Bool:=bif !(Qjo p0.Store p1.Store) then false else(bif !(Qn5 p0.Txs p1.Txs) then false else(bif !(Qmd p0.Disk p1.Disk) then false else(bif !decide (p0.Seq=p1.Seq) then false else(bif !decide (p0.Next=p1.Next) then false else(bif !decide (p0.Time=p1.Time) then false else(bif !(Qj3 p0.History p1.History) then false else(bif !(Qhg p0.Seen p1.Seen) then false else(bif !decide (p0.Room=p1.Room) then false else true))))))))
theorem Qy9 (p0:Kernel) (p1:Kernel):CTs 13 [.o (.st Kernel _ inferInstance p0),.o (.st Kernel _ inferInstance p1)] [Re.c (.bool (Qj2 p0 p1))]:=by
 refine en Tryz.func13 Tryz.ntmps13 fun w hG hgd=>?_
 obtain⟨hg_p0,hg_p1,_⟩:=hgd
 have hM:=Qj2.eq_1 p0 p1
 refine ad 13 ?_
 refine op (cl (Qrb p0.Store p1.Store) Yif) ?_
 refine ad 2 ?_
 refine cd (fun h1=>?_) (fun h1=>?_)
 ·
  have hM:=hM.trans (bt h1)
  refine ad 4 ?_
  exact rz (rs:=[.tmp 4]) (rzB hM)
 ·
  have hM:=hM.trans (bf h1)
  refine ad 8 ?_
  refine op (cl (Q6e p0.Txs p1.Txs) Ynl) ?_
  refine ad 2 ?_
  refine cd (fun h2=>?_) (fun h2=>?_)
  ·
   have hM:=hM.trans (bt h2)
   refine ad 4 ?_
   exact rz (rs:=[.tmp 4]) (rzB hM)
  ·
   have hM:=hM.trans (bf h2)
   refine ad 8 ?_
   have hg3:Dat.good (p0.Disk:Disk):=hg_p0.2.2.1
   have hg4:Dat.good (p1.Disk:Disk):=hg_p1.2.2.1
   refine op (cl (Q30 p0.Disk p1.Disk) Ynk) ?_
   refine ad 2 ?_
   refine cd (fun h5=>?_) (fun h5=>?_)
   ·
    have hM:=hM.trans (bt h5)
    refine ad 4 ?_
    exact rz (rs:=[.tmp 4]) (rzB hM)
   ·
    have hM:=hM.trans (bf h5)
    refine ad 10 ?_
    refine cd (fun h6=>?_) (fun h6=>?_)
    ·
     have hM:=hM.trans (bt h6)
     refine ad 4 ?_
     exact rz (rs:=[.tmp 4]) (rzB hM)
    ·
     have hM:=hM.trans (bf h6)
     refine ad 10 ?_
     refine cd (fun h7=>?_) (fun h7=>?_)
     ·
      have hM:=hM.trans (bt h7)
      refine ad 4 ?_
      exact rz (rs:=[.tmp 4]) (rzB hM)
     ·
      have hM:=hM.trans (bf h7)
      refine ad 10 ?_
      refine cd (fun h8=>?_) (fun h8=>?_)
      ·
       have hM:=hM.trans (bt h8)
       refine ad 4 ?_
       exact rz (rs:=[.tmp 4]) (rzB hM)
      ·
       have hM:=hM.trans (bf h8)
       refine ad 8 ?_
       refine op (cl (Qza p0.History p1.History) Ynw) ?_
       refine ad 2 ?_
       refine cd (fun h9=>?_) (fun h9=>?_)
       ·
        have hM:=hM.trans (bt h9)
        refine ad 4 ?_
        exact rz (rs:=[.tmp 4]) (rzB hM)
       ·
        have hM:=hM.trans (bf h9)
        refine ad 8 ?_
        refine op (cl (Qlm p0.Seen p1.Seen) Yhb) ?_
        refine ad 2 ?_
        refine cd (fun h10=>?_) (fun h10=>?_)
        ·
         have hM:=hM.trans (bt h10)
         refine ad 4 ?_
         exact rz (rs:=[.tmp 4]) (rzB hM)
        ·
         have hM:=hM.trans (bf h10)
         refine ad 10 ?_
         refine cd (fun h11=>?_) (fun h11=>?_)
         ·
          have hM:=hM.trans (bt h11)
          refine ad 4 ?_
          exact rz (rs:=[.tmp 4]) (rzB hM)
         ·
          have hM:=hM.trans (bf h11)
          refine ad 5 ?_
          exact rz (rs:=[.tmp 4]) (rzB hM)
end
section
def toL {α:Type} [Inhabited α] (f:α→α) (xs:List α):Nat→List α→Nat→List α
 | 0,w,_=>w
 | n+1,w,i=>toL f xs n (w.set i (f (nth xs i))) (i+1)
theorem Qsb {α:Type} [Inhabited α] {f:α→α} (hf: ∀ x,f x=x) (xs:List α): ∀ n w i,n=xs.length - i→w.length=xs.length→(∀ j,j<i→w[j]?=xs[j]?)→toL f xs n w i=xs:=by
 intro n
 induction n with
 | zero =>
  intro w i h hl hj
  show w=xs
  apply List.ext_getElem?
  intro j
  rcases Nat.lt_or_ge j i with h1 | h1
  ·exact hj j h1
  ·rw[List.getElem?_eq_none (by omega),List.getElem?_eq_none (by omega)]
 | succ n ih =>
  intro w i h hl hj
  rw[toL]
  refine ih _ (i+1) (by omega) (by rw[List.length_set];exact hl) fun j hji=>?_
  rcases Nat.lt_or_ge j i with h1 | h1
  ·rw[List.getElem?_set_ne (by omega)]
   exact hj j h1
  ·obtain rfl : j = i := by omega
   rw[List.getElem?_set_self (by omega),hf]
   unfold nth
   rw[List.getD_eq_getElem?_getD,List.getElem?_eq_getElem (by omega:j<xs.length)]
   rfl
def eqL {α:Type} [Inhabited α] (f:α→α→Bool) (xs ys:List α):Nat→Nat→Bool
 | 0,_=>true
 | n+1,i=>bif !(f (nth xs i) (nth ys i)) then false else eqL f xs ys n (i+1)
theorem Qlt {α:Type} [Inhabited α] {f:α→α→Bool} (hf: ∀ x,f x x=true) (xs:List α): ∀ n i,eqL f xs xs n i=true:=by
 intro n
 induction n with
 | zero=>intro i;rfl
 | succ n ih=>intro i;rw[eqL,hf,ih];rfl
theorem Qz3 (p0:Cell):Qig p0=p0:=by
 unfold Qig
 rfl
theorem Qsr (p0:List Cell): ∀ n w i,Qfh p0 n w i=toL (Qig) p0 n w i:=by
 intro n
 induction n with
 | zero=>intro w i;rfl
 | succ n ih=>intro w i;rw[Qfh,toL,ih]
theorem Qpx (p0:List Cell):Qhq p0=p0:=by
 unfold Qhq
 rw[Qsr]
 exact Qsb (Qz3) p0 _ _ 0 rfl (by rw[length_replicate]) fun j hj=>by omega
theorem Qq1 (p0:Call):Qhf p0=p0:=by
 unfold Qhf
 rfl
theorem Qss (p0:List Call): ∀ n w i,Qfi p0 n w i=toL (Qhf) p0 n w i:=by
 intro n
 induction n with
 | zero=>intro w i;rfl
 | succ n ih=>intro w i;rw[Qfi,toL,ih]
theorem Qyf (p0:List Call):Qjm p0=p0:=by
 unfold Qjm
 rw[Qss]
 exact Qsb (Qq1) p0 _ _ 0 rfl (by rw[length_replicate]) fun j hj=>by omega
theorem Qwq (p0:Answer):Qg8 p0=p0:=by
 unfold Qg8
 rfl
theorem Qqp (p0:List Answer): ∀ n w i,Qd7 p0 n w i=toL (Qg8) p0 n w i:=by
 intro n
 induction n with
 | zero=>intro w i;rfl
 | succ n ih=>intro w i;rw[Qd7,toL,ih]
theorem Qn3 (p0:List Answer):Qgp p0=p0:=by
 unfold Qgp
 rw[Qqp]
 exact Qsb (Qwq) p0 _ _ 0 rfl (by rw[length_replicate]) fun j hj=>by omega
theorem Qqo (p0:List ByteArray): ∀ n w i,Qd5 p0 n w i=toL (fun x=>x) p0 n w i:=by
 intro n
 induction n with
 | zero=>intro w i;rfl
 | succ n ih=>intro w i;rw[Qd5,toL,ih]
theorem Qn2 (p0:List ByteArray):Qe8 p0=p0:=by
 unfold Qe8
 rw[Qqo]
 exact Qsb (fun _=>rfl) p0 _ _ 0 rfl (by rw[length_replicate]) fun j hj=>by omega
theorem Qyb (p0:Touch):Qjj p0=p0:=by
 unfold Qjj
 simp only[Qn2]
theorem Qt7 (p0:List Int): ∀ n w i,Qf3 p0 n w i=toL (fun x=>x) p0 n w i:=by
 intro n
 induction n with
 | zero=>intro w i;rfl
 | succ n ih=>intro w i;rw[Qf3,toL,ih]
theorem Qz1 (p0:List Int):Qkl p0=p0:=by
 unfold Qkl
 rw[Qt7]
 exact Qsb (fun _=>rfl) p0 _ _ 0 rfl (by rw[length_replicate]) fun j hj=>by omega
theorem Q5u (p0:Tx):Qk4 p0=p0:=by
 unfold Qk4
 simp only[Qn3,Qyf,Qz1,Qyb]
theorem Qwo (p0:List Tx): ∀ n w i,Qgk p0 n w i=toL (Qk4) p0 n w i:=by
 intro n
 induction n with
 | zero=>intro w i;rfl
 | succ n ih=>intro w i;rw[Qgk,toL,ih]
theorem Q26 (p0:List Tx):Ql1 p0=p0:=by
 unfold Ql1
 rw[Qwo]
 exact Qsb (Q5u) p0 _ _ 0 rfl (by rw[length_replicate]) fun j hj=>by omega
theorem Qz0 (p0:Slot):Qif p0=p0:=by
 unfold Qif
 simp only[Qpx]
theorem Qsq (p0:List Slot): ∀ n w i,Qfg p0 n w i=toL (Qif) p0 n w i:=by
 intro n
 induction n with
 | zero=>intro w i;rfl
 | succ n ih=>intro w i;rw[Qfg,toL,ih]
theorem Qyd (p0:List Slot):Qjl p0=p0:=by
 unfold Qjl
 rw[Qsq]
 exact Qsb (Qz0) p0 _ _ 0 rfl (by rw[length_replicate]) fun j hj=>by omega
theorem Qt6 (p0:Journal):Qh4 p0=p0:=by
 unfold Qh4
 rfl
theorem Qz2 (p0:Disk):Qkm p0=p0:=by
 unfold Qkm
 simp only[Qt6,Qyd]
theorem Qzz (p0:Step):Qie p0=p0:=by
 unfold Qie
 simp only[Qq1]
theorem Qsp (p0:List Step): ∀ n w i,Qff p0 n w i=toL (Qie) p0 n w i:=by
 intro n
 induction n with
 | zero=>intro w i;rfl
 | succ n ih=>intro w i;rw[Qff,toL,ih]
theorem Qyc (p0:List Step):Qjk p0=p0:=by
 unfold Qjk
 rw[Qsp]
 exact Qsb (Qzz) p0 _ _ 0 rfl (by rw[length_replicate]) fun j hj=>by omega
theorem Qye (p0:Entry):Qhp p0=p0:=by
 unfold Qhp
 simp only[Qn3,Qyc]
theorem Qrt (p0:List Entry): ∀ n w i,Qes p0 n w i=toL (Qhp) p0 n w i:=by
 intro n
 induction n with
 | zero=>intro w i;rfl
 | succ n ih=>intro w i;rw[Qes,toL,ih]
theorem Qwp (p0:List Entry):Qiw p0=p0:=by
 unfold Qiw
 rw[Qrt]
 exact Qsb (Qye) p0 _ _ 0 rfl (by rw[length_replicate]) fun j hj=>by omega
theorem Qo0 (p0:Kernel):Qd6 p0=p0:=by
 unfold Qd6
 simp only[Qpx,Qz2,Qwp,Qn2,Q26]
theorem Qwy (p0:Cell):Qkp p0 p0=true:=by
 unfold Qkp
 simp only[decide_true,Bool.not_true,cond_false]
theorem Qs6 (p0 p1:List Cell): ∀ n i,Qfr p0 p1 n i=eqL (Qkp) p0 p1 n i:=by
 intro n
 induction n with
 | zero=>intro i;rfl
 | succ n ih=>intro i;rw[Qfr,eqL,ih]
theorem Qn7 (p0:List Cell):Qjo p0 p0=true:=by
 unfold Qjo
 rw[decide_eq_true rfl,Qs6]
 exact Qlt (Qwy) _ _ _
theorem Qo1 (p0:Call):Qjf p0 p0=true:=by
 unfold Qjf
 simp only[decide_true,Bool.not_true,cond_false]
theorem Qs7 (p0 p1:List Call): ∀ n i,Qfs p0 p1 n i=eqL (Qjf) p0 p1 n i:=by
 intro n
 induction n with
 | zero=>intro i;rfl
 | succ n ih=>intro i;rw[Qfs,eqL,ih]
theorem Qui (p0:List Call):Qk8 p0 p0=true:=by
 unfold Qk8
 rw[decide_eq_true rfl,Qs7]
 exact Qlt (Qo1) _ _ _
theorem Qs8 (p0:Answer):Qiy p0 p0=true:=by
 unfold Qiy
 simp only[decide_true,Bool.not_true,cond_false]
theorem Qqu (p0 p1:List Answer): ∀ n i,Qec p0 p1 n i=eqL (Qiy) p0 p1 n i:=by
 intro n
 induction n with
 | zero=>intro i;rfl
 | succ n ih=>intro i;rw[Qec,eqL,ih]
theorem Qme (p0:List Answer):Qh5 p0 p0=true:=by
 unfold Qh5
 rw[decide_eq_true rfl,Qqu]
 exact Qlt (Qs8) _ _ _
theorem Qqt (p0 p1:List ByteArray): ∀ n i,Qeb p0 p1 n i=eqL (fun a b=>decide (a=b)) p0 p1 n i:=by
 intro n
 induction n with
 | zero=>intro i;rfl
 | succ n ih=>intro i;rw[Qeb,eqL,ih]
theorem Qmb (p0:List ByteArray):Qhg p0 p0=true:=by
 unfold Qhg
 rw[decide_eq_true rfl,Qqt]
 exact Qlt (fun x=>by simp) _ _ _
theorem Qud (p0:Touch):Qk5 p0 p0=true:=by
 unfold Qk5
 simp only[decide_true,Bool.not_true,cond_false,Qmb]
theorem Qug (p0 p1:List Int): ∀ n i,Qf5 p0 p1 n i=eqL (fun a b=>decide (a=b)) p0 p1 n i:=by
 intro n
 induction n with
 | zero=>intro i;rfl
 | succ n ih=>intro i;rw[Qf5,eqL,ih]
theorem Qww (p0:List Int):Qmc p0 p0=true:=by
 unfold Qmc
 rw[decide_eq_true rfl,Qug]
 exact Qlt (fun x=>by simp) _ _ _
theorem Qz4 (p0:Tx):Qn6 p0 p0=true:=by
 unfold Qn6
 simp only[decide_true,Bool.not_true,cond_false,Qme,Qui,Qww,Qud]
theorem Qwt (p0 p1:List Tx): ∀ n i,Qgm p0 p1 n i=eqL (Qn6) p0 p1 n i:=by
 intro n
 induction n with
 | zero=>intro i;rfl
 | succ n ih=>intro i;rw[Qgm,eqL,ih]
theorem Qyh (p0:List Tx):Qn5 p0 p0=true:=by
 unfold Qn5
 rw[decide_eq_true rfl,Qwt]
 exact Qlt (Qz4) _ _ _
theorem Qwv (p0:Slot):Qko p0 p0=true:=by
 unfold Qko
 simp only[decide_true,Bool.not_true,cond_false,Qn7]
theorem Qs3 (p0 p1:List Slot): ∀ n i,Qfq p0 p1 n i=eqL (Qko) p0 p1 n i:=by
 intro n
 induction n with
 | zero=>intro i;rfl
 | succ n ih=>intro i;rw[Qfq,eqL,ih]
theorem Quf (p0:List Slot):Qk7 p0 p0=true:=by
 unfold Qk7
 rw[decide_eq_true rfl,Qs3]
 exact Qlt (Qwv) _ _ _
theorem Qrz (p0:Journal):Qi5 p0 p0=true:=by
 unfold Qi5
 simp only[decide_true,Bool.not_true,cond_false]
theorem Qwx (p0:Disk):Qmd p0 p0=true:=by
 unfold Qmd
 simp only[decide_true,Bool.not_true,cond_false,Qrz,Quf]
theorem Qwu (p0:Step):Qkn p0 p0=true:=by
 unfold Qkn
 simp only[decide_true,Bool.not_true,cond_false,Qo1]
theorem Qs2 (p0 p1:List Step): ∀ n i,Qfp p0 p1 n i=eqL (Qkn) p0 p1 n i:=by
 intro n
 induction n with
 | zero=>intro i;rfl
 | succ n ih=>intro i;rw[Qfp,eqL,ih]
theorem Que (p0:List Step):Qk6 p0 p0=true:=by
 unfold Qk6
 rw[decide_eq_true rfl,Qs2]
 exact Qlt (Qwu) _ _ _
theorem Quh (p0:Entry):Qjn p0 p0=true:=by
 unfold Qjn
 simp only[decide_true,Bool.not_true,cond_false,Qme,Que]
theorem Qr0 (p0 p1:List Entry): ∀ n i,Qeu p0 p1 n i=eqL (Qjn) p0 p1 n i:=by
 intro n
 induction n with
 | zero=>intro i;rfl
 | succ n ih=>intro i;rw[Qeu,eqL,ih]
theorem Qs5 (p0:List Entry):Qj3 p0 p0=true:=by
 unfold Qj3
 rw[decide_eq_true rfl,Qr0]
 exact Qlt (Quh) _ _ _
theorem Qs4 (p0:Kernel):Qj2 p0 p0=true:=by
 unfold Qj2
 simp only[decide_true,Bool.not_true,cond_false,Qn7,Qwx,Qs5,Qmb,Qyh]
end
section
theorem fok9:FnOk Tryz.prog 9:=⟨_,Tryz.func9,rfl,by kernel_rfl⟩
theorem Yhc:FnOk Tryz.prog 11:=⟨_,Tryz.func11,rfl,by kernel_rfl⟩
theorem Ynx:FnOk Tryz.prog 13:=⟨_,Tryz.func13,rfl,by kernel_rfl⟩
theorem Ynv:FnOk Tryz.prog 29:=⟨_,Tryz.func29,rfl,by kernel_rfl⟩
theorem Ynu:FnOk Tryz.prog 30:=⟨_,Tryz.func30,rfl,by kernel_rfl⟩
def Qga (p0:Kernel) (p1:Int):Bool:=bif decide ((Qg9 p0 1048576)<0) then true else(bif !decide ((Qi7 (Qd6 p0) p1)=(Qi3 (Qd6 p0) p1)) then false else(bif !(Qj2 (Qd6 p0) (Qd6 p0)) then false else true))
theorem Qow (p0:Kernel) (p1:Int):CTs 8 [.o (.st Kernel _ inferInstance p0),.o (.c (.int .i64 p1))] [Re.c (.bool (Qga p0 p1))]:=by
 refine en Tryz.func8 Tryz.ntmps8 fun w hG hgd=>?_
 obtain⟨hg_p0,_⟩:=hgd
 have hM:=Qga.eq_1 p0 p1
 refine ad 13 ?_
 refine op (cl (Qy6 p0 1048576) fok9) ?_
 refine ad 8 ?_
 refine cd (fun h1=>?_) (fun h1=>?_)
 ·
  have hM:=hM.trans (bt h1)
  refine ad 4 ?_
  exact rz (rs:=[.tmp 4]) (rzB hM)
 ·
  have hM:=hM.trans (bf h1)
  have hsm:=(Qrv p0 1048576 (by decide) (by decide) hg_p0 (of_decide_eq_false h1)).1
  have hsm2:Dat.small 1048576 (Qd6 p0):=by rw[Qo0];exact hsm
  refine ad 4 ?_
  refine og (clg (Qmq p0 (by first | assumption | exact Qcv hs (by omega))) Yhc) fun hgq=>?_
  obtain⟨hg2,_⟩:=hgq
  refine ad 1 ?_
  refine op (cl (Qw5 (Qd6 p0) p1 (by first | assumption | exact hsm2)) Ynv) ?_
  refine ad 5 ?_
  refine og (clg (Qmq p0 (by first | assumption | exact Qcv hs (by omega))) Yhc) fun hgq=>?_
  obtain⟨hg3,_⟩:=hgq
  refine ad 7 ?_
  refine op (cl (Qxf (Qd6 p0) p1 (by first | assumption | exact hsm2)) Ynu) ?_
  refine ad 9 ?_
  refine cd (fun h4=>?_) (fun h4=>?_)
  ·
   have hM:=hM.trans (bt h4)
   refine ad 4 ?_
   exact rz (rs:=[.tmp 4]) (rzB hM)
  ·
   have hM:=hM.trans (bf h4)
   refine ad 3 ?_
   refine dr 5 fun _ _ _ _ _ hb=>?_
   refine tk [0,1] ?_
   refine ong 2 [5,6,7,8,9,10,11,12,13,14,15,16,17,18,19,20,21] (clg (Qmq p0 (by first | assumption | exact Qcv hs (by omega))) Yhc) fun hgq=>?_
   obtain⟨hg5,_⟩:=hgq
   refine on 3 [5,6,7,8,9,10,11,12,13,14,15,16,17,18,19,20,21] (cl (Qy9 (Qd6 p0) (Qd6 p0)) Ynx) ?_
   refine tk [4] ?_
   refine dn hb ?_
   refine cd (fun h6=>?_) (fun h6=>?_)
   ·
    have hM:=hM.trans (bt h6)
    refine ad 4 ?_
    exact rz (rs:=[.tmp 4]) (rzB hM)
   ·
    have hM:=hM.trans (bf h6)
    refine ad 5 ?_
    exact rz (rs:=[.tmp 4]) (rzB hM)
end
section
theorem Ydc (p0 p1:List Call): ∀ n i,Qc3 p0 p1 n i=Qen p0 p1 n i:=by
 intro n
 induction n with
 | zero=>intro i;rfl
 | succ n ih=>intro i;rw[Qc3,Qen,ih]
theorem Qzt (p0 p1:List Answer): ∀ n i,Qcj p0 p1 n i=Qde p0 p1 n i:=by
 intro n
 induction n with
 | zero=>intro i;rfl
 | succ n ih=>intro i;rw[Qcj,Qde,ih]
theorem Yew (p0 p1:List Int): ∀ n i,Qdf p0 p1 n i=Qe9 p0 p1 n i:=by
 intro n
 induction n with
 | zero=>intro i;rfl
 | succ n ih=>intro i;rw[Qdf,Qe9,ih]
theorem Yda (p0 p1:List Step): ∀ n i,Qc1 p0 p1 n i=Qd4 p0 p1 n i:=by
 intro n
 induction n with
 | zero=>intro i;rfl
 | succ n ih=>intro i;rw[Qc1,Qd4,ih]
theorem Q7r (a b:Tx):Qmi a b=Qkg a b:=by
 unfold Qmi Qkg Qg2 Qku Qks Qit Qlo Qgw Qg1 Qi9 Qm1
 rw[Ydc,Qzt,Yew,Qu3,Qu3]
theorem Qzy (a b:Entry):Qi6 a b=Qgr a b:=by
 unfold Qi6 Qgr Qkv Qg2 Qir Qkt Qgw Qg1
 rw[Yda,Qzt]
 simp only[Bool.and_assoc,Bool.and_comm,Bool.and_left_comm]
theorem Ydb (a b:Disk): ∀ n i,Qby a.Slots b.Slots n i=Qeo a b n i:=by
 intro n
 induction n with
 | zero=>intro i;rfl
 | succ n ih =>
  intro i
  rw[Qby,Qeo,ih]
  unfold Qj5
  rw[Qrg]
  cases decide ((nth a.Slots i).Seq=(nth b.Slots i).Seq)<;>cases decide ((nth a.Slots i).Whole=(nth b.Slots i).Whole)<;>cases Qhe (nth a.Slots i).Cells (nth b.Slots i).Cells<;>rfl
theorem Q37 (a b:Disk):Qj6 a b=Qjx a b:=by
 unfold Qj6 Qjx Qg7
 rw[Ydb]
 cases decide (a.Journal=b.Journal)<;>cases decide ((a.Slots.length:Int)=(b.Slots.length:Int))<;>rfl
theorem Yax (a b:Kernel) (i:Nat) (k:Unit→Bool): ∀ n j,Qdr a b i k n j=(Qbl a.History b.History n j&&k ()):=by
 intro n
 induction n with
 | zero=>intro j;rfl
 | succ n ih =>
  intro j
  rw[Qdr,Qbl,ih,Qzy]
  cases Qgr (nth a.History j) (nth b.History j)<;>rfl
theorem Yhn (a b:Kernel): ∀ n i,Qc9 a b n i=(Qck a.Txs b.Txs n i&&Qbl a.History b.History (a.History.length - 0) 0):=by
 intro n
 induction n with
 | zero=>intro i;rw[Qc9,Yax,Bool.and_true];rfl
 | succ n ih =>
  intro i
  rw[Qc9,Qck,ih,Q7r]
  cases Qkg (nth a.Txs i) (nth b.Txs i)<;>rfl
theorem Ybh: ∀ S D q n t r s L M X Y:Bool,((((((((S&&(bif !L then false else X))&&D)&&q)&&n)&&t)&&(bif !M then false else Y))&&s)&&r)=(bif ((((((((!S)||(!L))||(!D))||(!q))||(!n))||(!t))||(!r))||(!M))||(!s) then false else(X&&Y)):=by decide +kernel
theorem Qzm (a b:Kernel):Qii a b=Qid a b:=by
 unfold Qii Qid Qhu Qjb Qg0
 rw[Yhn,Qrg,Q37,Qu3]
 exact Ybh _ _ _ _ _ _ _ _ _ _ _
theorem Q04 {k:Kernel} (hg:Dat.good k.Txs) (p:Int):Qi7 k p=Qi3 k p:=by
 have h:=Qqv hg p
 unfold Qi7 Qi3
 rw[Qzm,Qmt h p,Qmt hg p]
end
section
theorem Q4f {P:Program} {W:World} {H:Type} {enc:TypeId×Value→H} {sp:Nat→Bool} {b:Bool} {fuel t g:Nat} {x:List MemPlace} {cs:Array Value} {nm nm2:String} {d:DataW H} {ms:Array (String×TypeId)}
  (hg:P.globalNamed nm=some g) (hu:P.underlying t=some (.interface ms)) (hv:W.var? P nm=some cs) (hd:DataW.trod enc P W 0 sp b fuel t cs.toList=some (.iface nm2 d,x)):GE g W:=by
 have key: ∃ u v,cs.toList=[.iface u v]:=by
  cases fuel with
  | zero=>simp[DataW.trod] at hd
  | succ n =>
   generalize cs.toList=l at hd ⊢
   rcases l with _ | ⟨c,_ | ⟨c2,r⟩⟩
   ·simp[DataW.trod,hu] at hd
   ·cases c<;>first | exact⟨_,_,rfl⟩ | simp[DataW.trod,hu] at hd
   ·simp[DataW.trod,hu] at hd
 obtain⟨u,v,e⟩:=key
 obtain⟨T,fr,h⟩:=Yey hg hv e
 refine⟨u,v,?_⟩
 simp[World.cell?,h]
end
end Go.Proofs.YtppialklomgajaaGreatDoor.Fw
