/-
  The texts V6, V7, VQ, V8, M0, M1, M3, BM, VM, BH, W1, HZ, HP of this proof, one behind the other: what each proves stands at its head. No condition.
-/
import Derived.Test.YtppialklomgajaaGreatDoorSHA
import Derived.Test.YtppialklomgajaaGreatDoorSHB
import Derived.Test.YtppialklomgajaaGreatDoorSHC
import Derived.Test.YtppialklomgajaaGreatDoorSHD
set_option linter.unusedVariables false
set_option linter.unusedSimpArgs false
set_option maxRecDepth 100000
namespace Go.Proofs.YtppialklomgajaaGreatDoor.Fw
open Go.RowKit
open IntKind (i64)
open List (append_nil nil_append length_append length_nil length_cons append_assoc flatMap_cons flatMap_nil)
section
theorem Ytq:FnOk Tryz.prog 58:=⟨_,Tryz.func58,rfl,by kernel_rfl⟩
theorem Ytp:FnOk Tryz.prog 59:=⟨_,Tryz.func59,rfl,by kernel_rfl⟩
theorem Yq4:FnOk Tryz.prog 119:=⟨_,Tryz.func119,rfl,by kernel_rfl⟩
theorem Qob:FnOk Tryz.prog 120:=⟨_,Tryz.func120,rfl,by kernel_rfl⟩
theorem Qoa:FnOk Tryz.prog 121:=⟨_,Tryz.func121,rfl,by kernel_rfl⟩
def Qie (p0:Entry):Entry:=(Entry.mk p0.Seq p0.Kind p0.Tx (([]:List Step)++p0.Steps) (([]:List Answer)++p0.Answers) p0.Began p0.Ended p0.Laid)
theorem Qz3 (p0:Entry) (hs:Dat.small 1048576 p0):CTs 59 [.o (.st Entry _ inferInstance p0)] [Re.st Entry _ inferInstance (Qie p0)]:=by
 refine en Tryz.func59 Tryz.ntmps59 fun w hG hgd=>?_
 obtain⟨hg_p0,_⟩:=hgd
 have hM:=Qie.eq_1 p0
 have hs2:p0.Steps.length≤1048576:=hs.2.2.2.1.1
 have hs3:p0.Answers.length≤1048576:=hs.2.2.2.2.1.1
 refine ad 7 ?_
 refine op (l0) ?_
 refine ad 2 ?_
 refine li 4 (d:=instDatStep) ([]:List Step) ?_
 refine op (aS (dα:=instDatStep) (e:=151) (by':=80) ([]:List Step) p0.Steps [4] (hb:=by(try simp only[List.length_append,List.length_cons,List.length_nil]);first | omega | exact om) (hm:=by(try simp only[List.length_append,List.length_cons,List.length_nil]);first | omega | exact om)) ?_
 refine ad 5 ?_
 refine op (l0) ?_
 refine ad 2 ?_
 refine li 6 (d:=instDatAnswer) ([]:List Answer) ?_
 refine op (aS (dα:=instDatAnswer) (e:=154) (by':=32) ([]:List Answer) p0.Answers [6] (hb:=by(try simp only[List.length_append,List.length_cons,List.length_nil]);first | omega | exact om) (hm:=by(try simp only[List.length_append,List.length_cons,List.length_nil]);first | omega | exact om)) ?_
 refine ad 8 ?_
 refine gd 7 fun hg1=>?_
 refine gd 5 fun hg2=>?_
 refine gd 0 fun hg3=>?_
 refine gd 1 fun hg4=>?_
 have hg5:Dat.good (Entry.mk p0.Seq p0.Kind p0.Tx (([]:List Step)++p0.Steps) (([]:List Answer)++p0.Answers) p0.Began p0.Ended p0.Laid:Entry):=⟨hg_p0.1,hg_p0.2.1,hg_p0.2.2.1,hg2,hg1,hg_p0.2.2.2.2.2.1,hg_p0.2.2.2.2.2.2.1,hg_p0.2.2.2.2.2.2.2⟩
 exact rz (rs:=[.cell 2 80]) (congrArg (fun x=>[Re.st Entry _ inferInstance x]) hM)
def Qc5 (p0:List Entry):Nat→Nat→(List Entry)
 | 0,i=>p0
 | n+1,i=>Qc5 p0 n (i+1)
def Qg1 (p0:List Entry):(List Entry):=Qc5 p0 (p0.length - 0) 0
theorem Qqs (p0:List Entry) (hs:Dat.small 1048576 p0):CTs 61 [.o (.sl Entry instDatEntry p0)] [Re.sl Entry instDatEntry (Qg1 p0)]:=by
 refine CT.ofP Yko Tryz.func61 rfl Tryz.ntmps61 rfl fun w hG p hgd hfa=>?_
 show Run (cx Tryz.f61 (Bs.old w hG) (Old w) w (Keep.refl _ _) (fun _ h=>h) (fun _ h=>h)) _ ⟨34,1,[(0,.sl 0 p0.length)],[(0,.ros Entry instDatEntry p0),(0,.pin (p 0))]⟩ _
 have hrd0:=Yo8 (p:=p) (m:=1) (k:=0) (hfa (0,.ros Entry instDatEntry p0) (by first | exact List.mem_cons_self | exact List.mem_cons_of_mem _ List.mem_cons_self)) (by decide)
 obtain⟨hg_p0,_⟩:=hgd
 have hl_p0:p0.length≤9223372036854775807:=hg_p0.1
 have hM:=Qg1.eq_1 p0
 have hs1:p0.length≤1048576:=hs.1
 refine ad 7 ?_
 refine op (xc (p 0) Ylo Yq4 hrd0 (by omega)) ?_
 refine ad 10 ?_
 refine Run.cvA 1 (MixP (Old w) w p0 0 3) (fun _ _ h=>MixP.flat rfl rfl (MixP.flat rfl rfl (MixP.flat rfl rfl (h)))) ?_
 refine Run.loopM (ι:=Nat) (fun s=>Qc5 p0 (p0.length - s) s) (fun s=>⟨34,1,[(3,.sl 0 p0.length),(8,.v (.int .i64 (p0.length:Int))),(9,.v (.int .i64 (s:Int)))],[(0,.any (MixP (Old w) w p0 s 3))]⟩) (fun s=>s≤p0.length) (fun s=>p0.length - s) 0 [1] [0] hM lv0 su (by decide) ?_
 rintro i hv hE
 try dsimp only at hE
 have hi:=hv
 try dsimp only at hi
 refine ad 5 ?_
 refine cd (fun h1=>?_) (fun h1=>?_)
 ·
  have h1l:i<p0.length:=by have:=of_decide_eq_true h1;omega
  have hM:=hE.trans ((congrArg (fun n=>Qc5 p0 n i) (show p0.length - i=(p0.length - (i+1))+1 by omega)).trans (Qc5.eq_2 _ _ _))
  have hs2:(nth p0 i).Steps.length≤1048576:=(Qcf hs (by omega)).2.2.2.1.1
  have hs3:(nth p0 i).Answers.length≤1048576:=(Qcf hs (by omega)).2.2.2.2.1.1
  refine ad 8 ?_
  refine Run.mid ⟨34,1,[(3,.sl 0 p0.length),(8,.v (.int .i64 (p0.length:Int))),(9,.v (.int .i64 (i:Int)))],[(0,.any (MixP (Old w) w p0 i 5))]⟩ ?_ ?_
  ·
   refine ds 22 [] fun _ _ _ _ _ hb=>?_
   refine tk [0,1,2,3,4,5,10,11] ?_
   refine o2 6 12 ?_ ?_
   ·
    refine on1 6 [] (xi (xs:=p0) i om) ?_
    refine tk [7] ?_
    refine o2 8 12 ?_ ?_
    ·
     refine on1 8 [] (xl (xs:=p0) (i:=i) (k:=3) i 3 Entry.Steps (nth p0 i) (Qfk om) (by unfold mst;simp)) ?_
     refine o2 9 12 ?_ ?_
     ·
      refine ong1 9 [] (clg (Qcs ((nth p0 i).Steps) lv2) Qob) fun hgq=>?_
      obtain⟨hg2,_⟩:=hgq
      refine on 12 [] (xi (xs:=p0) i om) ?_
      refine tk [13] ?_
      refine on 14 [] (xl (xs:=p0) (i:=i) (k:=3) i 4 Entry.Answers (nth p0 i) (Qfk om) (by unfold mst;simp)) ?_
      refine ong 15 [] (clg (Qb7 ((nth p0 i).Answers) lv2) Qoa) fun hgq=>?_
      obtain⟨hg3,_⟩:=hgq
      refine on 16 [] (xi (xs:=p0) i om) ?_
      refine tk [17] ?_
      refine on 18 [] (xs' (xs:=p0) (zs:=(Qb8 ((nth p0 i).Steps))) Entry.Steps (nth p0 i) (Qfk om) (by first | rfl | exact nil_append _)) ?_
      refine on 19 [] (xi (xs:=p0) i om) ?_
      refine tk [20] ?_
      refine on 21 [] (xs' (xs:=p0) (zs:=(Qbt ((nth p0 i).Answers))) Entry.Answers (nth p0 i) (Qfk om) (by first | rfl | exact nil_append _)) ?_
      refine dn hb ?_
      exact Run.at [6] [0] su (by decide)
     ·
      refine on1 12 [] (xi (xs:=p0) i om) ?_
      refine tk [13] ?_
      refine o2 9 14 ?_ ?_
      ·
       refine ong1 9 [] (clg (Qcs ((nth p0 i).Steps) lv2) Qob) fun hgq=>?_
       obtain⟨hg4,_⟩:=hgq
       refine on 14 [] (xl (xs:=p0) (i:=i) (k:=3) i 4 Entry.Answers (nth p0 i) (Qfk om) (by unfold mst;simp)) ?_
       refine ong 15 [] (clg (Qb7 ((nth p0 i).Answers) lv2) Qoa) fun hgq=>?_
       obtain⟨hg5,_⟩:=hgq
       refine on 16 [] (xi (xs:=p0) i om) ?_
       refine tk [17] ?_
       refine on 18 [] (xs' (xs:=p0) (zs:=(Qb8 ((nth p0 i).Steps))) Entry.Steps (nth p0 i) (Qfk om) (by first | rfl | exact nil_append _)) ?_
       refine on 19 [] (xi (xs:=p0) i om) ?_
       refine tk [20] ?_
       refine on 21 [] (xs' (xs:=p0) (zs:=(Qbt ((nth p0 i).Answers))) Entry.Answers (nth p0 i) (Qfk om) (by first | rfl | exact nil_append _)) ?_
       refine dn hb ?_
       exact Run.at [6] [0] su (by decide)
      ·
       refine on1 14 [] (xl (xs:=p0) (i:=i) (k:=3) i 4 Entry.Answers (nth p0 i) (Qfk om) (by unfold mst;simp)) ?_
       refine ong 9 [] (clg (Qcs ((nth p0 i).Steps) lv2) Qob) fun hgq=>?_
       obtain⟨hg6,_⟩:=hgq
       refine ong 15 [] (clg (Qb7 ((nth p0 i).Answers) lv2) Qoa) fun hgq=>?_
       obtain⟨hg7,_⟩:=hgq
       refine on 16 [] (xi (xs:=p0) i om) ?_
       refine tk [17] ?_
       refine on 18 [] (xs' (xs:=p0) (zs:=(Qb8 ((nth p0 i).Steps))) Entry.Steps (nth p0 i) (Qfk om) (by first | rfl | exact nil_append _)) ?_
       refine on 19 [] (xi (xs:=p0) i om) ?_
       refine tk [20] ?_
       refine on 21 [] (xs' (xs:=p0) (zs:=(Qbt ((nth p0 i).Answers))) Entry.Answers (nth p0 i) (Qfk om) (by first | rfl | exact nil_append _)) ?_
       refine dn hb ?_
       exact Run.at [6] [0] su (by decide)
    ·
     refine on1 12 [] (xi (xs:=p0) i om) ?_
     refine tk [13] ?_
     refine o2 8 14 ?_ ?_
     ·
      refine on1 8 [] (xl (xs:=p0) (i:=i) (k:=3) i 3 Entry.Steps (nth p0 i) (Qfk om) (by unfold mst;simp)) ?_
      refine o2 9 14 ?_ ?_
      ·
       refine ong1 9 [] (clg (Qcs ((nth p0 i).Steps) lv2) Qob) fun hgq=>?_
       obtain⟨hg8,_⟩:=hgq
       refine on 14 [] (xl (xs:=p0) (i:=i) (k:=3) i 4 Entry.Answers (nth p0 i) (Qfk om) (by unfold mst;simp)) ?_
       refine ong 15 [] (clg (Qb7 ((nth p0 i).Answers) lv2) Qoa) fun hgq=>?_
       obtain⟨hg9,_⟩:=hgq
       refine on 16 [] (xi (xs:=p0) i om) ?_
       refine tk [17] ?_
       refine on 18 [] (xs' (xs:=p0) (zs:=(Qb8 ((nth p0 i).Steps))) Entry.Steps (nth p0 i) (Qfk om) (by first | rfl | exact nil_append _)) ?_
       refine on 19 [] (xi (xs:=p0) i om) ?_
       refine tk [20] ?_
       refine on 21 [] (xs' (xs:=p0) (zs:=(Qbt ((nth p0 i).Answers))) Entry.Answers (nth p0 i) (Qfk om) (by first | rfl | exact nil_append _)) ?_
       refine dn hb ?_
       exact Run.at [6] [0] su (by decide)
      ·
       refine on1 14 [] (xl (xs:=p0) (i:=i) (k:=3) i 4 Entry.Answers (nth p0 i) (Qfk om) (by unfold mst;simp)) ?_
       refine ong 9 [] (clg (Qcs ((nth p0 i).Steps) lv2) Qob) fun hgq=>?_
       obtain⟨hg10,_⟩:=hgq
       refine ong 15 [] (clg (Qb7 ((nth p0 i).Answers) lv2) Qoa) fun hgq=>?_
       obtain⟨hg11,_⟩:=hgq
       refine on 16 [] (xi (xs:=p0) i om) ?_
       refine tk [17] ?_
       refine on 18 [] (xs' (xs:=p0) (zs:=(Qb8 ((nth p0 i).Steps))) Entry.Steps (nth p0 i) (Qfk om) (by first | rfl | exact nil_append _)) ?_
       refine on 19 [] (xi (xs:=p0) i om) ?_
       refine tk [20] ?_
       refine on 21 [] (xs' (xs:=p0) (zs:=(Qbt ((nth p0 i).Answers))) Entry.Answers (nth p0 i) (Qfk om) (by first | rfl | exact nil_append _)) ?_
       refine dn hb ?_
       exact Run.at [6] [0] su (by decide)
     ·
      refine on1 14 [] (xl (xs:=p0) (i:=i) (k:=3) i 4 Entry.Answers (nth p0 i) (Qfk om) (by unfold mst;simp)) ?_
      refine on 8 [] (xl (xs:=p0) (i:=i) (k:=3) i 3 Entry.Steps (nth p0 i) (Qfk om) (by unfold mst;simp)) ?_
      refine ong 9 [] (clg (Qcs ((nth p0 i).Steps) lv2) Qob) fun hgq=>?_
      obtain⟨hg12,_⟩:=hgq
      refine ong 15 [] (clg (Qb7 ((nth p0 i).Answers) lv2) Qoa) fun hgq=>?_
      obtain⟨hg13,_⟩:=hgq
      refine on 16 [] (xi (xs:=p0) i om) ?_
      refine tk [17] ?_
      refine on 18 [] (xs' (xs:=p0) (zs:=(Qb8 ((nth p0 i).Steps))) Entry.Steps (nth p0 i) (Qfk om) (by first | rfl | exact nil_append _)) ?_
      refine on 19 [] (xi (xs:=p0) i om) ?_
      refine tk [20] ?_
      refine on 21 [] (xs' (xs:=p0) (zs:=(Qbt ((nth p0 i).Answers))) Entry.Answers (nth p0 i) (Qfk om) (by first | rfl | exact nil_append _)) ?_
      refine dn hb ?_
      exact Run.at [6] [0] su (by decide)
   ·
    refine on1 12 [] (xi (xs:=p0) i om) ?_
    refine tk [13] ?_
    refine o2 6 14 ?_ ?_
    ·
     refine on1 6 [] (xi (xs:=p0) i om) ?_
     refine tk [7] ?_
     refine o2 8 14 ?_ ?_
     ·
      refine on1 8 [] (xl (xs:=p0) (i:=i) (k:=3) i 3 Entry.Steps (nth p0 i) (Qfk om) (by unfold mst;simp)) ?_
      refine o2 9 14 ?_ ?_
      ·
       refine ong1 9 [] (clg (Qcs ((nth p0 i).Steps) lv2) Qob) fun hgq=>?_
       obtain⟨hg14,_⟩:=hgq
       refine on 14 [] (xl (xs:=p0) (i:=i) (k:=3) i 4 Entry.Answers (nth p0 i) (Qfk om) (by unfold mst;simp)) ?_
       refine ong 15 [] (clg (Qb7 ((nth p0 i).Answers) lv2) Qoa) fun hgq=>?_
       obtain⟨hg15,_⟩:=hgq
       refine on 16 [] (xi (xs:=p0) i om) ?_
       refine tk [17] ?_
       refine on 18 [] (xs' (xs:=p0) (zs:=(Qb8 ((nth p0 i).Steps))) Entry.Steps (nth p0 i) (Qfk om) (by first | rfl | exact nil_append _)) ?_
       refine on 19 [] (xi (xs:=p0) i om) ?_
       refine tk [20] ?_
       refine on 21 [] (xs' (xs:=p0) (zs:=(Qbt ((nth p0 i).Answers))) Entry.Answers (nth p0 i) (Qfk om) (by first | rfl | exact nil_append _)) ?_
       refine dn hb ?_
       exact Run.at [6] [0] su (by decide)
      ·
       refine on1 14 [] (xl (xs:=p0) (i:=i) (k:=3) i 4 Entry.Answers (nth p0 i) (Qfk om) (by unfold mst;simp)) ?_
       refine ong 9 [] (clg (Qcs ((nth p0 i).Steps) lv2) Qob) fun hgq=>?_
       obtain⟨hg16,_⟩:=hgq
       refine ong 15 [] (clg (Qb7 ((nth p0 i).Answers) lv2) Qoa) fun hgq=>?_
       obtain⟨hg17,_⟩:=hgq
       refine on 16 [] (xi (xs:=p0) i om) ?_
       refine tk [17] ?_
       refine on 18 [] (xs' (xs:=p0) (zs:=(Qb8 ((nth p0 i).Steps))) Entry.Steps (nth p0 i) (Qfk om) (by first | rfl | exact nil_append _)) ?_
       refine on 19 [] (xi (xs:=p0) i om) ?_
       refine tk [20] ?_
       refine on 21 [] (xs' (xs:=p0) (zs:=(Qbt ((nth p0 i).Answers))) Entry.Answers (nth p0 i) (Qfk om) (by first | rfl | exact nil_append _)) ?_
       refine dn hb ?_
       exact Run.at [6] [0] su (by decide)
     ·
      refine on1 14 [] (xl (xs:=p0) (i:=i) (k:=3) i 4 Entry.Answers (nth p0 i) (Qfk om) (by unfold mst;simp)) ?_
      refine on 8 [] (xl (xs:=p0) (i:=i) (k:=3) i 3 Entry.Steps (nth p0 i) (Qfk om) (by unfold mst;simp)) ?_
      refine ong 9 [] (clg (Qcs ((nth p0 i).Steps) lv2) Qob) fun hgq=>?_
      obtain⟨hg18,_⟩:=hgq
      refine ong 15 [] (clg (Qb7 ((nth p0 i).Answers) lv2) Qoa) fun hgq=>?_
      obtain⟨hg19,_⟩:=hgq
      refine on 16 [] (xi (xs:=p0) i om) ?_
      refine tk [17] ?_
      refine on 18 [] (xs' (xs:=p0) (zs:=(Qb8 ((nth p0 i).Steps))) Entry.Steps (nth p0 i) (Qfk om) (by first | rfl | exact nil_append _)) ?_
      refine on 19 [] (xi (xs:=p0) i om) ?_
      refine tk [20] ?_
      refine on 21 [] (xs' (xs:=p0) (zs:=(Qbt ((nth p0 i).Answers))) Entry.Answers (nth p0 i) (Qfk om) (by first | rfl | exact nil_append _)) ?_
      refine dn hb ?_
      exact Run.at [6] [0] su (by decide)
    ·
     refine on1 14 [] (xl (xs:=p0) (i:=i) (k:=3) i 4 Entry.Answers (nth p0 i) (Qfk om) (by unfold mst;simp)) ?_
     refine on 6 [] (xi (xs:=p0) i om) ?_
     refine tk [7] ?_
     refine on 8 [] (xl (xs:=p0) (i:=i) (k:=3) i 3 Entry.Steps (nth p0 i) (Qfk om) (by unfold mst;simp)) ?_
     refine ong 9 [] (clg (Qcs ((nth p0 i).Steps) lv2) Qob) fun hgq=>?_
     obtain⟨hg20,_⟩:=hgq
     refine ong 15 [] (clg (Qb7 ((nth p0 i).Answers) lv2) Qoa) fun hgq=>?_
     obtain⟨hg21,_⟩:=hgq
     refine on 16 [] (xi (xs:=p0) i om) ?_
     refine tk [17] ?_
     refine on 18 [] (xs' (xs:=p0) (zs:=(Qb8 ((nth p0 i).Steps))) Entry.Steps (nth p0 i) (Qfk om) (by first | rfl | exact nil_append _)) ?_
     refine on 19 [] (xi (xs:=p0) i om) ?_
     refine tk [20] ?_
     refine on 21 [] (xs' (xs:=p0) (zs:=(Qbt ((nth p0 i).Answers))) Entry.Answers (nth p0 i) (Qfk om) (by first | rfl | exact nil_append _)) ?_
     refine dn hb ?_
     exact Run.at [6] [0] su (by decide)
  refine ad 3 ?_
  rw[Qd7 (i:=i) om]
  refine ad 2 ?_
  refine Run.cvA 0 (MixP (Old w) w p0 (i+1) 3) (fun _ _ h=>MixP.flat rfl rfl (MixP.flat rfl rfl (MixP.flat rfl rfl (MixP.next (MixP.flat rfl rfl (MixP.flat rfl rfl (MixP.flat rfl rfl (h)))))))) ?_
  exact Run.again (i+1) [0] [0] ⟨by first | omega | exact trivial | (dsimp only;omega) | (refine⟨by omega,?_⟩;simp_all;try omega),hM⟩ rfl lv1 su (by decide)
 ·
  have h1l: ¬ (i<p0.length):=by have:=of_decide_eq_false h1;omega
  have hM:=hE.trans ((congrArg (fun n=>Qc5 p0 n i) (show p0.length - i=0 by omega)).trans (Qc5.eq_1 _ _))
  refine ad 6 ?_
  refine Run.cvO (dα:=instDatEntry) (P:=MixP (Old w) w p0 i 3) 0 p0 (fun _ _ h=>MixP.done' (by omega) h) ?_
  exact rz (rs:=[.tmp 2]) (congrArg (fun x=>[Re.sl Entry instDatEntry x]) hM)
def Qcq (p0:Kernel):Nat→(List Entry)→Nat→(List Entry)
 | 0,v3,i=>v3
 | n+1,v3,i=>bif ((nth p0.History i).Laid)&&(decide (((nth p0.History i).Seq)>(Qfv p0))) then v3 else(Qcq p0 n (v3++[(Qie (nth p0.History i))]) (i+1))
def Qb9 (p0:Kernel):(List Entry):=Qcq p0 (p0.History.length - 0) ([]:List Entry) 0
theorem Qqj (p0:Kernel) (hs:Dat.small 1048576 p0):CTs 22 [.o (.st Kernel _ inferInstance p0)] [Re.sl Entry instDatEntry (Qb9 p0)]:=by
 refine en Tryz.func22 Tryz.ntmps22 fun w hG hgd=>?_
 obtain⟨hg_p0,_⟩:=hgd
 have hM:=Qb9.eq_1 p0
 have hsH:Dat.small 1048576 p0.History:=hs.2.2.2.2.2.2.1
 have hs1:p0.History.length≤1048576:=hsH.1
 refine ad 7 ?_
 refine op (l0) ?_
 refine ad 5 ?_
 refine op (cl (Q08 p0 (by first | assumption | exact hsm2)) Ytq) ?_
 refine ad 8 ?_
 refine li 6 (d:=instDatEntry) ([]:List Entry) ?_
 refine Run.loopM (ι:=(List Entry)×Nat) (fun s=>Qcq p0 (p0.History.length - s.2) s.1 s.2) (fun s=>⟨42,7,[(1,.pt 0 0),(3,.sl 6 s.1.length),(4,.v (.int .i64 (Qfv p0))),(5,.v (.int .i64 (s.2:Int)))],[(0,.var [.sl 1 p0.Store.length,.sl 2 p0.Txs.length,.sl 3 p0.Disk.Slots.length,.v (.string p0.Disk.Journal.Text),.v (.int .i64 p0.Disk.Journal.Sure),.v (.int .i64 p0.Seq),.v (.int .i64 p0.Next),.v (.int .i64 p0.Time),.sl 4 p0.History.length,.sl 5 p0.Seen.length,.v (.bool p0.Room)] 43),(1,.ros Cell instDatCell p0.Store),(2,.ros Tx instDatTx p0.Txs),(3,.ros Slot instDatSlot p0.Disk.Slots),(4,.ros Entry instDatEntry p0.History),(5,.ros ByteArray instDatByteArray p0.Seen),(6,.own Entry instDatEntry s.1)]⟩) (fun s=>s.2≤p0.History.length∧s.1.length≤s.2) (fun s=>p0.History.length - s.2) (([]:List Entry),0) [5,0,1,2,3,4,6] [1,2,3,4,5,6,0] hM (by exact⟨by(try dsimp only);omega,by simp⟩) su (by decide) ?_
 rintro ⟨v3,i⟩ hv hE
 try dsimp only at hE
 obtain⟨hi,hv0⟩:=hv
 try dsimp only at hi hv0
 refine ad 9 ?_
 refine cd (fun h1=>?_) (fun h1=>?_)
 ·
  have h1l:i<p0.History.length:=by have:=of_decide_eq_true h1;omega
  have hM:=hE.trans ((congrArg (fun n=>Qcq p0 n v3 i) (show p0.History.length - i=(p0.History.length - (i+1))+1 by omega)).trans (Qcq.eq_2 _ _ _ _))
  have hgen:=Qat (k:=i) hg_p0.2.2.2.2.2.2.1 om
  have hsE:=Qcf hsH (k:=i) (by omega)
  refine ad 9 ?_
  refine op (ix (xs:=p0.History) i om) ?_
  refine ad 3 ?_
  refine ag 3 ?_
  refine op (iG (xs:=p0.History) i om) ?_
  refine ag 5 ?_
  refine ad 1 ?_
  refine cd (fun h3=>?_) (fun h3=>?_)
  ·
   have hM:=hM.trans (bt h3)
   refine ad 6 ?_
   exact rz (rs:=[.tmp 2]) (congrArg (fun x=>[Re.sl Entry instDatEntry x]) hM)
  ·
   have hM:=hM.trans (bf h3)
   refine ad 6 ?_
   refine op (ix (xs:=p0.History) i om) ?_
   refine ad 1 ?_
   refine og (clg (Qz3 (nth p0.History i) (by first | assumption | exact hsE)) Ytp) fun hgq=>?_
   obtain⟨hg5,_⟩:=hgq
   refine ad 1 ?_
   refine op (aN (e:=80) (by':=96) v3 (Qie (nth p0.History i)) [6] (hg:=hg5) (hb:=by(try simp only[List.length_cons,List.length_nil]);first | omega | exact om) (hm:=by(try simp only[List.length_cons,List.length_nil]);first | omega | exact om)) ?_
   refine ad 6 ?_
   rw[Qd7 (i:=i) om]
   refine ad 2 ?_
   exact Run.again ((v3++[(Qie (nth p0.History i))]),(i+1)) [0,1,2,3,4,5,19] [11,12,13,14,15,16,0] ⟨by exact⟨by(try dsimp only);omega,by(try dsimp only);(try simp only[length_append,length_cons,length_nil]);omega⟩,hM⟩ rfl lv1 su (by decide)
 ·
  have h1l: ¬ (i<p0.History.length):=by have:=of_decide_eq_false h1;omega
  have hM:=hE.trans ((congrArg (fun n=>Qcq p0 n v3 i) (show p0.History.length - i=0 by omega)).trans (Qcq.eq_1 _ _ _))
  refine ad 6 ?_
  exact rz (rs:=[.tmp 2]) (congrArg (fun x=>[Re.sl Entry instDatEntry x]) hM)
end
section
theorem Yq7:FnOk Tryz.prog 116:=⟨_,Tryz.func116,rfl,by kernel_rfl⟩
theorem Yq6:FnOk Tryz.prog 117:=⟨_,Tryz.func117,rfl,by kernel_rfl⟩
theorem Yq5:FnOk Tryz.prog 118:=⟨_,Tryz.func118,rfl,by kernel_rfl⟩
def Qke (p0:Entry) (c0:Int):Bool:=p0.Laid&&(decide (p0.Seq>c0))
theorem Q8x (p0:Entry) (c0:Int):CTs 117 [.o (.st Entry _ inferInstance p0),.o (.rp Int instDatInt inferInstance c0)] [Re.c (.bool (Qke p0 c0))]:=by
 refine en Tryz.func117 Tryz.ntmps117 fun w hG hgd=>?_
 obtain⟨hg_p0,hg_c0,_⟩:=hgd
 have hM:=Qke.eq_1 p0 c0
 refine ad 10 ?_
 refine ag 5 ?_
 refine ad 2 ?_
 exact rz (rs:=[.tmp 3]) (congrArg (fun x=>[Re.c (.bool x)]) hM)
def Qay (p0:List Entry) (p1_0:Int):Nat→Nat→Int
 | 0,i=>(-1)
 | n+1,i=>bif Qke (nth p0 i) p1_0 then(i:Int) else(Qay p0 p1_0 n (i+1))
def Qcg (p0:List Entry) (p1_0:Int):Int:=Qay p0 p1_0 (p0.length - 0) 0
theorem Qlt (p0:List Entry) (p1_0:Int) (hk: -9223372036854775808≤p1_0∧p1_0≤9223372036854775807):CTs 116 [.o (.sl Entry instDatEntry p0),.fn 117 [.rp Int instDatInt inferInstance p1_0]] [Re.c (.int .i64 (Qcg p0 p1_0))]:=by
 refine en Tryz.func116 Tryz.ntmps116 fun w hG hgd=>?_
 obtain⟨hg_p0,_⟩:=hgd
 have hl_p0:p0.length≤9223372036854775807:=hg_p0.1
 have hM:=Qcg.eq_1 p0 p1_0
 obtain⟨hk1,hk2⟩:=hk
 refine ad 12 ?_
 refine Run.loopM (ι:=Nat) (fun s=>Qay p0 p1_0 (p0.length - s) s) (fun s=>⟨19,2,[(0,.sl 0 p0.length),(1,.fn 117 [.pt 1 0]),(7,.v (.int .i64 (p0.length:Int))),(8,.v (.int .i64 (s:Int)))],[(0,.ros Entry instDatEntry p0),(1,.roc [.v (.int .i64 p1_0)])]⟩) (fun s=>s≤p0.length) (fun s=>p0.length - s) 0 [0,1] [0,1] hM lv0 su (by decide) ?_
 rintro i hv hE
 try dsimp only at hE
 have hi:=hv
 try dsimp only at hi
 refine ad 5 ?_
 refine cd (fun h1=>?_) (fun h1=>?_)
 ·
  have h1l:i<p0.length:=by have:=of_decide_eq_true h1;omega
  have hM:=hE.trans ((congrArg (fun n=>Qay p0 p1_0 n i) (show p0.length - i=(p0.length - (i+1))+1 by omega)).trans (Qay.eq_2 _ _ _ _))
  refine ad 13 ?_
  have hg3:=Qat (k:=i) hg_p0 om
  refine op (ix (xs:=p0) i om) ?_
  refine ad 1 ?_
  have hg4:Dat.good (nth p0 i:Entry):=hg3
  refine op (cl (Q8x (nth p0 i) p1_0) Yq6) ?_
  refine ad 1 ?_
  refine cd (fun h5=>?_) (fun h5=>?_)
  ·
   have hM:=hM.trans (bt h5)
   refine ad 5 ?_
   exact rz (rs:=[.tmp 4]) (congrArg (fun x=>[Re.c (.int .i64 x)]) hM)
  ·
   have hM:=hM.trans (bf h5)
   refine ad 4 ?_
   rw[Qd7 (i:=i) om]
   refine ad 2 ?_
   exact Run.again (i+1) [0,1] [3,4] ⟨by first | omega | exact trivial | (dsimp only;omega) | (refine⟨by omega,?_⟩;simp_all;try omega),hM⟩ rfl lv1 su (by decide)
 ·
  have h1l: ¬ (i<p0.length):=by have:=of_decide_eq_false h1;omega
  have hM:=hE.trans ((congrArg (fun n=>Qay p0 p1_0 n i) (show p0.length - i=0 by omega)).trans (Qay.eq_1 _ _ _))
  refine ad 5 ?_
  exact rz (rs:=[.tmp 4]) (congrArg (fun x=>[Re.c (.int .i64 x)]) hM)
theorem Qjt (p0:List Entry) (k:Int): ∀ n i,i+n=p0.length→ -1≤Qay p0 k n i∧Qay p0 k n i<p0.length:=by
 intro n
 induction n with
 | zero=>intro i _;rw[Qay];omega
 | succ n ih =>
  intro i h
  rw[Qay]
  cases Qke (nth p0 i) k with
  | false=>exact ih (i+1) (by omega)
  | true=>show -1≤(i:Int)∧(i:Int)<p0.length;omega
theorem Qk3 (p0:List Entry) (k:Int): -1≤Qcg p0 k∧Qcg p0 k<p0.length:=Qjt p0 k _ 0 (by omega)
def Qgp (p0:List Entry):(List Entry):=p0
theorem Qo5 (p0:List Entry):CTMs 118 0 1 [(0,.own Entry instDatEntry p0)] [] [.sl 0 p0.length] [(0,.own Entry instDatEntry (Qgp p0))] 1 [.sl 0 ((Qgp p0).length)] True:=by
 refine enM Tryz.func118 Tryz.ntmps118 fun S w p hG hb hg=>?_
 refine Run.cg (σ':=⟨9,1,[(0,.sl 0 p0.length)],[(0,.own Entry instDatEntry p0)]⟩) rfl ?_
 refine gd 0 fun hg_p0=>?_
 have hl_p0:p0.length≤9223372036854775807:=hg_p0.1
 have hM:=Qgp.eq_1 p0
 refine ad 11 ?_
 refine op (cOc (xs:=p0)) ?_
 refine ad 2 ?_
 exact rzM (rs:=[.tmp 2]) [1] [0] (hg1:=trivial) (hG1:=congrArg (fun x=>(True:Prop)) hM) (congrArg (fun x=>([(0,.own Entry instDatEntry x)]:List (Nat×En))) hM) (congrArg (fun x=>([.sl 0 x.length]:List V)) hM)
def Qna (p0:List Entry) (p1:Int):(List Entry):=bif decide ((Qcg p0 p1)<0) then p0 else(Qgp (List.take ((Qcg p0 p1).toNat) p0))
theorem Ydr (p0:List Entry) (p1:Int) (hk: -9223372036854775808≤p1∧p1≤9223372036854775807):CTMs 60 0 1 [(0,.own Entry instDatEntry p0)] [] [.sl 0 p0.length,.v (.int .i64 p1)] [(0,.own Entry instDatEntry (Qna p0 p1))] 1 [.sl 0 ((Qna p0 p1).length)] True:=by
 refine enM Tryz.func60 Tryz.ntmps60 fun S w p hG hb hg=>?_
 refine Run.cg (σ':=⟨16,1,[(0,.sl 0 p0.length),(1,.v (.int .i64 p1))],[(0,.own Entry instDatEntry p0)]⟩) rfl ?_
 refine gd 0 fun hg_p0=>?_
 have hl_p0:p0.length≤9223372036854775807:=hg_p0.1
 have hM:=Qna.eq_1 p0 p1
 have hin:=Qk3 p0 p1
 refine ad 9 ?_
 refine op (cl (Qlt p0 p1 lv5) Yq7) ?_
 refine ad 8 ?_
 refine cd (fun h1=>?_) (fun h1=>?_)
 ·
  have hM:=hM.trans (bt h1)
  refine ad 5 ?_
  exact rzM (rs:=[.tmp 4]) [0] [1] (hg1:=trivial) (hG1:=congrArg (fun x=>(True:Prop)) hM) (congrArg (fun x=>([(0,.own Entry instDatEntry x)]:List (Nat×En))) hM) (congrArg (fun x=>([.sl 0 x.length]:List V)) hM)
 ·
  have hM:=hM.trans (bf h1)
  have hne:=of_decide_eq_false h1
  refine ad 5 ?_
  refine op (cO (xs:=p0) ((Qcg p0 p1).toNat) (by first | omega | exact om | (simp only[List.length_append,List.length_take,List.length_replicate,List.length_set];omega)) (hl:=by first | rfl | (simp only[List.length_append,List.length_take,List.length_replicate,List.length_set];omega)) (hi:=om)) ?_
  refine og (cm [2] [] [0] [] [1] (Qo5 (List.take ((Qcg p0 p1).toNat) p0)) Yq5) fun _=>?_
  refine ad 2 ?_
  exact rzM (rs:=[.tmp 4]) [3] [0] (hg1:=trivial) (hG1:=congrArg (fun x=>(True:Prop)) hM) (congrArg (fun x=>([(0,.own Entry instDatEntry x)]:List (Nat×En))) hM) (congrArg (fun x=>([.sl 0 x.length]:List V)) hM)
end
section
theorem Qoo (p0:Disk): ∀ n v i,∃ z,(Qck p0 n v i).2=i64.wrap z:=by
 intro n
 induction n with
 | zero=>intro v i;exact⟨_,rfl⟩
 | succ n ih=>intro v i;rw[Qck];exact ih _ _
theorem Qzp (k:Kernel): -9223372036854775808≤Qgf k∧Qgf k≤9223372036854775807:=by
 unfold Qgf
 rw[Qoh]
 unfold Qgi
 cases Qgw (Qgg k.Disk 0) with
 | false=>exact(show(-9223372036854775808:Int)≤0∧(0:Int)≤9223372036854775807 from⟨by decide,by decide⟩)
 | true =>
  obtain⟨z,hz⟩:=Qoo (Qgg k.Disk 0) _ _ 0
  have h:=Qbb z
  unfold I64 at h
  rw[Bool.not_true,cond_false,hz]
  omega
end
section
theorem Yto:FnOk Tryz.prog 60:=⟨_,Tryz.func60,rfl,by kernel_rfl⟩
theorem Ytn:FnOk Tryz.prog 61:=⟨_,Tryz.func61,rfl,by kernel_rfl⟩
theorem Ytm:FnOk Tryz.prog 62:=⟨_,Tryz.func62,rfl,by kernel_rfl⟩
def Qbc (p0:Kernel):(List Entry):=(Qna (Qg1 p0.History) (Qgf p0))
theorem Qky (p0:Kernel) (hs:Dat.small 1048576 p0):CTs 23 [.o (.st Kernel _ inferInstance p0)] [Re.sl Entry instDatEntry (Qbc p0)]:=by
 refine en Tryz.func23 Tryz.ntmps23 fun w hG hgd=>?_
 obtain⟨hg_p0,_⟩:=hgd
 have hM:=Qbc.eq_1 p0
 have hsmH:Dat.small 1048576 p0.History:=hs.2.2.2.2.2.2.1
 refine ad 6 ?_
 refine dr 7 fun _ _ _ _ _ hb=>?_
 refine tk [0,1,3] ?_
 refine ong 2 [1,2,3,4,5,6] (clg (Qqs p0.History (by first | assumption | exact hsmH)) Ytn) fun hgq=>?_
 obtain⟨hg1,_⟩:=hgq
 refine on 4 [1,2,3,4,5,6] (cl (Q1s p0 (by first | assumption | exact hsm2)) Ytm) ?_
 refine ong 5 [1,2,3,4,5,6] (cm [6] [] [0] [] [1,2,3,4,5,6] (Ydr (Qg1 p0.History) (Qgf p0) (by first | assumption | exact Qzp _)) Yto) fun _=>?_
 refine tk [6] ?_
 refine dn hb ?_
 exact rz (rs:=[.tmp 2]) (congrArg (fun x=>[Re.sl Entry instDatEntry x]) hM)
end
section
def Qeb (p0:Int) (s1_0:Int) (s1_3:ByteArray):ByteArray:=((⟨#[109]⟩:ByteArray)++s1_3)
def Qdn (p0:Int):Nat→Int→ByteArray→ByteArray
 | 0,s1_0,s1_3=>Qeb p0 s1_0 s1_3
 | fu1+1,s1_0,s1_3=>if(decide (s1_0>0))=true then Qdn p0 fu1 (s1_0 / 10) ((strOfNums [IntKind.u8.wrap (48+(s1_0 % 10))])++s1_3) else Qeb p0 s1_0 s1_3
def Qad (p0:Int):ByteArray:=(if(decide (p0≤0))=true then(⟨#[109,48]⟩:ByteArray) else Qdn p0 (p0.toNat) p0 (⟨#[]⟩:ByteArray))
theorem Qdj (p0:Int) {w:World} (hi0:I64 p0):
  Calls Tryz.prog 57 [.int .i64 p0].toArray w (fun e w'=>e= .returned (.string (Qad p0))∧Below w.heap.size w w'):=by
 refine enter Tryz.func57 rfl Tryz.ntmps57 (Nat.le_of_ble_eq_true rfl) ?_
 intro a0 hE0
 have hS0:=SH.start w
 have hM:=Qad.eq_1 p0
 have hij0: -9223372036854775808≤p0∧p0≤9223372036854775807:=hi0
 refine wp_seq (wp_region_lit ?_)
 refine Qaa hE0 (Qan hE0 rfl) rfl fun a1 hE1=>wpList_nil ?_
 refine Qab ?_
 refine wp_seq (wp_seq (wp_region_lit ?_))
 refine Qaa hE1 (Qai hE1 rfl) rfl fun a2 hE2=>Qaa hE2 (Ykk hE2 rfl rfl) rfl fun a3 hE3=>wpList_nil ?_
 refine Qab ?_
 refine Qd5 hE3 rfl (fun hb4=>?_) (fun hb4=>?_)
 ·
  have hM:=hM.trans (if_t hb4)
  have hb4f:p0≤0:=of_decide_eq_true hb4
  refine wp_seq (wp_region_lit ?_)
  refine Qaa hE3 (Qan hE3 rfl) rfl fun a5 hE5=>wpList_nil ?_
  refine Qab ?_
  refine wp_ret ?_
  refine Qyv ?_
  exact fin1 hE5 rfl rfl ⟨by rw[hM],hS0.below⟩
 ·
  have hM:=hM.trans (if_f hb4)
  have hb4f: ¬ (p0≤0):=of_decide_eq_false hb4
  refine wp_skip ?_
  refine Qab ?_
  refine wp_seq (wp_region_lit ?_)
  refine Qaa hE3 (Qan hE3 rfl) rfl fun a6 hE6=>wpList_nil ?_
  refine Qab ?_
  refine wp_seq (wp_block (wp_loop_ghost (fun fu1 a w2=> ∃ (s1_0:Int) (s1_3:ByteArray),s1_0.toNat≤fu1∧dig s1_3.size s1_0∧I64 s1_0∧Qad p0=Qdn p0 fu1 s1_0 s1_3∧Env 20 [(0,.int .i64 s1_0),(3,.string s1_3)] a∧SH (Old w) w w2 []) (p0.toNat) ⟨p0,(⟨#[]⟩:ByteArray),Nat.le_refl _,(Ycc (by omega)),hi0,hM,hE6.weaken ⟨rfl,rfl,trivial⟩,hS0⟩ ?_))
  rintro fu1 a7 w7 ⟨s1_0,s1_3,hme1,hin1_0,hgis1_0,hM,hE7,hS7⟩
  have hgjs1_0: -9223372036854775808≤s1_0∧s1_0≤9223372036854775807:=hgis1_0
  refine wp_seq (wp_seq (wp_region_lit ?_))
  refine Qaa hE7 (Qai hE7 rfl) rfl fun a8 hE8=>Qaa hE8 (Yoz hE8 rfl rfl) rfl fun a9 hE9=>wpList_nil ?_
  refine Qab ?_
  refine Qd5 hE9 rfl (fun hb10=>?_) (fun hb10=>?_)
  ·
   have hb10f:s1_0>0:=of_decide_eq_true hb10
   obtain⟨fu1,rfl⟩: ∃ m,fu1=m+1:=⟨fu1 - 1,by omega⟩
   have hM:=hM.trans ((Qdn.eq_2 _ _ _ _).trans (if_t hb10))
   refine wp_skip ?_
   refine Qab ?_
   refine wp_block (wp_seq (wp_region_lit ?_))
   refine Qaa hE9 (Qai hE9 rfl) rfl fun a11 hE11=>Qaa hE11 (Ykh hE11 rfl rfl (by decide) (by omega)) rfl fun a12 hE12=>Qaa hE12 (Qhw hE12 rfl rfl (m:=48+(s1_0 % 10)) rfl (by omega) (by omega)) rfl fun a13 hE13=>Qaa hE13 (Qy0 hE13 rfl Yoj) rfl fun a14 hE14=>Yd5 (is:=[0]) (vs:=[.int .u8 (IntKind.u8.wrap (48+(s1_0 % 10)))]) (cs:=[.int .u8 (IntKind.u8.wrap (48+(s1_0 % 10)))]) (e:=5) hE14 hS7 rfl rfl (by kernel_rfl) rfl fun b15 w15 hS15 a16 hE16=>Qaa hE16 (Qqx (xs:=[IntKind.u8.wrap (48+(s1_0 % 10))]) hE16 rfl Tryz.underlying144 Tryz.underlying5 Tryz.underlying9 rfl (hS15.cells (k:=0) rfl)) rfl fun a17 hE17=>Qaa hE17 (Qai hE17 rfl) rfl fun a18 hE18=>Qaa hE18 (Ycy hE18 rfl rfl (by have h:=hin1_0.1;first | omega | (simp only[ByteArray.size,List.size_toArray,List.length] at *;omega) | (rw[Qeo];simp only[List.length];omega))) rfl fun a19 hE19=>Qaa hE19 (Qan hE19 rfl) rfl fun a20 hE20=>wpList_nil ?_
   refine Qab ?_
   refine wp_region_lit ?_
   refine Qaa hE20 (Qai hE20 rfl) rfl fun a21 hE21=>Qaa hE21 (Yki hE21 rfl rfl (by decide) (by omega) (by omega) (by omega)) rfl fun a22 hE22=>Qaa hE22 (Qan hE22 rfl) rfl fun a23 hE23=>wpList_nil ?_
   refine Qf0 ?_
   refine Qab ⟨fu1,Nat.lt_succ_self _,s1_0 / 10,((strOfNums [IntKind.u8.wrap (48+(s1_0 % 10))])++s1_3),by omega,(by rw[ByteArray.size_append,Qeo];show dig (1+_) _;rw[Nat.add_comm];exact Qqd hin1_0 (by omega)),(by unfold I64;omega),hM,hE23.weaken ⟨rfl,rfl,trivial⟩,(hS15.drop (k:=1))⟩
  ·
   have hb10f: ¬ (s1_0>0):=of_decide_eq_false hb10
   have hM:=hM.trans (show Qdn p0 fu1 s1_0 s1_3=Qeb p0 s1_0 s1_3 from by cases fu1 with | zero=>exact Qdn.eq_1 _ _ _ | succ m=>exact(Qdn.eq_2 _ _ _ _).trans (if_f hb10))
   have hM:=hM.trans (Qeb.eq_1 _ _ _)
   refine wp_exit ?_
   refine Qde ?_
   refine Qde ?_
   refine Qhx ?_
   refine Qab ?_
   refine wp_seq (wp_region_lit ?_)
   refine Qaa hE9 (Qai hE9 rfl) rfl fun a24 hE24=>Qaa hE24 (Ycy hE24 rfl rfl (by have h:=hin1_0.1;first | omega | (simp only[ByteArray.size,List.size_toArray,List.length] at *;omega) | (rw[Qeo];simp only[List.length];omega))) rfl fun a25 hE25=>Qaa hE25 (Qan hE25 rfl) rfl fun a26 hE26=>wpList_nil ?_
   refine Qab ?_
   refine wp_ret ?_
   exact fin1 hE26 rfl rfl ⟨by rw[hM],hS7.below⟩
theorem Qm7 (p0:Int): ∀ (fu:Nat) (s:Int) (o:ByteArray),dig o.size s→(Qdn p0 fu s o).size≤20:=by
 intro fu
 induction fu with
 | zero =>
  intro s o h
  have:=h.1
  simp only[Qdn,Qeb,ByteArray.size_append]
  show 1+o.size≤20
  omega
 | succ m ih =>
  intro s o h
  rw[Qdn]
  split
  ·rename_i hs
   refine ih _ _ ?_
   rw[ByteArray.size_append,Qeo]
   show dig (1+_) _
   rw[Nat.add_comm]
   exact Qqd h (of_decide_eq_true hs)
  ·have:=h.1
   simp only[Qeb,ByteArray.size_append]
   show 1+o.size≤20
   omega
theorem Qc2 {p0:Int} (h:I64 p0):(Qad p0).size≤maxLen:=by
 have e:(Qad p0).size≤20:=by
  unfold Qad
  split
  ·decide
  ·exact Qm7 _ _ _ _ (Ycc h.2)
 unfold maxLen
 omega
end
section
theorem Yof:Qb1 Tryz.prog 114 0 0=true:=by kernel_rfl
theorem Yoe:Qb1 Tryz.prog 114 1 1=true:=by kernel_rfl
theorem Yjq:Qb1 Tryz.prog 149 0 0=true:=by kernel_rfl
theorem Yjp:Qb1 Tryz.prog 149 1 1=true:=by kernel_rfl
theorem Yjo:Qb1 Tryz.prog 149 2 2=true:=by kernel_rfl
theorem Yjn:Qb1 Tryz.prog 149 3 3=true:=by kernel_rfl
theorem Yjm:Qb1 Tryz.prog 149 4 4=true:=by kernel_rfl
theorem Yjl:Qb1 Tryz.prog 149 5 5=true:=by kernel_rfl
theorem Yn2:Qb1 Tryz.prog 154 0 0=true:=by kernel_rfl
theorem Yn1:Qb1 Tryz.prog 154 1 1=true:=by kernel_rfl
theorem Yn0:Qb1 Tryz.prog 154 2 2=true:=by kernel_rfl
theorem fb57:Tryz.f57.body.isNone=false:=rfl
theorem fn57:(Tryz.f57.name == "runtime.NumGoroutine")=false:=by kernel_rfl
theorem one3:Qhf Tryz.prog 3=true:=by kernel_rfl
theorem one9:Qhf Tryz.prog 9=true:=by kernel_rfl
theorem Yc3:Qcv Tryz.prog 116 149 6 72=true:=by kernel_rfl
theorem sl30:Qcv Tryz.prog 30 9 1 16=true:=by kernel_rfl
theorem sl35:Qcv Tryz.prog 35 114 2 32=true:=by kernel_rfl
theorem sl78:Qcv Tryz.prog 78 154 3 32=true:=by kernel_rfl
theorem sl87:Qcv Tryz.prog 87 3 1 8=true:=by kernel_rfl
def Qej (p0:List ByteArray) (p1:Int):Nat→Nat→Int→List ByteArray→List ByteArray×Int
 | 0,i1,s1_1,y1_m0=>(y1_m0,s1_1)
 | fu1+1,i1,s1_1,y1_m0=>Qej p0 p1 fu1 (i1+1) (i64.wrap (s1_1+1)) (y1_m0.set i1 (Qad s1_1))
def Qae (p0:List ByteArray) (p1:Int):List ByteArray×Int:=Qej p0 p1 (p0.length - 0) 0 p1 p0
theorem Qin {v0:Value} (p0:List ByteArray) {F0:List Nat} (p1:Int) {w:World} (hMu0:SH (Off [Ck.own (α:=List ByteArray) [v0] p0 F0] w) w w [Ck.own (α:=List ByteArray) [v0] p0 F0]) (hi1:I64 p1):
  Calls Tryz.prog 20 [v0,.int .i64 p1].toArray w (fun e w'=>e= .returned (.int .i64 (Qae p0 p1).2)∧I64 (Qae p0 p1).2∧ ∃ F',SH (Off [Ck.own (α:=List ByteArray) [v0] p0 F0] w) w w' [Ck.own (α:=List ByteArray) [v0] (Qae p0 p1).1 F']):=by
 obtain⟨A0,cap0,rfl,hx0⟩:=(hMu0.slO (k:=0) rfl).form
 refine enter Tryz.func20 rfl Tryz.ntmps20 (Nat.le_of_ble_eq_true rfl) ?_
 intro a0 hE0
 have hS0:=hMu0
 have hM:=Qae.eq_1 p0 p1
 have hij1: -9223372036854775808≤p1∧p1≤9223372036854775807:=hi1
 refine wp_seq (wp_region_lit ?_)
 refine Qaa hE0 (Qan hE0 rfl) rfl fun a1 hE1=>wpList_nil ?_
 refine Qab ?_
 refine wp_seq (wp_seq (wp_region_lit ?_))
 refine Qaa hE1 (Qan hE1 rfl) rfl fun a2 hE2=>wpList_nil ?_
 refine Qab ?_
 refine wp_block (wp_loop_ghost (fun fu1 a w2=> ∃ (i1:Nat) (s1_1:Int) (y1_m0:List ByteArray) (Fy1_m0:List Nat),0≤i1∧fu1=p0.length - i1∧(i1≤p0.length∨i1=0)∧I64 s1_1∧Qae p0 p1=Qej p0 p1 fu1 i1 s1_1 y1_m0∧Env 20 [(0,.slice A0 p0.length cap0),(1,.int .i64 s1_1),(5,.int .i64 (i1:Int))] a∧SH (Off [Ck.own (α:=List ByteArray) [.slice A0 p0.length cap0] p0 F0] w) w w2 [Ck.own (α:=List ByteArray) [.slice A0 p0.length cap0] y1_m0 Fy1_m0]) (p0.length - 0) ⟨0,p1,p0,F0,Nat.le_refl _,rfl,.inr rfl,hi1,hM,hE2.weaken ⟨rfl,rfl,rfl,trivial⟩,hS0⟩ ?_)
 rintro fu1 a3 w3 ⟨i1,s1_1,y1_m0,Fy1_m0,hi1,hfu1,hup1,hgis1_1,hM,hE3,hS3⟩
 have hlry1_m0:=hS3.lenrow (k:=0) rfl
 refine wp_seq (wp_seq (wp_region_lit ?_))
 refine Qaa hE3 (Qai hE3 rfl) rfl fun a4 hE4=>Qaa hE4 (Qai hE4 rfl) rfl fun a5 hE5=>Qaa hE5 (Qf1 hE5 rfl sl30) rfl fun a6 hE6=>Qaa hE6 (Qo9 hE6 rfl rfl) rfl fun a7 hE7=>wpList_nil ?_
 refine Qab ?_
 refine Qd5 hE7 rfl (fun hb8=>?_) (fun hb8=>?_)
 ·
  have hlt1:i1<p0.length:=by have:=of_decide_eq_true hb8;omega
  obtain⟨fu1,rfl⟩: ∃ m,fu1=m+1:=⟨fu1 - 1,by omega⟩
  have hM:=hM.trans (Qej.eq_2 _ _ _ _ _ _)
  refine wp_skip ?_
  refine Qab ?_
  refine wp_seq (wp_block (wp_seq (wp_region_lit ?_)))
  refine Qaa hE7 (Qai hE7 rfl) rfl fun a9 hE9=>Qaa hE9 (Qai hE9 rfl) rfl fun a10 hE10=>Qaa hE10 (Qai hE10 rfl) rfl fun a11 hE11=>Qhh hE11 hS3 Tryz.func57 fb57 fn57 (Qdj s1_1 hgis1_1) rfl rfl fun w12 hS12 a13 hE13=>?_
  have hlr14:=hS12.lenrow (k:=0) rfl
  obtain⟨g14,ce14,Fo14,G14,hA14,hn14,hF14⟩:=SH.focus (L:=[]) hS12 (i:=i1) (by omega)
  obtain⟨⟨rfl,hg14⟩,rfl⟩:=(show Dat.own w12 ce14 (nth y1_m0 i1) G14 from hF14.get (k:=0) rfl)
  have hS15:=hF14.drop (k:=1)
  refine Qaa hE13 (Qax (A:=⟨g14,0,none⟩) hE13 (congrArg (fun A=>some (Value.slice A p0.length cap0)) hA14) rfl (by omega) (by omega) sl30) rfl fun a16 hE16=>Qb2 (α:=ByteArray) (k:=0) hE16 hS15 [.string (Qad s1_1)] rfl rfl rfl (by rw[Int.toNat_natCast];rfl) rfl (Qbf one9) rfl rfl rfl rfl fun w17 (hS17:SH (Off [Ck.own (α:=List ByteArray) [.slice A0 p0.length cap0] p0 F0] w) w w17 [Ck.elem (α:=ByteArray) g14 i1 cap0 [.string (Qad s1_1)] y1_m0 Fo14]) a18 hE18=>wpList_nil ?_
  refine Qab ?_
  refine wp_region_lit ?_
  refine Qaa hE18 (Qai hE18 rfl) rfl fun a19 hE19=>Qaa hE19 (Qg7 hE19 rfl rfl) rfl fun a20 hE20=>Qaa hE20 (Qan hE20 rfl) rfl fun a21 hE21=>wpList_nil ?_
  refine Qf0 ?_
  refine Qab ?_
  refine wp_region_lit ?_
  refine Qaa hE21 (Qai hE21 rfl) rfl fun a22 hE22=>Qaa hE22 (Qhw hE22 rfl rfl (m:=((i1+1:Nat):Int)) (by omega) (by omega) (by omega)) rfl fun a23 hE23=>Qaa hE23 (Qan hE23 rfl) rfl fun a24 hE24=>wpList_nil ?_
  have hJ25:=SH.flat (L:=[Ck.elem (α:=ByteArray) g14 i1 cap0 [.string (Qad s1_1)] y1_m0 Fo14]) (α:=ByteArray) (cs:=[.string (Qad s1_1)]) (x:=(Qad s1_1)) hS17 (fun _=>⟨⟨rfl,(Qc2 (by first | assumption | exact Qbb _))⟩,rfl⟩)
  obtain⟨F25,hS25⟩:=SH.unfocus (α:=ByteArray) (L:=[]) hJ25 hA14 hn14 (by omega)
  refine Qab ⟨fu1,Nat.lt_succ_self _,(i1+1),i64.wrap (s1_1+1),(y1_m0.set i1 (Qad s1_1)),F25,by omega,by omega,.inl (by omega),(Qbb _),hM,hE24.weaken ⟨rfl,rfl,rfl,trivial⟩,hS25⟩
 ·
  have hge1: ¬ i1<p0.length:=by have:=of_decide_eq_false hb8;omega
  obtain rfl:fu1=0:=by omega
  have hM:=hM.trans (Qej.eq_1 _ _ _ _ _)
  refine wp_exit ?_
  refine Qde ?_
  refine Qde ?_
  refine Qhx ?_
  refine Qab ?_
  refine wp_seq (wp_region_lit ?_)
  refine Qaa hE7 (Qai hE7 rfl) rfl fun a26 hE26=>Qaa hE26 (Qan hE26 rfl) rfl fun a27 hE27=>wpList_nil ?_
  refine Qab ?_
  refine wp_ret ?_
  refine fin1 hE27 rfl rfl ?_
  rw[hM]
  exact⟨rfl,hgis1_1,Fy1_m0,hS3⟩
def Qbe (p0:List Answer) (p1:Int):Nat→Nat→Int→List Answer→List Answer×Int
 | 0,i1,s1_1,y1_m0=>(y1_m0,s1_1)
 | fu1+1,i1,s1_1,y1_m0=>Qbe p0 p1 fu1 (i1+1) (i64.wrap (i64.wrap (i64.wrap (s1_1+1)+1)+1)) (y1_m0.set i1 (Answer.mk s1_1 (i64.wrap (s1_1+1)) (Qad (i64.wrap (i64.wrap (s1_1+1)+1)))))
def Qac (p0:List Answer) (p1:Int):List Answer×Int:=Qbe p0 p1 (p0.length - 0) 0 p1 p0
theorem Qkx {v0:Value} (p0:List Answer) {F0:List Nat} (p1:Int) {w:World} (hMu0:SH (Off [Ck.own (α:=List Answer) [v0] p0 F0] w) w w [Ck.own (α:=List Answer) [v0] p0 F0]) (hi1:I64 p1):
  Calls Tryz.prog 65 [v0,.int .i64 p1].toArray w (fun e w'=>e= .returned (.int .i64 (Qac p0 p1).2)∧I64 (Qac p0 p1).2∧ ∃ F',SH (Off [Ck.own (α:=List Answer) [v0] p0 F0] w) w w' [Ck.own (α:=List Answer) [v0] (Qac p0 p1).1 F']):=by
 obtain⟨A0,cap0,rfl,hx0⟩:=(hMu0.slO (k:=0) rfl).form
 refine enter Tryz.func65 rfl Tryz.ntmps65 (Nat.le_of_ble_eq_true rfl) ?_
 intro a0 hE0
 have hS0:=hMu0
 have hM:=Qac.eq_1 p0 p1
 have hij1: -9223372036854775808≤p1∧p1≤9223372036854775807:=hi1
 refine wp_seq (wp_region_lit ?_)
 refine Qaa hE0 (Qan hE0 rfl) rfl fun a1 hE1=>wpList_nil ?_
 refine Qab ?_
 refine wp_seq (wp_seq (wp_region_lit ?_))
 refine Qaa hE1 (Qan hE1 rfl) rfl fun a2 hE2=>wpList_nil ?_
 refine Qab ?_
 refine wp_block (wp_loop_ghost (fun fu1 a w2=> ∃ (i1:Nat) (s1_1:Int) (y1_m0:List Answer) (Fy1_m0:List Nat),0≤i1∧fu1=p0.length - i1∧(i1≤p0.length∨i1=0)∧I64 s1_1∧Qac p0 p1=Qbe p0 p1 fu1 i1 s1_1 y1_m0∧Env 35 [(0,.slice A0 p0.length cap0),(1,.int .i64 s1_1),(5,.int .i64 (i1:Int))] a∧SH (Off [Ck.own (α:=List Answer) [.slice A0 p0.length cap0] p0 F0] w) w w2 [Ck.own (α:=List Answer) [.slice A0 p0.length cap0] y1_m0 Fy1_m0]) (p0.length - 0) ⟨0,p1,p0,F0,Nat.le_refl _,rfl,.inr rfl,hi1,hM,hE2.weaken ⟨rfl,rfl,rfl,trivial⟩,hS0⟩ ?_)
 rintro fu1 a3 w3 ⟨i1,s1_1,y1_m0,Fy1_m0,hi1,hfu1,hup1,hgis1_1,hM,hE3,hS3⟩
 have hlry1_m0:=hS3.lenrow (k:=0) rfl
 refine wp_seq (wp_seq (wp_region_lit ?_))
 refine Qaa hE3 (Qai hE3 rfl) rfl fun a4 hE4=>Qaa hE4 (Qai hE4 rfl) rfl fun a5 hE5=>Qaa hE5 (Qf1 hE5 rfl sl78) rfl fun a6 hE6=>Qaa hE6 (Qo9 hE6 rfl rfl) rfl fun a7 hE7=>wpList_nil ?_
 refine Qab ?_
 refine Qd5 hE7 rfl (fun hb8=>?_) (fun hb8=>?_)
 ·
  have hlt1:i1<p0.length:=by have:=of_decide_eq_true hb8;omega
  obtain⟨fu1,rfl⟩: ∃ m,fu1=m+1:=⟨fu1 - 1,by omega⟩
  have hM:=hM.trans (Qbe.eq_2 _ _ _ _ _ _)
  refine wp_skip ?_
  refine Qab ?_
  refine wp_seq (wp_block (wp_seq (wp_region_lit ?_)))
  refine Qaa hE7 (Qai hE7 rfl) rfl fun a9 hE9=>Qaa hE9 (Qai hE9 rfl) rfl fun a10 hE10=>Qaa hE10 (Qai hE10 rfl) rfl fun a11 hE11=>?_
  have hlr12:=hS3.lenrow (k:=0) rfl
  obtain⟨g12,ce12,Fo12,G12,hA12,hn12,hF12⟩:=SH.focus (L:=[]) hS3 (i:=i1) (by omega)
  obtain⟨rfl,rfl,hg12_0,hg12_1,hg12_2,_⟩:=Ycw (show Dat.own w3 ce12 (nth y1_m0 i1) G12 from hF12.get (k:=0) rfl)
  have hS13:=hF12.drop (k:=1)
  refine Qaa hE11 (Qax (A:=⟨g12,0,none⟩) hE11 (congrArg (fun A=>some (Value.slice A p0.length cap0)) hA12) rfl (by omega) (by omega) sl78) rfl fun a14 hE14=>Qaa hE14 (Qau hE14 rfl Yn2 rfl) rfl fun a15 hE15=>Qb2 (α:=Answer) (k:=0) hE15 hS13 [.int .i64 s1_1,.int .i64 ((nth y1_m0 i1).N),.string ((nth y1_m0 i1).Text)] rfl rfl rfl (by rw[Int.toNat_natCast];rfl) rfl (Qbf one3) rfl rfl rfl rfl fun w16 (hS16:SH (Off [Ck.own (α:=List Answer) [.slice A0 p0.length cap0] p0 F0] w) w w16 [Ck.elem (α:=Answer) g12 i1 cap0 [.int .i64 s1_1,.int .i64 ((nth y1_m0 i1).N),.string ((nth y1_m0 i1).Text)] y1_m0 Fo12]) a17 hE17=>wpList_nil ?_
  refine Qab ?_
  refine wp_seq (wp_region_lit ?_)
  refine Qaa hE17 (Qai hE17 rfl) rfl fun a18 hE18=>Qaa hE18 (Qg7 hE18 rfl rfl) rfl fun a19 hE19=>Qaa hE19 (Qan hE19 rfl) rfl fun a20 hE20=>wpList_nil ?_
  refine Qab ?_
  refine wp_seq (wp_region_lit ?_)
  refine Qaa hE20 (Qai hE20 rfl) rfl fun a21 hE21=>Qaa hE21 (Qai hE21 rfl) rfl fun a22 hE22=>Qaa hE22 (Qai hE22 rfl) rfl fun a23 hE23=>?_
  refine Qaa hE23 (Qax (A:=⟨g12,0,none⟩) hE23 (congrArg (fun A=>some (Value.slice A p0.length cap0)) hA12) rfl (by omega) (by omega) sl78) rfl fun a24 hE24=>Qaa hE24 (Qau hE24 rfl Yn1 rfl) rfl fun a25 hE25=>Qb2 (α:=Answer) (k:=0) hE25 hS16 [.int .i64 s1_1,.int .i64 (i64.wrap (s1_1+1)),.string ((nth y1_m0 i1).Text)] rfl rfl rfl (by rw[Int.toNat_natCast];rfl) rfl (Qbf one3) rfl rfl rfl rfl fun w26 (hS26:SH (Off [Ck.own (α:=List Answer) [.slice A0 p0.length cap0] p0 F0] w) w w26 [Ck.elem (α:=Answer) g12 i1 cap0 [.int .i64 s1_1,.int .i64 (i64.wrap (s1_1+1)),.string ((nth y1_m0 i1).Text)] y1_m0 Fo12]) a27 hE27=>wpList_nil ?_
  refine Qab ?_
  refine wp_seq (wp_region_lit ?_)
  refine Qaa hE27 (Qai hE27 rfl) rfl fun a28 hE28=>Qaa hE28 (Qg7 hE28 rfl rfl) rfl fun a29 hE29=>Qaa hE29 (Qan hE29 rfl) rfl fun a30 hE30=>wpList_nil ?_
  refine Qab ?_
  refine wp_seq (wp_region_lit ?_)
  refine Qaa hE30 (Qai hE30 rfl) rfl fun a31 hE31=>Qaa hE31 (Qai hE31 rfl) rfl fun a32 hE32=>Qaa hE32 (Qai hE32 rfl) rfl fun a33 hE33=>Qhh hE33 hS26 Tryz.func57 fb57 fn57 (Qdj (i64.wrap (i64.wrap (s1_1+1)+1)) (Qbb _)) rfl rfl fun w34 hS34 a35 hE35=>?_
  refine Qaa hE35 (Qax (A:=⟨g12,0,none⟩) hE35 (congrArg (fun A=>some (Value.slice A p0.length cap0)) hA12) rfl (by omega) (by omega) sl78) rfl fun a36 hE36=>Qaa hE36 (Qau hE36 rfl Yn0 rfl) rfl fun a37 hE37=>Qb2 (α:=Answer) (k:=0) hE37 hS34 [.int .i64 s1_1,.int .i64 (i64.wrap (s1_1+1)),.string (Qad (i64.wrap (i64.wrap (s1_1+1)+1)))] rfl rfl rfl (by rw[Int.toNat_natCast];rfl) rfl (Qbf one9) rfl rfl rfl rfl fun w38 (hS38:SH (Off [Ck.own (α:=List Answer) [.slice A0 p0.length cap0] p0 F0] w) w w38 [Ck.elem (α:=Answer) g12 i1 cap0 [.int .i64 s1_1,.int .i64 (i64.wrap (s1_1+1)),.string (Qad (i64.wrap (i64.wrap (s1_1+1)+1)))] y1_m0 Fo12]) a39 hE39=>wpList_nil ?_
  refine Qab ?_
  refine wp_region_lit ?_
  refine Qaa hE39 (Qai hE39 rfl) rfl fun a40 hE40=>Qaa hE40 (Qg7 hE40 rfl rfl) rfl fun a41 hE41=>Qaa hE41 (Qan hE41 rfl) rfl fun a42 hE42=>wpList_nil ?_
  refine Qf0 ?_
  refine Qab ?_
  refine wp_region_lit ?_
  refine Qaa hE42 (Qai hE42 rfl) rfl fun a43 hE43=>Qaa hE43 (Qhw hE43 rfl rfl (m:=((i1+1:Nat):Int)) (by omega) (by omega) (by omega)) rfl fun a44 hE44=>Qaa hE44 (Qan hE44 rfl) rfl fun a45 hE45=>wpList_nil ?_
  have hJ46:=SH.flat (L:=[Ck.elem (α:=Answer) g12 i1 cap0 [.int .i64 s1_1,.int .i64 (i64.wrap (s1_1+1)),.string (Qad (i64.wrap (i64.wrap (s1_1+1)+1)))] y1_m0 Fo12]) (α:=Answer) (cs:=[.int .i64 s1_1,.int .i64 (i64.wrap (s1_1+1)),.string (Qad (i64.wrap (i64.wrap (s1_1+1)+1)))]) (x:=(Answer.mk s1_1 (i64.wrap (s1_1+1)) (Qad (i64.wrap (i64.wrap (s1_1+1)+1))))) hS38 (fun _=>Yif (x:=(Answer.mk s1_1 (i64.wrap (s1_1+1)) (Qad (i64.wrap (i64.wrap (s1_1+1)+1))))) hgis1_1 (Qbb _) (Qc2 (by first | assumption | exact Qbb _)))
  obtain⟨F46,hS46⟩:=SH.unfocus (α:=Answer) (L:=[]) hJ46 hA12 hn12 (by omega)
  refine Qab ⟨fu1,Nat.lt_succ_self _,(i1+1),i64.wrap (i64.wrap (i64.wrap (s1_1+1)+1)+1),(y1_m0.set i1 (Answer.mk s1_1 (i64.wrap (s1_1+1)) (Qad (i64.wrap (i64.wrap (s1_1+1)+1))))),F46,by omega,by omega,.inl (by omega),(Qbb _),hM,hE45.weaken ⟨rfl,rfl,rfl,trivial⟩,hS46⟩
 ·
  have hge1: ¬ i1<p0.length:=by have:=of_decide_eq_false hb8;omega
  obtain rfl:fu1=0:=by omega
  have hM:=hM.trans (Qbe.eq_1 _ _ _ _ _)
  refine wp_exit ?_
  refine Qde ?_
  refine Qde ?_
  refine Qhx ?_
  refine Qab ?_
  refine wp_seq (wp_region_lit ?_)
  refine Qaa hE7 (Qai hE7 rfl) rfl fun a47 hE47=>Qaa hE47 (Qan hE47 rfl) rfl fun a48 hE48=>wpList_nil ?_
  refine Qab ?_
  refine wp_ret ?_
  refine fin1 hE48 rfl rfl ?_
  rw[hM]
  exact⟨rfl,hgis1_1,Fy1_m0,hS3⟩
def Qdy (p0:List Cell) (p1:Int):Nat→Nat→Int→List Cell→List Cell×Int
 | 0,i1,s1_1,y1_m0=>(y1_m0,s1_1)
 | fu1+1,i1,s1_1,y1_m0=>Qdy p0 p1 fu1 (i1+1) (i64.wrap (i64.wrap (s1_1+1)+1)) (y1_m0.set i1 (Cell.mk (Qad s1_1) (Qad (i64.wrap (s1_1+1)))))
def Qas (p0:List Cell) (p1:Int):List Cell×Int:=Qdy p0 p1 (p0.length - 0) 0 p1 p0
theorem Qml {v0:Value} (p0:List Cell) {F0:List Nat} (p1:Int) {w:World} (hMu0:SH (Off [Ck.own (α:=List Cell) [v0] p0 F0] w) w w [Ck.own (α:=List Cell) [v0] p0 F0]) (hi1:I64 p1):
  Calls Tryz.prog 54 [v0,.int .i64 p1].toArray w (fun e w'=>e= .returned (.int .i64 (Qas p0 p1).2)∧I64 (Qas p0 p1).2∧ ∃ F',SH (Off [Ck.own (α:=List Cell) [v0] p0 F0] w) w w' [Ck.own (α:=List Cell) [v0] (Qas p0 p1).1 F']):=by
 obtain⟨A0,cap0,rfl,hx0⟩:=(hMu0.slO (k:=0) rfl).form
 refine enter Tryz.func54 rfl Tryz.ntmps54 (Nat.le_of_ble_eq_true rfl) ?_
 intro a0 hE0
 have hS0:=hMu0
 have hM:=Qas.eq_1 p0 p1
 have hij1: -9223372036854775808≤p1∧p1≤9223372036854775807:=hi1
 refine wp_seq (wp_region_lit ?_)
 refine Qaa hE0 (Qan hE0 rfl) rfl fun a1 hE1=>wpList_nil ?_
 refine Qab ?_
 refine wp_seq (wp_seq (wp_region_lit ?_))
 refine Qaa hE1 (Qan hE1 rfl) rfl fun a2 hE2=>wpList_nil ?_
 refine Qab ?_
 refine wp_block (wp_loop_ghost (fun fu1 a w2=> ∃ (i1:Nat) (s1_1:Int) (y1_m0:List Cell) (Fy1_m0:List Nat),0≤i1∧fu1=p0.length - i1∧(i1≤p0.length∨i1=0)∧I64 s1_1∧Qas p0 p1=Qdy p0 p1 fu1 i1 s1_1 y1_m0∧Env 29 [(0,.slice A0 p0.length cap0),(1,.int .i64 s1_1),(5,.int .i64 (i1:Int))] a∧SH (Off [Ck.own (α:=List Cell) [.slice A0 p0.length cap0] p0 F0] w) w w2 [Ck.own (α:=List Cell) [.slice A0 p0.length cap0] y1_m0 Fy1_m0]) (p0.length - 0) ⟨0,p1,p0,F0,Nat.le_refl _,rfl,.inr rfl,hi1,hM,hE2.weaken ⟨rfl,rfl,rfl,trivial⟩,hS0⟩ ?_)
 rintro fu1 a3 w3 ⟨i1,s1_1,y1_m0,Fy1_m0,hi1,hfu1,hup1,hgis1_1,hM,hE3,hS3⟩
 have hlry1_m0:=hS3.lenrow (k:=0) rfl
 refine wp_seq (wp_seq (wp_region_lit ?_))
 refine Qaa hE3 (Qai hE3 rfl) rfl fun a4 hE4=>Qaa hE4 (Qai hE4 rfl) rfl fun a5 hE5=>Qaa hE5 (Qf1 hE5 rfl sl35) rfl fun a6 hE6=>Qaa hE6 (Qo9 hE6 rfl rfl) rfl fun a7 hE7=>wpList_nil ?_
 refine Qab ?_
 refine Qd5 hE7 rfl (fun hb8=>?_) (fun hb8=>?_)
 ·
  have hlt1:i1<p0.length:=by have:=of_decide_eq_true hb8;omega
  obtain⟨fu1,rfl⟩: ∃ m,fu1=m+1:=⟨fu1 - 1,by omega⟩
  have hM:=hM.trans (Qdy.eq_2 _ _ _ _ _ _)
  refine wp_skip ?_
  refine Qab ?_
  refine wp_seq (wp_block (wp_seq (wp_region_lit ?_)))
  refine Qaa hE7 (Qai hE7 rfl) rfl fun a9 hE9=>Qaa hE9 (Qai hE9 rfl) rfl fun a10 hE10=>Qaa hE10 (Qai hE10 rfl) rfl fun a11 hE11=>Qhh hE11 hS3 Tryz.func57 fb57 fn57 (Qdj s1_1 hgis1_1) rfl rfl fun w12 hS12 a13 hE13=>?_
  have hlr14:=hS12.lenrow (k:=0) rfl
  obtain⟨g14,ce14,Fo14,G14,hA14,hn14,hF14⟩:=SH.focus (L:=[]) hS12 (i:=i1) (by omega)
  obtain⟨rfl,rfl,hg14_0,hg14_1,_⟩:=Yid (show Dat.own w12 ce14 (nth y1_m0 i1) G14 from hF14.get (k:=0) rfl)
  have hS15:=hF14.drop (k:=1)
  refine Qaa hE13 (Qax (A:=⟨g14,0,none⟩) hE13 (congrArg (fun A=>some (Value.slice A p0.length cap0)) hA14) rfl (by omega) (by omega) sl35) rfl fun a16 hE16=>Qaa hE16 (Qau hE16 rfl Yof rfl) rfl fun a17 hE17=>Qb2 (α:=Cell) (k:=0) hE17 hS15 [.string (Qad s1_1),.string ((nth y1_m0 i1).Val)] rfl rfl rfl (by rw[Int.toNat_natCast];rfl) rfl (Qbf one9) rfl rfl rfl rfl fun w18 (hS18:SH (Off [Ck.own (α:=List Cell) [.slice A0 p0.length cap0] p0 F0] w) w w18 [Ck.elem (α:=Cell) g14 i1 cap0 [.string (Qad s1_1),.string ((nth y1_m0 i1).Val)] y1_m0 Fo14]) a19 hE19=>wpList_nil ?_
  refine Qab ?_
  refine wp_seq (wp_region_lit ?_)
  refine Qaa hE19 (Qai hE19 rfl) rfl fun a20 hE20=>Qaa hE20 (Qg7 hE20 rfl rfl) rfl fun a21 hE21=>Qaa hE21 (Qan hE21 rfl) rfl fun a22 hE22=>wpList_nil ?_
  refine Qab ?_
  refine wp_seq (wp_region_lit ?_)
  refine Qaa hE22 (Qai hE22 rfl) rfl fun a23 hE23=>Qaa hE23 (Qai hE23 rfl) rfl fun a24 hE24=>Qaa hE24 (Qai hE24 rfl) rfl fun a25 hE25=>Qhh hE25 hS18 Tryz.func57 fb57 fn57 (Qdj (i64.wrap (s1_1+1)) (Qbb _)) rfl rfl fun w26 hS26 a27 hE27=>?_
  refine Qaa hE27 (Qax (A:=⟨g14,0,none⟩) hE27 (congrArg (fun A=>some (Value.slice A p0.length cap0)) hA14) rfl (by omega) (by omega) sl35) rfl fun a28 hE28=>Qaa hE28 (Qau hE28 rfl Yoe rfl) rfl fun a29 hE29=>Qb2 (α:=Cell) (k:=0) hE29 hS26 [.string (Qad s1_1),.string (Qad (i64.wrap (s1_1+1)))] rfl rfl rfl (by rw[Int.toNat_natCast];rfl) rfl (Qbf one9) rfl rfl rfl rfl fun w30 (hS30:SH (Off [Ck.own (α:=List Cell) [.slice A0 p0.length cap0] p0 F0] w) w w30 [Ck.elem (α:=Cell) g14 i1 cap0 [.string (Qad s1_1),.string (Qad (i64.wrap (s1_1+1)))] y1_m0 Fo14]) a31 hE31=>wpList_nil ?_
  refine Qab ?_
  refine wp_region_lit ?_
  refine Qaa hE31 (Qai hE31 rfl) rfl fun a32 hE32=>Qaa hE32 (Qg7 hE32 rfl rfl) rfl fun a33 hE33=>Qaa hE33 (Qan hE33 rfl) rfl fun a34 hE34=>wpList_nil ?_
  refine Qf0 ?_
  refine Qab ?_
  refine wp_region_lit ?_
  refine Qaa hE34 (Qai hE34 rfl) rfl fun a35 hE35=>Qaa hE35 (Qhw hE35 rfl rfl (m:=((i1+1:Nat):Int)) (by omega) (by omega) (by omega)) rfl fun a36 hE36=>Qaa hE36 (Qan hE36 rfl) rfl fun a37 hE37=>wpList_nil ?_
  have hJ38:=SH.flat (L:=[Ck.elem (α:=Cell) g14 i1 cap0 [.string (Qad s1_1),.string (Qad (i64.wrap (s1_1+1)))] y1_m0 Fo14]) (α:=Cell) (cs:=[.string (Qad s1_1),.string (Qad (i64.wrap (s1_1+1)))]) (x:=(Cell.mk (Qad s1_1) (Qad (i64.wrap (s1_1+1))))) hS30 (fun _=>Yl4 (x:=(Cell.mk (Qad s1_1) (Qad (i64.wrap (s1_1+1))))) (Qc2 (by first | assumption | exact Qbb _)) (Qc2 (by first | assumption | exact Qbb _)))
  obtain⟨F38,hS38⟩:=SH.unfocus (α:=Cell) (L:=[]) hJ38 hA14 hn14 (by omega)
  refine Qab ⟨fu1,Nat.lt_succ_self _,(i1+1),i64.wrap (i64.wrap (s1_1+1)+1),(y1_m0.set i1 (Cell.mk (Qad s1_1) (Qad (i64.wrap (s1_1+1))))),F38,by omega,by omega,.inl (by omega),(Qbb _),hM,hE37.weaken ⟨rfl,rfl,rfl,trivial⟩,hS38⟩
 ·
  have hge1: ¬ i1<p0.length:=by have:=of_decide_eq_false hb8;omega
  obtain rfl:fu1=0:=by omega
  have hM:=hM.trans (Qdy.eq_1 _ _ _ _ _)
  refine wp_exit ?_
  refine Qde ?_
  refine Qde ?_
  refine Qhx ?_
  refine Qab ?_
  refine wp_seq (wp_region_lit ?_)
  refine Qaa hE7 (Qai hE7 rfl) rfl fun a39 hE39=>Qaa hE39 (Qan hE39 rfl) rfl fun a40 hE40=>wpList_nil ?_
  refine Qab ?_
  refine wp_ret ?_
  refine fin1 hE40 rfl rfl ?_
  rw[hM]
  exact⟨rfl,hgis1_1,Fy1_m0,hS3⟩
def Qdz (p0:List Call) (p1:Int):Nat→Nat→Int→List Call→List Call×Int
 | 0,i1,s1_1,y1_m0=>(y1_m0,s1_1)
 | fu1+1,i1,s1_1,y1_m0=>Qdz p0 p1 fu1 (i1+1) (i64.wrap (i64.wrap (i64.wrap (i64.wrap (i64.wrap (i64.wrap (s1_1+1)+1)+1)+1)+1)+1)) (y1_m0.set i1 (Call.mk s1_1 (Qad (i64.wrap (s1_1+1))) (Qad (i64.wrap (i64.wrap (s1_1+1)+1))) (i64.wrap (i64.wrap (i64.wrap (s1_1+1)+1)+1)) (i64.wrap (i64.wrap (i64.wrap (i64.wrap (s1_1+1)+1)+1)+1)) (Qad (i64.wrap (i64.wrap (i64.wrap (i64.wrap (i64.wrap (s1_1+1)+1)+1)+1)+1)))))
def Qaf (p0:List Call) (p1:Int):List Call×Int:=Qdz p0 p1 (p0.length - 0) 0 p1 p0
theorem Qyi {v0:Value} (p0:List Call) {F0:List Nat} (p1:Int) {w:World} (hMu0:SH (Off [Ck.own (α:=List Call) [v0] p0 F0] w) w w [Ck.own (α:=List Call) [v0] p0 F0]) (hi1:I64 p1):
  Calls Tryz.prog 113 [v0,.int .i64 p1].toArray w (fun e w'=>e= .returned (.int .i64 (Qaf p0 p1).2)∧I64 (Qaf p0 p1).2∧ ∃ F',SH (Off [Ck.own (α:=List Call) [v0] p0 F0] w) w w' [Ck.own (α:=List Call) [v0] (Qaf p0 p1).1 F']):=by
 obtain⟨A0,cap0,rfl,hx0⟩:=(hMu0.slO (k:=0) rfl).form
 refine enter Tryz.func113 rfl Tryz.ntmps113 (Nat.le_of_ble_eq_true rfl) ?_
 intro a0 hE0
 have hS0:=hMu0
 have hM:=Qaf.eq_1 p0 p1
 have hij1: -9223372036854775808≤p1∧p1≤9223372036854775807:=hi1
 refine wp_seq (wp_region_lit ?_)
 refine Qaa hE0 (Qan hE0 rfl) rfl fun a1 hE1=>wpList_nil ?_
 refine Qab ?_
 refine wp_seq (wp_seq (wp_region_lit ?_))
 refine Qaa hE1 (Qan hE1 rfl) rfl fun a2 hE2=>wpList_nil ?_
 refine Qab ?_
 refine wp_block (wp_loop_ghost (fun fu1 a w2=> ∃ (i1:Nat) (s1_1:Int) (y1_m0:List Call) (Fy1_m0:List Nat),0≤i1∧fu1=p0.length - i1∧(i1≤p0.length∨i1=0)∧I64 s1_1∧Qaf p0 p1=Qdz p0 p1 fu1 i1 s1_1 y1_m0∧Env 58 [(0,.slice A0 p0.length cap0),(1,.int .i64 s1_1),(5,.int .i64 (i1:Int))] a∧SH (Off [Ck.own (α:=List Call) [.slice A0 p0.length cap0] p0 F0] w) w w2 [Ck.own (α:=List Call) [.slice A0 p0.length cap0] y1_m0 Fy1_m0]) (p0.length - 0) ⟨0,p1,p0,F0,Nat.le_refl _,rfl,.inr rfl,hi1,hM,hE2.weaken ⟨rfl,rfl,rfl,trivial⟩,hS0⟩ ?_)
 rintro fu1 a3 w3 ⟨i1,s1_1,y1_m0,Fy1_m0,hi1,hfu1,hup1,hgis1_1,hM,hE3,hS3⟩
 have hlry1_m0:=hS3.lenrow (k:=0) rfl
 refine wp_seq (wp_seq (wp_region_lit ?_))
 refine Qaa hE3 (Qai hE3 rfl) rfl fun a4 hE4=>Qaa hE4 (Qai hE4 rfl) rfl fun a5 hE5=>Qaa hE5 (Qf1 hE5 rfl Yc3) rfl fun a6 hE6=>Qaa hE6 (Qo9 hE6 rfl rfl) rfl fun a7 hE7=>wpList_nil ?_
 refine Qab ?_
 refine Qd5 hE7 rfl (fun hb8=>?_) (fun hb8=>?_)
 ·
  have hlt1:i1<p0.length:=by have:=of_decide_eq_true hb8;omega
  obtain⟨fu1,rfl⟩: ∃ m,fu1=m+1:=⟨fu1 - 1,by omega⟩
  have hM:=hM.trans (Qdz.eq_2 _ _ _ _ _ _)
  refine wp_skip ?_
  refine Qab ?_
  refine wp_seq (wp_block (wp_seq (wp_region_lit ?_)))
  refine Qaa hE7 (Qai hE7 rfl) rfl fun a9 hE9=>Qaa hE9 (Qai hE9 rfl) rfl fun a10 hE10=>Qaa hE10 (Qai hE10 rfl) rfl fun a11 hE11=>?_
  have hlr12:=hS3.lenrow (k:=0) rfl
  obtain⟨g12,ce12,Fo12,G12,hA12,hn12,hF12⟩:=SH.focus (L:=[]) hS3 (i:=i1) (by omega)
  obtain⟨rfl,rfl,hg12_0,hg12_1,hg12_2,hg12_3,hg12_4,hg12_5,_⟩:=Q7r (show Dat.own w3 ce12 (nth y1_m0 i1) G12 from hF12.get (k:=0) rfl)
  have hS13:=hF12.drop (k:=1)
  refine Qaa hE11 (Qax (A:=⟨g12,0,none⟩) hE11 (congrArg (fun A=>some (Value.slice A p0.length cap0)) hA12) rfl (by omega) (by omega) Yc3) rfl fun a14 hE14=>Qaa hE14 (Qau hE14 rfl Yjq rfl) rfl fun a15 hE15=>Qb2 (α:=Call) (k:=0) hE15 hS13 [.int .i64 s1_1,.string ((nth y1_m0 i1).Name),.string ((nth y1_m0 i1).To),.int .i64 ((nth y1_m0 i1).A),.int .i64 ((nth y1_m0 i1).B),.string ((nth y1_m0 i1).Text)] rfl rfl rfl (by rw[Int.toNat_natCast];rfl) rfl (Qbf one3) rfl rfl rfl rfl fun w16 (hS16:SH (Off [Ck.own (α:=List Call) [.slice A0 p0.length cap0] p0 F0] w) w w16 [Ck.elem (α:=Call) g12 i1 cap0 [.int .i64 s1_1,.string ((nth y1_m0 i1).Name),.string ((nth y1_m0 i1).To),.int .i64 ((nth y1_m0 i1).A),.int .i64 ((nth y1_m0 i1).B),.string ((nth y1_m0 i1).Text)] y1_m0 Fo12]) a17 hE17=>wpList_nil ?_
  refine Qab ?_
  refine wp_seq (wp_region_lit ?_)
  refine Qaa hE17 (Qai hE17 rfl) rfl fun a18 hE18=>Qaa hE18 (Qg7 hE18 rfl rfl) rfl fun a19 hE19=>Qaa hE19 (Qan hE19 rfl) rfl fun a20 hE20=>wpList_nil ?_
  refine Qab ?_
  refine wp_seq (wp_region_lit ?_)
  refine Qaa hE20 (Qai hE20 rfl) rfl fun a21 hE21=>Qaa hE21 (Qai hE21 rfl) rfl fun a22 hE22=>Qaa hE22 (Qai hE22 rfl) rfl fun a23 hE23=>Qhh hE23 hS16 Tryz.func57 fb57 fn57 (Qdj (i64.wrap (s1_1+1)) (Qbb _)) rfl rfl fun w24 hS24 a25 hE25=>?_
  refine Qaa hE25 (Qax (A:=⟨g12,0,none⟩) hE25 (congrArg (fun A=>some (Value.slice A p0.length cap0)) hA12) rfl (by omega) (by omega) Yc3) rfl fun a26 hE26=>Qaa hE26 (Qau hE26 rfl Yjp rfl) rfl fun a27 hE27=>Qb2 (α:=Call) (k:=0) hE27 hS24 [.int .i64 s1_1,.string (Qad (i64.wrap (s1_1+1))),.string ((nth y1_m0 i1).To),.int .i64 ((nth y1_m0 i1).A),.int .i64 ((nth y1_m0 i1).B),.string ((nth y1_m0 i1).Text)] rfl rfl rfl (by rw[Int.toNat_natCast];rfl) rfl (Qbf one9) rfl rfl rfl rfl fun w28 (hS28:SH (Off [Ck.own (α:=List Call) [.slice A0 p0.length cap0] p0 F0] w) w w28 [Ck.elem (α:=Call) g12 i1 cap0 [.int .i64 s1_1,.string (Qad (i64.wrap (s1_1+1))),.string ((nth y1_m0 i1).To),.int .i64 ((nth y1_m0 i1).A),.int .i64 ((nth y1_m0 i1).B),.string ((nth y1_m0 i1).Text)] y1_m0 Fo12]) a29 hE29=>wpList_nil ?_
  refine Qab ?_
  refine wp_seq (wp_region_lit ?_)
  refine Qaa hE29 (Qai hE29 rfl) rfl fun a30 hE30=>Qaa hE30 (Qg7 hE30 rfl rfl) rfl fun a31 hE31=>Qaa hE31 (Qan hE31 rfl) rfl fun a32 hE32=>wpList_nil ?_
  refine Qab ?_
  refine wp_seq (wp_region_lit ?_)
  refine Qaa hE32 (Qai hE32 rfl) rfl fun a33 hE33=>Qaa hE33 (Qai hE33 rfl) rfl fun a34 hE34=>Qaa hE34 (Qai hE34 rfl) rfl fun a35 hE35=>Qhh hE35 hS28 Tryz.func57 fb57 fn57 (Qdj (i64.wrap (i64.wrap (s1_1+1)+1)) (Qbb _)) rfl rfl fun w36 hS36 a37 hE37=>?_
  refine Qaa hE37 (Qax (A:=⟨g12,0,none⟩) hE37 (congrArg (fun A=>some (Value.slice A p0.length cap0)) hA12) rfl (by omega) (by omega) Yc3) rfl fun a38 hE38=>Qaa hE38 (Qau hE38 rfl Yjo rfl) rfl fun a39 hE39=>Qb2 (α:=Call) (k:=0) hE39 hS36 [.int .i64 s1_1,.string (Qad (i64.wrap (s1_1+1))),.string (Qad (i64.wrap (i64.wrap (s1_1+1)+1))),.int .i64 ((nth y1_m0 i1).A),.int .i64 ((nth y1_m0 i1).B),.string ((nth y1_m0 i1).Text)] rfl rfl rfl (by rw[Int.toNat_natCast];rfl) rfl (Qbf one9) rfl rfl rfl rfl fun w40 (hS40:SH (Off [Ck.own (α:=List Call) [.slice A0 p0.length cap0] p0 F0] w) w w40 [Ck.elem (α:=Call) g12 i1 cap0 [.int .i64 s1_1,.string (Qad (i64.wrap (s1_1+1))),.string (Qad (i64.wrap (i64.wrap (s1_1+1)+1))),.int .i64 ((nth y1_m0 i1).A),.int .i64 ((nth y1_m0 i1).B),.string ((nth y1_m0 i1).Text)] y1_m0 Fo12]) a41 hE41=>wpList_nil ?_
  refine Qab ?_
  refine wp_seq (wp_region_lit ?_)
  refine Qaa hE41 (Qai hE41 rfl) rfl fun a42 hE42=>Qaa hE42 (Qg7 hE42 rfl rfl) rfl fun a43 hE43=>Qaa hE43 (Qan hE43 rfl) rfl fun a44 hE44=>wpList_nil ?_
  refine Qab ?_
  refine wp_seq (wp_region_lit ?_)
  refine Qaa hE44 (Qai hE44 rfl) rfl fun a45 hE45=>Qaa hE45 (Qai hE45 rfl) rfl fun a46 hE46=>Qaa hE46 (Qai hE46 rfl) rfl fun a47 hE47=>?_
  refine Qaa hE47 (Qax (A:=⟨g12,0,none⟩) hE47 (congrArg (fun A=>some (Value.slice A p0.length cap0)) hA12) rfl (by omega) (by omega) Yc3) rfl fun a48 hE48=>Qaa hE48 (Qau hE48 rfl Yjn rfl) rfl fun a49 hE49=>Qb2 (α:=Call) (k:=0) hE49 hS40 [.int .i64 s1_1,.string (Qad (i64.wrap (s1_1+1))),.string (Qad (i64.wrap (i64.wrap (s1_1+1)+1))),.int .i64 (i64.wrap (i64.wrap (i64.wrap (s1_1+1)+1)+1)),.int .i64 ((nth y1_m0 i1).B),.string ((nth y1_m0 i1).Text)] rfl rfl rfl (by rw[Int.toNat_natCast];rfl) rfl (Qbf one3) rfl rfl rfl rfl fun w50 (hS50:SH (Off [Ck.own (α:=List Call) [.slice A0 p0.length cap0] p0 F0] w) w w50 [Ck.elem (α:=Call) g12 i1 cap0 [.int .i64 s1_1,.string (Qad (i64.wrap (s1_1+1))),.string (Qad (i64.wrap (i64.wrap (s1_1+1)+1))),.int .i64 (i64.wrap (i64.wrap (i64.wrap (s1_1+1)+1)+1)),.int .i64 ((nth y1_m0 i1).B),.string ((nth y1_m0 i1).Text)] y1_m0 Fo12]) a51 hE51=>wpList_nil ?_
  refine Qab ?_
  refine wp_seq (wp_region_lit ?_)
  refine Qaa hE51 (Qai hE51 rfl) rfl fun a52 hE52=>Qaa hE52 (Qg7 hE52 rfl rfl) rfl fun a53 hE53=>Qaa hE53 (Qan hE53 rfl) rfl fun a54 hE54=>wpList_nil ?_
  refine Qab ?_
  refine wp_seq (wp_region_lit ?_)
  refine Qaa hE54 (Qai hE54 rfl) rfl fun a55 hE55=>Qaa hE55 (Qai hE55 rfl) rfl fun a56 hE56=>Qaa hE56 (Qai hE56 rfl) rfl fun a57 hE57=>?_
  refine Qaa hE57 (Qax (A:=⟨g12,0,none⟩) hE57 (congrArg (fun A=>some (Value.slice A p0.length cap0)) hA12) rfl (by omega) (by omega) Yc3) rfl fun a58 hE58=>Qaa hE58 (Qau hE58 rfl Yjm rfl) rfl fun a59 hE59=>Qb2 (α:=Call) (k:=0) hE59 hS50 [.int .i64 s1_1,.string (Qad (i64.wrap (s1_1+1))),.string (Qad (i64.wrap (i64.wrap (s1_1+1)+1))),.int .i64 (i64.wrap (i64.wrap (i64.wrap (s1_1+1)+1)+1)),.int .i64 (i64.wrap (i64.wrap (i64.wrap (i64.wrap (s1_1+1)+1)+1)+1)),.string ((nth y1_m0 i1).Text)] rfl rfl rfl (by rw[Int.toNat_natCast];rfl) rfl (Qbf one3) rfl rfl rfl rfl fun w60 (hS60:SH (Off [Ck.own (α:=List Call) [.slice A0 p0.length cap0] p0 F0] w) w w60 [Ck.elem (α:=Call) g12 i1 cap0 [.int .i64 s1_1,.string (Qad (i64.wrap (s1_1+1))),.string (Qad (i64.wrap (i64.wrap (s1_1+1)+1))),.int .i64 (i64.wrap (i64.wrap (i64.wrap (s1_1+1)+1)+1)),.int .i64 (i64.wrap (i64.wrap (i64.wrap (i64.wrap (s1_1+1)+1)+1)+1)),.string ((nth y1_m0 i1).Text)] y1_m0 Fo12]) a61 hE61=>wpList_nil ?_
  refine Qab ?_
  refine wp_seq (wp_region_lit ?_)
  refine Qaa hE61 (Qai hE61 rfl) rfl fun a62 hE62=>Qaa hE62 (Qg7 hE62 rfl rfl) rfl fun a63 hE63=>Qaa hE63 (Qan hE63 rfl) rfl fun a64 hE64=>wpList_nil ?_
  refine Qab ?_
  refine wp_seq (wp_region_lit ?_)
  refine Qaa hE64 (Qai hE64 rfl) rfl fun a65 hE65=>Qaa hE65 (Qai hE65 rfl) rfl fun a66 hE66=>Qaa hE66 (Qai hE66 rfl) rfl fun a67 hE67=>Qhh hE67 hS60 Tryz.func57 fb57 fn57 (Qdj (i64.wrap (i64.wrap (i64.wrap (i64.wrap (i64.wrap (s1_1+1)+1)+1)+1)+1)) (Qbb _)) rfl rfl fun w68 hS68 a69 hE69=>?_
  refine Qaa hE69 (Qax (A:=⟨g12,0,none⟩) hE69 (congrArg (fun A=>some (Value.slice A p0.length cap0)) hA12) rfl (by omega) (by omega) Yc3) rfl fun a70 hE70=>Qaa hE70 (Qau hE70 rfl Yjl rfl) rfl fun a71 hE71=>Qb2 (α:=Call) (k:=0) hE71 hS68 [.int .i64 s1_1,.string (Qad (i64.wrap (s1_1+1))),.string (Qad (i64.wrap (i64.wrap (s1_1+1)+1))),.int .i64 (i64.wrap (i64.wrap (i64.wrap (s1_1+1)+1)+1)),.int .i64 (i64.wrap (i64.wrap (i64.wrap (i64.wrap (s1_1+1)+1)+1)+1)),.string (Qad (i64.wrap (i64.wrap (i64.wrap (i64.wrap (i64.wrap (s1_1+1)+1)+1)+1)+1)))] rfl rfl rfl (by rw[Int.toNat_natCast];rfl) rfl (Qbf one9) rfl rfl rfl rfl fun w72 (hS72:SH (Off [Ck.own (α:=List Call) [.slice A0 p0.length cap0] p0 F0] w) w w72 [Ck.elem (α:=Call) g12 i1 cap0 [.int .i64 s1_1,.string (Qad (i64.wrap (s1_1+1))),.string (Qad (i64.wrap (i64.wrap (s1_1+1)+1))),.int .i64 (i64.wrap (i64.wrap (i64.wrap (s1_1+1)+1)+1)),.int .i64 (i64.wrap (i64.wrap (i64.wrap (i64.wrap (s1_1+1)+1)+1)+1)),.string (Qad (i64.wrap (i64.wrap (i64.wrap (i64.wrap (i64.wrap (s1_1+1)+1)+1)+1)+1)))] y1_m0 Fo12]) a73 hE73=>wpList_nil ?_
  refine Qab ?_
  refine wp_region_lit ?_
  refine Qaa hE73 (Qai hE73 rfl) rfl fun a74 hE74=>Qaa hE74 (Qg7 hE74 rfl rfl) rfl fun a75 hE75=>Qaa hE75 (Qan hE75 rfl) rfl fun a76 hE76=>wpList_nil ?_
  refine Qf0 ?_
  refine Qab ?_
  refine wp_region_lit ?_
  refine Qaa hE76 (Qai hE76 rfl) rfl fun a77 hE77=>Qaa hE77 (Qhw hE77 rfl rfl (m:=((i1+1:Nat):Int)) (by omega) (by omega) (by omega)) rfl fun a78 hE78=>Qaa hE78 (Qan hE78 rfl) rfl fun a79 hE79=>wpList_nil ?_
  have hJ80:=SH.flat (L:=[Ck.elem (α:=Call) g12 i1 cap0 [.int .i64 s1_1,.string (Qad (i64.wrap (s1_1+1))),.string (Qad (i64.wrap (i64.wrap (s1_1+1)+1))),.int .i64 (i64.wrap (i64.wrap (i64.wrap (s1_1+1)+1)+1)),.int .i64 (i64.wrap (i64.wrap (i64.wrap (i64.wrap (s1_1+1)+1)+1)+1)),.string (Qad (i64.wrap (i64.wrap (i64.wrap (i64.wrap (i64.wrap (s1_1+1)+1)+1)+1)+1)))] y1_m0 Fo12]) (α:=Call) (cs:=[.int .i64 s1_1,.string (Qad (i64.wrap (s1_1+1))),.string (Qad (i64.wrap (i64.wrap (s1_1+1)+1))),.int .i64 (i64.wrap (i64.wrap (i64.wrap (s1_1+1)+1)+1)),.int .i64 (i64.wrap (i64.wrap (i64.wrap (i64.wrap (s1_1+1)+1)+1)+1)),.string (Qad (i64.wrap (i64.wrap (i64.wrap (i64.wrap (i64.wrap (s1_1+1)+1)+1)+1)+1)))]) (x:=(Call.mk s1_1 (Qad (i64.wrap (s1_1+1))) (Qad (i64.wrap (i64.wrap (s1_1+1)+1))) (i64.wrap (i64.wrap (i64.wrap (s1_1+1)+1)+1)) (i64.wrap (i64.wrap (i64.wrap (i64.wrap (s1_1+1)+1)+1)+1)) (Qad (i64.wrap (i64.wrap (i64.wrap (i64.wrap (i64.wrap (s1_1+1)+1)+1)+1)+1))))) hS72 (fun _=>Ye2 (x:=(Call.mk s1_1 (Qad (i64.wrap (s1_1+1))) (Qad (i64.wrap (i64.wrap (s1_1+1)+1))) (i64.wrap (i64.wrap (i64.wrap (s1_1+1)+1)+1)) (i64.wrap (i64.wrap (i64.wrap (i64.wrap (s1_1+1)+1)+1)+1)) (Qad (i64.wrap (i64.wrap (i64.wrap (i64.wrap (i64.wrap (s1_1+1)+1)+1)+1)+1))))) hgis1_1 (Qc2 (by first | assumption | exact Qbb _)) (Qc2 (by first | assumption | exact Qbb _)) (Qbb _) (Qbb _) (Qc2 (by first | assumption | exact Qbb _)))
  obtain⟨F80,hS80⟩:=SH.unfocus (α:=Call) (L:=[]) hJ80 hA12 hn12 (by omega)
  refine Qab ⟨fu1,Nat.lt_succ_self _,(i1+1),i64.wrap (i64.wrap (i64.wrap (i64.wrap (i64.wrap (i64.wrap (s1_1+1)+1)+1)+1)+1)+1),(y1_m0.set i1 (Call.mk s1_1 (Qad (i64.wrap (s1_1+1))) (Qad (i64.wrap (i64.wrap (s1_1+1)+1))) (i64.wrap (i64.wrap (i64.wrap (s1_1+1)+1)+1)) (i64.wrap (i64.wrap (i64.wrap (i64.wrap (s1_1+1)+1)+1)+1)) (Qad (i64.wrap (i64.wrap (i64.wrap (i64.wrap (i64.wrap (s1_1+1)+1)+1)+1)+1))))),F80,by omega,by omega,.inl (by omega),(Qbb _),hM,hE79.weaken ⟨rfl,rfl,rfl,trivial⟩,hS80⟩
 ·
  have hge1: ¬ i1<p0.length:=by have:=of_decide_eq_false hb8;omega
  obtain rfl:fu1=0:=by omega
  have hM:=hM.trans (Qdz.eq_1 _ _ _ _ _)
  refine wp_exit ?_
  refine Qde ?_
  refine Qde ?_
  refine Qhx ?_
  refine Qab ?_
  refine wp_seq (wp_region_lit ?_)
  refine Qaa hE7 (Qai hE7 rfl) rfl fun a81 hE81=>Qaa hE81 (Qan hE81 rfl) rfl fun a82 hE82=>wpList_nil ?_
  refine Qab ?_
  refine wp_ret ?_
  refine fin1 hE82 rfl rfl ?_
  rw[hM]
  exact⟨rfl,hgis1_1,Fy1_m0,hS3⟩
def Qfl (p0:List Int) (p1:Int):Nat→Nat→Int→List Int→List Int×Int
 | 0,i1,s1_1,y1_m0=>(y1_m0,s1_1)
 | fu1+1,i1,s1_1,y1_m0=>Qfl p0 p1 fu1 (i1+1) (i64.wrap (s1_1+1)) (y1_m0.set i1 s1_1)
def Qbg (p0:List Int) (p1:Int):List Int×Int:=Qfl p0 p1 (p0.length - 0) 0 p1 p0
theorem Q0a {v0:Value} (p0:List Int) {F0:List Nat} (p1:Int) {w:World} (hMu0:SH (Off [Ck.own (α:=List Int) [v0] p0 F0] w) w w [Ck.own (α:=List Int) [v0] p0 F0]) (hi1:I64 p1):
  Calls Tryz.prog 114 [v0,.int .i64 p1].toArray w (fun e w'=>e= .returned (.int .i64 (Qbg p0 p1).2)∧I64 (Qbg p0 p1).2∧ ∃ F',SH (Off [Ck.own (α:=List Int) [v0] p0 F0] w) w w' [Ck.own (α:=List Int) [v0] (Qbg p0 p1).1 F']):=by
 obtain⟨A0,cap0,rfl,hx0⟩:=(hMu0.slO (k:=0) rfl).form
 refine enter Tryz.func114 rfl Tryz.ntmps114 (Nat.le_of_ble_eq_true rfl) ?_
 intro a0 hE0
 have hS0:=hMu0
 have hM:=Qbg.eq_1 p0 p1
 have hij1: -9223372036854775808≤p1∧p1≤9223372036854775807:=hi1
 refine wp_seq (wp_region_lit ?_)
 refine Qaa hE0 (Qan hE0 rfl) rfl fun a1 hE1=>wpList_nil ?_
 refine Qab ?_
 refine wp_seq (wp_seq (wp_region_lit ?_))
 refine Qaa hE1 (Qan hE1 rfl) rfl fun a2 hE2=>wpList_nil ?_
 refine Qab ?_
 refine wp_block (wp_loop_ghost (fun fu1 a w2=> ∃ (i1:Nat) (s1_1:Int) (y1_m0:List Int) (Fy1_m0:List Nat),0≤i1∧fu1=p0.length - i1∧(i1≤p0.length∨i1=0)∧I64 s1_1∧Qbg p0 p1=Qfl p0 p1 fu1 i1 s1_1 y1_m0∧Env 19 [(0,.slice A0 p0.length cap0),(1,.int .i64 s1_1),(5,.int .i64 (i1:Int))] a∧SH (Off [Ck.own (α:=List Int) [.slice A0 p0.length cap0] p0 F0] w) w w2 [Ck.own (α:=List Int) [.slice A0 p0.length cap0] y1_m0 Fy1_m0]) (p0.length - 0) ⟨0,p1,p0,F0,Nat.le_refl _,rfl,.inr rfl,hi1,hM,hE2.weaken ⟨rfl,rfl,rfl,trivial⟩,hS0⟩ ?_)
 rintro fu1 a3 w3 ⟨i1,s1_1,y1_m0,Fy1_m0,hi1,hfu1,hup1,hgis1_1,hM,hE3,hS3⟩
 have hlry1_m0:=hS3.lenrow (k:=0) rfl
 refine wp_seq (wp_seq (wp_region_lit ?_))
 refine Qaa hE3 (Qai hE3 rfl) rfl fun a4 hE4=>Qaa hE4 (Qai hE4 rfl) rfl fun a5 hE5=>Qaa hE5 (Qf1 hE5 rfl sl87) rfl fun a6 hE6=>Qaa hE6 (Qo9 hE6 rfl rfl) rfl fun a7 hE7=>wpList_nil ?_
 refine Qab ?_
 refine Qd5 hE7 rfl (fun hb8=>?_) (fun hb8=>?_)
 ·
  have hlt1:i1<p0.length:=by have:=of_decide_eq_true hb8;omega
  obtain⟨fu1,rfl⟩: ∃ m,fu1=m+1:=⟨fu1 - 1,by omega⟩
  have hM:=hM.trans (Qfl.eq_2 _ _ _ _ _ _)
  refine wp_skip ?_
  refine Qab ?_
  refine wp_seq (wp_block (wp_seq (wp_region_lit ?_)))
  refine Qaa hE7 (Qai hE7 rfl) rfl fun a9 hE9=>Qaa hE9 (Qai hE9 rfl) rfl fun a10 hE10=>Qaa hE10 (Qai hE10 rfl) rfl fun a11 hE11=>?_
  have hlr12:=hS3.lenrow (k:=0) rfl
  obtain⟨g12,ce12,Fo12,G12,hA12,hn12,hF12⟩:=SH.focus (L:=[]) hS3 (i:=i1) (by omega)
  obtain⟨⟨rfl,hg12⟩,rfl⟩:=(show Dat.own w3 ce12 (nth y1_m0 i1) G12 from hF12.get (k:=0) rfl)
  have hS13:=hF12.drop (k:=1)
  refine Qaa hE11 (Qax (A:=⟨g12,0,none⟩) hE11 (congrArg (fun A=>some (Value.slice A p0.length cap0)) hA12) rfl (by omega) (by omega) sl87) rfl fun a14 hE14=>Qb2 (α:=Int) (k:=0) hE14 hS13 [.int .i64 s1_1] rfl rfl rfl (by rw[Int.toNat_natCast];rfl) rfl (Qbf one3) rfl rfl rfl rfl fun w15 (hS15:SH (Off [Ck.own (α:=List Int) [.slice A0 p0.length cap0] p0 F0] w) w w15 [Ck.elem (α:=Int) g12 i1 cap0 [.int .i64 s1_1] y1_m0 Fo12]) a16 hE16=>wpList_nil ?_
  refine Qab ?_
  refine wp_region_lit ?_
  refine Qaa hE16 (Qai hE16 rfl) rfl fun a17 hE17=>Qaa hE17 (Qg7 hE17 rfl rfl) rfl fun a18 hE18=>Qaa hE18 (Qan hE18 rfl) rfl fun a19 hE19=>wpList_nil ?_
  refine Qf0 ?_
  refine Qab ?_
  refine wp_region_lit ?_
  refine Qaa hE19 (Qai hE19 rfl) rfl fun a20 hE20=>Qaa hE20 (Qhw hE20 rfl rfl (m:=((i1+1:Nat):Int)) (by omega) (by omega) (by omega)) rfl fun a21 hE21=>Qaa hE21 (Qan hE21 rfl) rfl fun a22 hE22=>wpList_nil ?_
  have hJ23:=SH.flat (L:=[Ck.elem (α:=Int) g12 i1 cap0 [.int .i64 s1_1] y1_m0 Fo12]) (α:=Int) (cs:=[.int .i64 s1_1]) (x:=s1_1) hS15 (fun _=>⟨⟨rfl,hgis1_1⟩,rfl⟩)
  obtain⟨F23,hS23⟩:=SH.unfocus (α:=Int) (L:=[]) hJ23 hA12 hn12 (by omega)
  refine Qab ⟨fu1,Nat.lt_succ_self _,(i1+1),i64.wrap (s1_1+1),(y1_m0.set i1 s1_1),F23,by omega,by omega,.inl (by omega),(Qbb _),hM,hE22.weaken ⟨rfl,rfl,rfl,trivial⟩,hS23⟩
 ·
  have hge1: ¬ i1<p0.length:=by have:=of_decide_eq_false hb8;omega
  obtain rfl:fu1=0:=by omega
  have hM:=hM.trans (Qfl.eq_1 _ _ _ _ _)
  refine wp_exit ?_
  refine Qde ?_
  refine Qde ?_
  refine Qhx ?_
  refine Qab ?_
  refine wp_seq (wp_region_lit ?_)
  refine Qaa hE7 (Qai hE7 rfl) rfl fun a24 hE24=>Qaa hE24 (Qan hE24 rfl) rfl fun a25 hE25=>wpList_nil ?_
  refine Qab ?_
  refine wp_ret ?_
  refine fin1 hE25 rfl rfl ?_
  rw[hM]
  exact⟨rfl,hgis1_1,Fy1_m0,hS3⟩
end
section
theorem Yoi:Qb1 Tryz.prog 108 0 0=true:=by kernel_rfl
theorem Yoh:Qb1 Tryz.prog 108 1 1=true:=by kernel_rfl
theorem Yog:Qb1 Tryz.prog 108 2 2=true:=by kernel_rfl
theorem Yod:Qb1 Tryz.prog 117 0 0=true:=by kernel_rfl
theorem Yoc:Qb1 Tryz.prog 117 1 1=true:=by kernel_rfl
theorem Yob:Qb1 Tryz.prog 119 0 0=true:=by kernel_rfl
theorem Yoa:Qb1 Tryz.prog 119 1 1=true:=by kernel_rfl
theorem Yn9:Qb1 Tryz.prog 119 2 2=true:=by kernel_rfl
theorem Yn8:Qb1 Tryz.prog 119 3 3=true:=by kernel_rfl
theorem Yn7:Qb1 Tryz.prog 119 4 4=true:=by kernel_rfl
theorem Yn6:Qb1 Tryz.prog 119 5 5=true:=by kernel_rfl
theorem Yjr:Qb1 Tryz.prog 119 6 6=true:=by kernel_rfl
theorem Yn5:Qb1 Tryz.prog 119 7 8=true:=by kernel_rfl
theorem Yn4:Qb1 Tryz.prog 119 8 9=true:=by kernel_rfl
theorem Yn3:Qb1 Tryz.prog 151 0 0=true:=by kernel_rfl
theorem Qrq:Qb1 Tryz.prog 151 1 1=true:=by kernel_rfl
theorem Yrn:Qb1 Tryz.prog 80 0 0=true:=by kernel_rfl
theorem Yrm:Qb1 Tryz.prog 80 1 1=true:=by kernel_rfl
theorem Yrl:Qb1 Tryz.prog 80 2 2=true:=by kernel_rfl
theorem Yrk:Qb1 Tryz.prog 80 3 3=true:=by kernel_rfl
theorem Yrj:Qb1 Tryz.prog 80 4 4=true:=by kernel_rfl
theorem Yri:Qb1 Tryz.prog 80 5 5=true:=by kernel_rfl
theorem Yrh:Qb1 Tryz.prog 80 6 6=true:=by kernel_rfl
theorem Yrg:Qb1 Tryz.prog 80 7 7=true:=by kernel_rfl
theorem Yuf:Tryz.f113.body.isNone=false:=rfl
theorem Yue:Tryz.f114.body.isNone=false:=rfl
theorem fb20:Tryz.f20.body.isNone=false:=rfl
theorem fb54:Tryz.f54.body.isNone=false:=rfl
theorem fb64:Tryz.f64.body.isNone=false:=rfl
theorem fb65:Tryz.f65.body.isNone=false:=rfl
theorem Yuc:(Tryz.f113.name == "runtime.NumGoroutine")=false:=by kernel_rfl
theorem Yub:(Tryz.f114.name == "runtime.NumGoroutine")=false:=by kernel_rfl
theorem fn20:(Tryz.f20.name == "runtime.NumGoroutine")=false:=by kernel_rfl
theorem fn54:(Tryz.f54.name == "runtime.NumGoroutine")=false:=by kernel_rfl
theorem fn64:(Tryz.f64.name == "runtime.NumGoroutine")=false:=by kernel_rfl
theorem fn65:(Tryz.f65.name == "runtime.NumGoroutine")=false:=by kernel_rfl
theorem Ypb:Qhf Tryz.prog 116=true:=by kernel_rfl
theorem Ypa:Qhf Tryz.prog 30=true:=by kernel_rfl
theorem Ysw:Qhf Tryz.prog 35=true:=by kernel_rfl
theorem one4:Qhf Tryz.prog 4=true:=by kernel_rfl
theorem Ysv:Qhf Tryz.prog 77=true:=by kernel_rfl
theorem Yo9:Qhf Tryz.prog 78=true:=by kernel_rfl
theorem Ysu:Qhf Tryz.prog 87=true:=by kernel_rfl
theorem sl36:Qcv Tryz.prog 36 119 10 160=true:=by kernel_rfl
theorem sl37:Qcv Tryz.prog 37 108 3 40=true:=by kernel_rfl
theorem sl41:Qcv Tryz.prog 41 80 8 96=true:=by kernel_rfl
theorem sl77:Qcv Tryz.prog 77 151 7 80=true:=by kernel_rfl
def Qfh (p0:List Tx) (p1:Int):Nat→Nat→Int→List Tx→List Tx×Int
 | 0,i1,s1_1,y1_m0=>(y1_m0,s1_1)
 | fu1+1,i1,s1_1,y1_m0=>Qfh p0 p1 fu1 (i1+1) (i64.wrap ((Qbg ((nth y1_m0 i1).Marks) ((Qae ((nth y1_m0 i1).Touch.Writes) ((Qae ((nth y1_m0 i1).Touch.Reads) ((Qac ((nth y1_m0 i1).Answers) ((Qaf ((nth y1_m0 i1).Calls) (i64.wrap (i64.wrap (i64.wrap (i64.wrap (s1_1+1)+1)+1)+1))).2)).2)).2)).2)).2+1)) (y1_m0.set i1 (Tx.mk s1_1 (i64.wrap (s1_1+1)) (i64.wrap (i64.wrap (s1_1+1)+1)) (i64.wrap (i64.wrap (i64.wrap (s1_1+1)+1)+1)) ((Qaf ((nth y1_m0 i1).Calls) (i64.wrap (i64.wrap (i64.wrap (i64.wrap (s1_1+1)+1)+1)+1))).1) ((Qac ((nth y1_m0 i1).Answers) ((Qaf ((nth y1_m0 i1).Calls) (i64.wrap (i64.wrap (i64.wrap (i64.wrap (s1_1+1)+1)+1)+1))).2)).1) (Touch.mk ((Qae ((nth y1_m0 i1).Touch.Reads) ((Qac ((nth y1_m0 i1).Answers) ((Qaf ((nth y1_m0 i1).Calls) (i64.wrap (i64.wrap (i64.wrap (i64.wrap (s1_1+1)+1)+1)+1))).2)).2)).1) ((Qae ((nth y1_m0 i1).Touch.Writes) ((Qae ((nth y1_m0 i1).Touch.Reads) ((Qac ((nth y1_m0 i1).Answers) ((Qaf ((nth y1_m0 i1).Calls) (i64.wrap (i64.wrap (i64.wrap (i64.wrap (s1_1+1)+1)+1)+1))).2)).2)).2)).1)) ((Qbg ((nth y1_m0 i1).Marks) ((Qae ((nth y1_m0 i1).Touch.Writes) ((Qae ((nth y1_m0 i1).Touch.Reads) ((Qac ((nth y1_m0 i1).Answers) ((Qaf ((nth y1_m0 i1).Calls) (i64.wrap (i64.wrap (i64.wrap (i64.wrap (s1_1+1)+1)+1)+1))).2)).2)).2)).2)).1) ((Qbg ((nth y1_m0 i1).Marks) ((Qae ((nth y1_m0 i1).Touch.Writes) ((Qae ((nth y1_m0 i1).Touch.Reads) ((Qac ((nth y1_m0 i1).Answers) ((Qaf ((nth y1_m0 i1).Calls) (i64.wrap (i64.wrap (i64.wrap (i64.wrap (s1_1+1)+1)+1)+1))).2)).2)).2)).2)).2)))
def Qdc (p0:List Tx) (p1:Int):List Tx×Int:=Qfh p0 p1 (p0.length - 0) 0 p1 p0
theorem Q1m {v0:Value} (p0:List Tx) {F0:List Nat} (p1:Int) {w:World} (hMu0:SH (Off [Ck.own (α:=List Tx) [v0] p0 F0] w) w w [Ck.own (α:=List Tx) [v0] p0 F0]) (hi1:I64 p1):
  Calls Tryz.prog 55 [v0,.int .i64 p1].toArray w (fun e w'=>e= .returned (.int .i64 (Qdc p0 p1).2)∧I64 (Qdc p0 p1).2∧ ∃ F',SH (Off [Ck.own (α:=List Tx) [v0] p0 F0] w) w w' [Ck.own (α:=List Tx) [v0] (Qdc p0 p1).1 F']):=by
 obtain⟨A0,cap0,rfl,hx0⟩:=(hMu0.slO (k:=0) rfl).form
 refine enter Tryz.func55 rfl Tryz.ntmps55 (Nat.le_of_ble_eq_true rfl) ?_
 intro a0 hE0
 have hS0:=hMu0
 have hM:=Qdc.eq_1 p0 p1
 have hij1: -9223372036854775808≤p1∧p1≤9223372036854775807:=hi1
 refine wp_seq (wp_region_lit ?_)
 refine Qaa hE0 (Qan hE0 rfl) rfl fun a1 hE1=>wpList_nil ?_
 refine Qab ?_
 refine wp_seq (wp_seq (wp_region_lit ?_))
 refine Qaa hE1 (Qan hE1 rfl) rfl fun a2 hE2=>wpList_nil ?_
 refine Qab ?_
 refine wp_block (wp_loop_ghost (fun fu1 a w2=> ∃ (i1:Nat) (s1_1:Int) (y1_m0:List Tx) (Fy1_m0:List Nat),0≤i1∧fu1=p0.length - i1∧(i1≤p0.length∨i1=0)∧I64 s1_1∧Qdc p0 p1=Qfh p0 p1 fu1 i1 s1_1 y1_m0∧Env 85 [(0,.slice A0 p0.length cap0),(1,.int .i64 s1_1),(5,.int .i64 (i1:Int))] a∧SH (Off [Ck.own (α:=List Tx) [.slice A0 p0.length cap0] p0 F0] w) w w2 [Ck.own (α:=List Tx) [.slice A0 p0.length cap0] y1_m0 Fy1_m0]) (p0.length - 0) ⟨0,p1,p0,F0,Nat.le_refl _,rfl,.inr rfl,hi1,hM,hE2.weaken ⟨rfl,rfl,rfl,trivial⟩,hS0⟩ ?_)
 rintro fu1 a3 w3 ⟨i1,s1_1,y1_m0,Fy1_m0,hi1,hfu1,hup1,hgis1_1,hM,hE3,hS3⟩
 have hlry1_m0:=hS3.lenrow (k:=0) rfl
 refine wp_seq (wp_seq (wp_region_lit ?_))
 refine Qaa hE3 (Qai hE3 rfl) rfl fun a4 hE4=>Qaa hE4 (Qai hE4 rfl) rfl fun a5 hE5=>Qaa hE5 (Qf1 hE5 rfl sl36) rfl fun a6 hE6=>Qaa hE6 (Qo9 hE6 rfl rfl) rfl fun a7 hE7=>wpList_nil ?_
 refine Qab ?_
 refine Qd5 hE7 rfl (fun hb8=>?_) (fun hb8=>?_)
 ·
  have hlt1:i1<p0.length:=by have:=of_decide_eq_true hb8;omega
  obtain⟨fu1,rfl⟩: ∃ m,fu1=m+1:=⟨fu1 - 1,by omega⟩
  have hM:=hM.trans (Qfh.eq_2 _ _ _ _ _ _)
  refine wp_skip ?_
  refine Qab ?_
  refine wp_seq (wp_block (wp_seq (wp_region_lit ?_)))
  refine Qaa hE7 (Qai hE7 rfl) rfl fun a9 hE9=>Qaa hE9 (Qai hE9 rfl) rfl fun a10 hE10=>Qaa hE10 (Qai hE10 rfl) rfl fun a11 hE11=>?_
  have hlr12:=hS3.lenrow (k:=0) rfl
  obtain⟨g12,ce12,Fo12,G12,hA12,hn12,hF12⟩:=SH.focus (L:=[]) hS3 (i:=i1) (by omega)
  obtain⟨v12_4,F12_4,v12_5,F12_5,v12_6,F12_6,v12_7,F12_7,v12_8,F12_8,rfl,rfl,hg12_0,hg12_1,hg12_2,hg12_3,ho12_4,ho12_5,ho12_6,ho12_7,ho12_8,hg12_9,_⟩:=Yly (show Dat.own w3 ce12 (nth y1_m0 i1) G12 from hF12.get (k:=0) rfl)
  obtain⟨A12_4,cp12_4,rfl,hx12_4⟩:=ho12_4.form
  obtain⟨A12_5,cp12_5,rfl,hx12_5⟩:=ho12_5.form
  obtain⟨A12_6,cp12_6,rfl,hx12_6⟩:=ho12_6.form
  obtain⟨A12_7,cp12_7,rfl,hx12_7⟩:=ho12_7.form
  obtain⟨A12_8,cp12_8,rfl,hx12_8⟩:=ho12_8.form
  have hS13:=hF12.split [Ck.own (α:=List Call) [.slice A12_4 ((nth y1_m0 i1).Calls.length) cp12_4] ((nth y1_m0 i1).Calls) F12_4,Ck.own (α:=List Answer) [.slice A12_5 ((nth y1_m0 i1).Answers.length) cp12_5] ((nth y1_m0 i1).Answers) F12_5,Ck.own (α:=List ByteArray) [.slice A12_6 ((nth y1_m0 i1).Touch.Reads.length) cp12_6] ((nth y1_m0 i1).Touch.Reads) F12_6,Ck.own (α:=List ByteArray) [.slice A12_7 ((nth y1_m0 i1).Touch.Writes.length) cp12_7] ((nth y1_m0 i1).Touch.Writes) F12_7,Ck.own (α:=List Int) [.slice A12_8 ((nth y1_m0 i1).Marks.length) cp12_8] ((nth y1_m0 i1).Marks) F12_8] (by simp only[Ck.own,flatMap_cons,flatMap_nil,append_nil,append_assoc]) (Qi2 (Q7z ho12_4) (Qi2 (Q7z ho12_5) (Qi2 (Q7z ho12_6) (Qi2 (Q7z ho12_7) (Qi2 (Q7z ho12_8) Q7y)))))
  simp only[List.cons_append,nil_append] at hS13
  refine Qaa hE11 (Qax (A:=⟨g12,0,none⟩) hE11 (congrArg (fun A=>some (Value.slice A p0.length cap0)) hA12) rfl (by omega) (by omega) sl36) rfl fun a14 hE14=>Qaa hE14 (Qau hE14 rfl Yob rfl) rfl fun a15 hE15=>Qb2 (α:=Tx) (k:=5) hE15 hS13 [.int .i64 s1_1,.int .i64 ((nth y1_m0 i1).Age),.int .i64 ((nth y1_m0 i1).Proc),.int .i64 ((nth y1_m0 i1).Began),.slice A12_4 ((nth y1_m0 i1).Calls.length) cp12_4,.slice A12_5 ((nth y1_m0 i1).Answers.length) cp12_5,.slice A12_6 ((nth y1_m0 i1).Touch.Reads.length) cp12_6,.slice A12_7 ((nth y1_m0 i1).Touch.Writes.length) cp12_7,.slice A12_8 ((nth y1_m0 i1).Marks.length) cp12_8,.int .i64 ((nth y1_m0 i1).State)] rfl rfl rfl (by rw[Int.toNat_natCast];rfl) rfl (Qbf one3) rfl rfl rfl rfl fun w16 (hS16:SH (Off [Ck.own (α:=List Tx) [.slice A0 p0.length cap0] p0 F0] w) w w16 [Ck.own (α:=List Call) [.slice A12_4 ((nth y1_m0 i1).Calls.length) cp12_4] ((nth y1_m0 i1).Calls) F12_4,Ck.own (α:=List Answer) [.slice A12_5 ((nth y1_m0 i1).Answers.length) cp12_5] ((nth y1_m0 i1).Answers) F12_5,Ck.own (α:=List ByteArray) [.slice A12_6 ((nth y1_m0 i1).Touch.Reads.length) cp12_6] ((nth y1_m0 i1).Touch.Reads) F12_6,Ck.own (α:=List ByteArray) [.slice A12_7 ((nth y1_m0 i1).Touch.Writes.length) cp12_7] ((nth y1_m0 i1).Touch.Writes) F12_7,Ck.own (α:=List Int) [.slice A12_8 ((nth y1_m0 i1).Marks.length) cp12_8] ((nth y1_m0 i1).Marks) F12_8,Ck.elem (α:=Tx) g12 i1 cap0 [.int .i64 s1_1,.int .i64 ((nth y1_m0 i1).Age),.int .i64 ((nth y1_m0 i1).Proc),.int .i64 ((nth y1_m0 i1).Began),.slice A12_4 ((nth y1_m0 i1).Calls.length) cp12_4,.slice A12_5 ((nth y1_m0 i1).Answers.length) cp12_5,.slice A12_6 ((nth y1_m0 i1).Touch.Reads.length) cp12_6,.slice A12_7 ((nth y1_m0 i1).Touch.Writes.length) cp12_7,.slice A12_8 ((nth y1_m0 i1).Marks.length) cp12_8,.int .i64 ((nth y1_m0 i1).State)] y1_m0 Fo12]) a17 hE17=>wpList_nil ?_
  refine Qab ?_
  refine wp_seq (wp_region_lit ?_)
  refine Qaa hE17 (Qai hE17 rfl) rfl fun a18 hE18=>Qaa hE18 (Qg7 hE18 rfl rfl) rfl fun a19 hE19=>Qaa hE19 (Qan hE19 rfl) rfl fun a20 hE20=>wpList_nil ?_
  refine Qab ?_
  refine wp_seq (wp_region_lit ?_)
  refine Qaa hE20 (Qai hE20 rfl) rfl fun a21 hE21=>Qaa hE21 (Qai hE21 rfl) rfl fun a22 hE22=>Qaa hE22 (Qai hE22 rfl) rfl fun a23 hE23=>?_
  refine Qaa hE23 (Qax (A:=⟨g12,0,none⟩) hE23 (congrArg (fun A=>some (Value.slice A p0.length cap0)) hA12) rfl (by omega) (by omega) sl36) rfl fun a24 hE24=>Qaa hE24 (Qau hE24 rfl Yoa rfl) rfl fun a25 hE25=>Qb2 (α:=Tx) (k:=5) hE25 hS16 [.int .i64 s1_1,.int .i64 (i64.wrap (s1_1+1)),.int .i64 ((nth y1_m0 i1).Proc),.int .i64 ((nth y1_m0 i1).Began),.slice A12_4 ((nth y1_m0 i1).Calls.length) cp12_4,.slice A12_5 ((nth y1_m0 i1).Answers.length) cp12_5,.slice A12_6 ((nth y1_m0 i1).Touch.Reads.length) cp12_6,.slice A12_7 ((nth y1_m0 i1).Touch.Writes.length) cp12_7,.slice A12_8 ((nth y1_m0 i1).Marks.length) cp12_8,.int .i64 ((nth y1_m0 i1).State)] rfl rfl rfl (by rw[Int.toNat_natCast];rfl) rfl (Qbf one3) rfl rfl rfl rfl fun w26 (hS26:SH (Off [Ck.own (α:=List Tx) [.slice A0 p0.length cap0] p0 F0] w) w w26 [Ck.own (α:=List Call) [.slice A12_4 ((nth y1_m0 i1).Calls.length) cp12_4] ((nth y1_m0 i1).Calls) F12_4,Ck.own (α:=List Answer) [.slice A12_5 ((nth y1_m0 i1).Answers.length) cp12_5] ((nth y1_m0 i1).Answers) F12_5,Ck.own (α:=List ByteArray) [.slice A12_6 ((nth y1_m0 i1).Touch.Reads.length) cp12_6] ((nth y1_m0 i1).Touch.Reads) F12_6,Ck.own (α:=List ByteArray) [.slice A12_7 ((nth y1_m0 i1).Touch.Writes.length) cp12_7] ((nth y1_m0 i1).Touch.Writes) F12_7,Ck.own (α:=List Int) [.slice A12_8 ((nth y1_m0 i1).Marks.length) cp12_8] ((nth y1_m0 i1).Marks) F12_8,Ck.elem (α:=Tx) g12 i1 cap0 [.int .i64 s1_1,.int .i64 (i64.wrap (s1_1+1)),.int .i64 ((nth y1_m0 i1).Proc),.int .i64 ((nth y1_m0 i1).Began),.slice A12_4 ((nth y1_m0 i1).Calls.length) cp12_4,.slice A12_5 ((nth y1_m0 i1).Answers.length) cp12_5,.slice A12_6 ((nth y1_m0 i1).Touch.Reads.length) cp12_6,.slice A12_7 ((nth y1_m0 i1).Touch.Writes.length) cp12_7,.slice A12_8 ((nth y1_m0 i1).Marks.length) cp12_8,.int .i64 ((nth y1_m0 i1).State)] y1_m0 Fo12]) a27 hE27=>wpList_nil ?_
  refine Qab ?_
  refine wp_seq (wp_region_lit ?_)
  refine Qaa hE27 (Qai hE27 rfl) rfl fun a28 hE28=>Qaa hE28 (Qg7 hE28 rfl rfl) rfl fun a29 hE29=>Qaa hE29 (Qan hE29 rfl) rfl fun a30 hE30=>wpList_nil ?_
  refine Qab ?_
  refine wp_seq (wp_region_lit ?_)
  refine Qaa hE30 (Qai hE30 rfl) rfl fun a31 hE31=>Qaa hE31 (Qai hE31 rfl) rfl fun a32 hE32=>Qaa hE32 (Qai hE32 rfl) rfl fun a33 hE33=>?_
  refine Qaa hE33 (Qax (A:=⟨g12,0,none⟩) hE33 (congrArg (fun A=>some (Value.slice A p0.length cap0)) hA12) rfl (by omega) (by omega) sl36) rfl fun a34 hE34=>Qaa hE34 (Qau hE34 rfl Yn9 rfl) rfl fun a35 hE35=>Qb2 (α:=Tx) (k:=5) hE35 hS26 [.int .i64 s1_1,.int .i64 (i64.wrap (s1_1+1)),.int .i64 (i64.wrap (i64.wrap (s1_1+1)+1)),.int .i64 ((nth y1_m0 i1).Began),.slice A12_4 ((nth y1_m0 i1).Calls.length) cp12_4,.slice A12_5 ((nth y1_m0 i1).Answers.length) cp12_5,.slice A12_6 ((nth y1_m0 i1).Touch.Reads.length) cp12_6,.slice A12_7 ((nth y1_m0 i1).Touch.Writes.length) cp12_7,.slice A12_8 ((nth y1_m0 i1).Marks.length) cp12_8,.int .i64 ((nth y1_m0 i1).State)] rfl rfl rfl (by rw[Int.toNat_natCast];rfl) rfl (Qbf one3) rfl rfl rfl rfl fun w36 (hS36:SH (Off [Ck.own (α:=List Tx) [.slice A0 p0.length cap0] p0 F0] w) w w36 [Ck.own (α:=List Call) [.slice A12_4 ((nth y1_m0 i1).Calls.length) cp12_4] ((nth y1_m0 i1).Calls) F12_4,Ck.own (α:=List Answer) [.slice A12_5 ((nth y1_m0 i1).Answers.length) cp12_5] ((nth y1_m0 i1).Answers) F12_5,Ck.own (α:=List ByteArray) [.slice A12_6 ((nth y1_m0 i1).Touch.Reads.length) cp12_6] ((nth y1_m0 i1).Touch.Reads) F12_6,Ck.own (α:=List ByteArray) [.slice A12_7 ((nth y1_m0 i1).Touch.Writes.length) cp12_7] ((nth y1_m0 i1).Touch.Writes) F12_7,Ck.own (α:=List Int) [.slice A12_8 ((nth y1_m0 i1).Marks.length) cp12_8] ((nth y1_m0 i1).Marks) F12_8,Ck.elem (α:=Tx) g12 i1 cap0 [.int .i64 s1_1,.int .i64 (i64.wrap (s1_1+1)),.int .i64 (i64.wrap (i64.wrap (s1_1+1)+1)),.int .i64 ((nth y1_m0 i1).Began),.slice A12_4 ((nth y1_m0 i1).Calls.length) cp12_4,.slice A12_5 ((nth y1_m0 i1).Answers.length) cp12_5,.slice A12_6 ((nth y1_m0 i1).Touch.Reads.length) cp12_6,.slice A12_7 ((nth y1_m0 i1).Touch.Writes.length) cp12_7,.slice A12_8 ((nth y1_m0 i1).Marks.length) cp12_8,.int .i64 ((nth y1_m0 i1).State)] y1_m0 Fo12]) a37 hE37=>wpList_nil ?_
  refine Qab ?_
  refine wp_seq (wp_region_lit ?_)
  refine Qaa hE37 (Qai hE37 rfl) rfl fun a38 hE38=>Qaa hE38 (Qg7 hE38 rfl rfl) rfl fun a39 hE39=>Qaa hE39 (Qan hE39 rfl) rfl fun a40 hE40=>wpList_nil ?_
  refine Qab ?_
  refine wp_seq (wp_region_lit ?_)
  refine Qaa hE40 (Qai hE40 rfl) rfl fun a41 hE41=>Qaa hE41 (Qai hE41 rfl) rfl fun a42 hE42=>Qaa hE42 (Qai hE42 rfl) rfl fun a43 hE43=>?_
  refine Qaa hE43 (Qax (A:=⟨g12,0,none⟩) hE43 (congrArg (fun A=>some (Value.slice A p0.length cap0)) hA12) rfl (by omega) (by omega) sl36) rfl fun a44 hE44=>Qaa hE44 (Qau hE44 rfl Yn8 rfl) rfl fun a45 hE45=>Qb2 (α:=Tx) (k:=5) hE45 hS36 [.int .i64 s1_1,.int .i64 (i64.wrap (s1_1+1)),.int .i64 (i64.wrap (i64.wrap (s1_1+1)+1)),.int .i64 (i64.wrap (i64.wrap (i64.wrap (s1_1+1)+1)+1)),.slice A12_4 ((nth y1_m0 i1).Calls.length) cp12_4,.slice A12_5 ((nth y1_m0 i1).Answers.length) cp12_5,.slice A12_6 ((nth y1_m0 i1).Touch.Reads.length) cp12_6,.slice A12_7 ((nth y1_m0 i1).Touch.Writes.length) cp12_7,.slice A12_8 ((nth y1_m0 i1).Marks.length) cp12_8,.int .i64 ((nth y1_m0 i1).State)] rfl rfl rfl (by rw[Int.toNat_natCast];rfl) rfl (Qbf one3) rfl rfl rfl rfl fun w46 (hS46:SH (Off [Ck.own (α:=List Tx) [.slice A0 p0.length cap0] p0 F0] w) w w46 [Ck.own (α:=List Call) [.slice A12_4 ((nth y1_m0 i1).Calls.length) cp12_4] ((nth y1_m0 i1).Calls) F12_4,Ck.own (α:=List Answer) [.slice A12_5 ((nth y1_m0 i1).Answers.length) cp12_5] ((nth y1_m0 i1).Answers) F12_5,Ck.own (α:=List ByteArray) [.slice A12_6 ((nth y1_m0 i1).Touch.Reads.length) cp12_6] ((nth y1_m0 i1).Touch.Reads) F12_6,Ck.own (α:=List ByteArray) [.slice A12_7 ((nth y1_m0 i1).Touch.Writes.length) cp12_7] ((nth y1_m0 i1).Touch.Writes) F12_7,Ck.own (α:=List Int) [.slice A12_8 ((nth y1_m0 i1).Marks.length) cp12_8] ((nth y1_m0 i1).Marks) F12_8,Ck.elem (α:=Tx) g12 i1 cap0 [.int .i64 s1_1,.int .i64 (i64.wrap (s1_1+1)),.int .i64 (i64.wrap (i64.wrap (s1_1+1)+1)),.int .i64 (i64.wrap (i64.wrap (i64.wrap (s1_1+1)+1)+1)),.slice A12_4 ((nth y1_m0 i1).Calls.length) cp12_4,.slice A12_5 ((nth y1_m0 i1).Answers.length) cp12_5,.slice A12_6 ((nth y1_m0 i1).Touch.Reads.length) cp12_6,.slice A12_7 ((nth y1_m0 i1).Touch.Writes.length) cp12_7,.slice A12_8 ((nth y1_m0 i1).Marks.length) cp12_8,.int .i64 ((nth y1_m0 i1).State)] y1_m0 Fo12]) a47 hE47=>wpList_nil ?_
  refine Qab ?_
  refine wp_seq (wp_region_lit ?_)
  refine Qaa hE47 (Qai hE47 rfl) rfl fun a48 hE48=>Qaa hE48 (Qg7 hE48 rfl rfl) rfl fun a49 hE49=>Qaa hE49 (Qan hE49 rfl) rfl fun a50 hE50=>wpList_nil ?_
  refine Qab ?_
  refine wp_seq (wp_region_lit ?_)
  refine Qaa hE50 (Qai hE50 rfl) rfl fun a51 hE51=>Qaa hE51 (Qai hE51 rfl) rfl fun a52 hE52=>?_
  refine Qaa hE52 (Qax (A:=⟨g12,0,none⟩) hE52 (congrArg (fun A=>some (Value.slice A p0.length cap0)) hA12) rfl (by omega) (by omega) sl36) rfl fun a53 hE53=>Qaa hE53 (Qau hE53 rfl Yn7 rfl) rfl fun a54 hE54=>Qaa hE54 (Qf8 hE54 rfl (hS46.elemCells (k:=5) (p:=(((i1:Int)).toNat*10)) rfl (by rw[Int.toNat_natCast];rfl)) rfl Ypb) rfl fun a55 hE55=>Qaa hE55 (Qai hE55 rfl) rfl fun a56 hE56=>?_
  have hP57:SH (Off [Ck.own (α:=List Tx) [.slice A0 p0.length cap0] p0 F0] w) w w46 (Ck.own (α:=List Call) [.slice A12_4 ((nth y1_m0 i1).Calls.length) cp12_4] ((nth y1_m0 i1).Calls) F12_4::[Ck.own (α:=List Answer) [.slice A12_5 ((nth y1_m0 i1).Answers.length) cp12_5] ((nth y1_m0 i1).Answers) F12_5,Ck.own (α:=List ByteArray) [.slice A12_6 ((nth y1_m0 i1).Touch.Reads.length) cp12_6] ((nth y1_m0 i1).Touch.Reads) F12_6,Ck.own (α:=List ByteArray) [.slice A12_7 ((nth y1_m0 i1).Touch.Writes.length) cp12_7] ((nth y1_m0 i1).Touch.Writes) F12_7,Ck.own (α:=List Int) [.slice A12_8 ((nth y1_m0 i1).Marks.length) cp12_8] ((nth y1_m0 i1).Marks) F12_8,Ck.elem (α:=Tx) g12 i1 cap0 [.int .i64 s1_1,.int .i64 (i64.wrap (s1_1+1)),.int .i64 (i64.wrap (i64.wrap (s1_1+1)+1)),.int .i64 (i64.wrap (i64.wrap (i64.wrap (s1_1+1)+1)+1)),.slice A12_4 ((nth y1_m0 i1).Calls.length) cp12_4,.slice A12_5 ((nth y1_m0 i1).Answers.length) cp12_5,.slice A12_6 ((nth y1_m0 i1).Touch.Reads.length) cp12_6,.slice A12_7 ((nth y1_m0 i1).Touch.Writes.length) cp12_7,.slice A12_8 ((nth y1_m0 i1).Marks.length) cp12_8,.int .i64 ((nth y1_m0 i1).State)] y1_m0 Fo12]):=hS46
  refine Qkq (c:=Ck.own (α:=List Call) [.slice A12_4 ((nth y1_m0 i1).Calls.length) cp12_4] ((nth y1_m0 i1).Calls) F12_4) (c':=fun F57=>Ck.own (α:=List Call) [.slice A12_4 ((nth y1_m0 i1).Calls.length) cp12_4] ((Qaf ((nth y1_m0 i1).Calls) (i64.wrap (i64.wrap (i64.wrap (i64.wrap (s1_1+1)+1)+1)+1))).1) F57) (R:=I64 (Qaf ((nth y1_m0 i1).Calls) (i64.wrap (i64.wrap (i64.wrap (i64.wrap (s1_1+1)+1)+1)+1))).2) hE56 hP57 Tryz.func113 Yuf Yuc (Qyi ((nth y1_m0 i1).Calls) (i64.wrap (i64.wrap (i64.wrap (i64.wrap (s1_1+1)+1)+1)+1)) (SH.off (M:=[Ck.own (α:=List Call) [.slice A12_4 ((nth y1_m0 i1).Calls.length) cp12_4] ((nth y1_m0 i1).Calls) F12_4]) (R:=[Ck.own (α:=List Answer) [.slice A12_5 ((nth y1_m0 i1).Answers.length) cp12_5] ((nth y1_m0 i1).Answers) F12_5,Ck.own (α:=List ByteArray) [.slice A12_6 ((nth y1_m0 i1).Touch.Reads.length) cp12_6] ((nth y1_m0 i1).Touch.Reads) F12_6,Ck.own (α:=List ByteArray) [.slice A12_7 ((nth y1_m0 i1).Touch.Writes.length) cp12_7] ((nth y1_m0 i1).Touch.Writes) F12_7,Ck.own (α:=List Int) [.slice A12_8 ((nth y1_m0 i1).Marks.length) cp12_8] ((nth y1_m0 i1).Marks) F12_8,Ck.elem (α:=Tx) g12 i1 cap0 [.int .i64 s1_1,.int .i64 (i64.wrap (s1_1+1)),.int .i64 (i64.wrap (i64.wrap (s1_1+1)+1)),.int .i64 (i64.wrap (i64.wrap (i64.wrap (s1_1+1)+1)+1)),.slice A12_4 ((nth y1_m0 i1).Calls.length) cp12_4,.slice A12_5 ((nth y1_m0 i1).Answers.length) cp12_5,.slice A12_6 ((nth y1_m0 i1).Touch.Reads.length) cp12_6,.slice A12_7 ((nth y1_m0 i1).Touch.Writes.length) cp12_7,.slice A12_8 ((nth y1_m0 i1).Marks.length) cp12_8,.int .i64 ((nth y1_m0 i1).State)] y1_m0 Fo12]) hP57) (Qbb _)) rfl rfl fun F57 w57 hR57 hS57 a58 hE58=>Qaa hE58 (Qan hE58 rfl) rfl fun a59 hE59=>wpList_nil ?_
  refine Qab ?_
  refine wp_seq (wp_region_lit ?_)
  refine Qaa hE59 (Qai hE59 rfl) rfl fun a60 hE60=>Qaa hE60 (Qai hE60 rfl) rfl fun a61 hE61=>?_
  refine Qaa hE61 (Qax (A:=⟨g12,0,none⟩) hE61 (congrArg (fun A=>some (Value.slice A p0.length cap0)) hA12) rfl (by omega) (by omega) sl36) rfl fun a62 hE62=>Qaa hE62 (Qau hE62 rfl Yn6 rfl) rfl fun a63 hE63=>Qaa hE63 (Qf8 hE63 rfl (hS57.elemCells (k:=5) (p:=(((i1:Int)).toNat*10)) rfl (by rw[Int.toNat_natCast];rfl)) rfl Yo9) rfl fun a64 hE64=>Qaa hE64 (Qai hE64 rfl) rfl fun a65 hE65=>?_
  have hP66:SH (Off [Ck.own (α:=List Tx) [.slice A0 p0.length cap0] p0 F0] w) w w57 (Ck.own (α:=List Answer) [.slice A12_5 ((nth y1_m0 i1).Answers.length) cp12_5] ((nth y1_m0 i1).Answers) F12_5::[Ck.own (α:=List Call) [.slice A12_4 ((nth y1_m0 i1).Calls.length) cp12_4] ((Qaf ((nth y1_m0 i1).Calls) (i64.wrap (i64.wrap (i64.wrap (i64.wrap (s1_1+1)+1)+1)+1))).1) F57,Ck.own (α:=List ByteArray) [.slice A12_6 ((nth y1_m0 i1).Touch.Reads.length) cp12_6] ((nth y1_m0 i1).Touch.Reads) F12_6,Ck.own (α:=List ByteArray) [.slice A12_7 ((nth y1_m0 i1).Touch.Writes.length) cp12_7] ((nth y1_m0 i1).Touch.Writes) F12_7,Ck.own (α:=List Int) [.slice A12_8 ((nth y1_m0 i1).Marks.length) cp12_8] ((nth y1_m0 i1).Marks) F12_8,Ck.elem (α:=Tx) g12 i1 cap0 [.int .i64 s1_1,.int .i64 (i64.wrap (s1_1+1)),.int .i64 (i64.wrap (i64.wrap (s1_1+1)+1)),.int .i64 (i64.wrap (i64.wrap (i64.wrap (s1_1+1)+1)+1)),.slice A12_4 ((nth y1_m0 i1).Calls.length) cp12_4,.slice A12_5 ((nth y1_m0 i1).Answers.length) cp12_5,.slice A12_6 ((nth y1_m0 i1).Touch.Reads.length) cp12_6,.slice A12_7 ((nth y1_m0 i1).Touch.Writes.length) cp12_7,.slice A12_8 ((nth y1_m0 i1).Marks.length) cp12_8,.int .i64 ((nth y1_m0 i1).State)] y1_m0 Fo12]):=(hS57.pick [1,0,2,3,4,5] (by decide) rfl)
  refine Qkq (c:=Ck.own (α:=List Answer) [.slice A12_5 ((nth y1_m0 i1).Answers.length) cp12_5] ((nth y1_m0 i1).Answers) F12_5) (c':=fun F66=>Ck.own (α:=List Answer) [.slice A12_5 ((nth y1_m0 i1).Answers.length) cp12_5] ((Qac ((nth y1_m0 i1).Answers) ((Qaf ((nth y1_m0 i1).Calls) (i64.wrap (i64.wrap (i64.wrap (i64.wrap (s1_1+1)+1)+1)+1))).2)).1) F66) (R:=I64 (Qac ((nth y1_m0 i1).Answers) ((Qaf ((nth y1_m0 i1).Calls) (i64.wrap (i64.wrap (i64.wrap (i64.wrap (s1_1+1)+1)+1)+1))).2)).2) hE65 hP66 Tryz.func65 fb65 fn65 (Qkx ((nth y1_m0 i1).Answers) ((Qaf ((nth y1_m0 i1).Calls) (i64.wrap (i64.wrap (i64.wrap (i64.wrap (s1_1+1)+1)+1)+1))).2) (SH.off (M:=[Ck.own (α:=List Answer) [.slice A12_5 ((nth y1_m0 i1).Answers.length) cp12_5] ((nth y1_m0 i1).Answers) F12_5]) (R:=[Ck.own (α:=List Call) [.slice A12_4 ((nth y1_m0 i1).Calls.length) cp12_4] ((Qaf ((nth y1_m0 i1).Calls) (i64.wrap (i64.wrap (i64.wrap (i64.wrap (s1_1+1)+1)+1)+1))).1) F57,Ck.own (α:=List ByteArray) [.slice A12_6 ((nth y1_m0 i1).Touch.Reads.length) cp12_6] ((nth y1_m0 i1).Touch.Reads) F12_6,Ck.own (α:=List ByteArray) [.slice A12_7 ((nth y1_m0 i1).Touch.Writes.length) cp12_7] ((nth y1_m0 i1).Touch.Writes) F12_7,Ck.own (α:=List Int) [.slice A12_8 ((nth y1_m0 i1).Marks.length) cp12_8] ((nth y1_m0 i1).Marks) F12_8,Ck.elem (α:=Tx) g12 i1 cap0 [.int .i64 s1_1,.int .i64 (i64.wrap (s1_1+1)),.int .i64 (i64.wrap (i64.wrap (s1_1+1)+1)),.int .i64 (i64.wrap (i64.wrap (i64.wrap (s1_1+1)+1)+1)),.slice A12_4 ((nth y1_m0 i1).Calls.length) cp12_4,.slice A12_5 ((nth y1_m0 i1).Answers.length) cp12_5,.slice A12_6 ((nth y1_m0 i1).Touch.Reads.length) cp12_6,.slice A12_7 ((nth y1_m0 i1).Touch.Writes.length) cp12_7,.slice A12_8 ((nth y1_m0 i1).Marks.length) cp12_8,.int .i64 ((nth y1_m0 i1).State)] y1_m0 Fo12]) hP66) hR57) rfl rfl fun F66 w66 hR66 hS66 a67 hE67=>Qaa hE67 (Qan hE67 rfl) rfl fun a68 hE68=>wpList_nil ?_
  refine Qab ?_
  refine wp_seq (wp_region_lit ?_)
  refine Qaa hE68 (Qai hE68 rfl) rfl fun a69 hE69=>Qaa hE69 (Qai hE69 rfl) rfl fun a70 hE70=>?_
  refine Qaa hE70 (Qax (A:=⟨g12,0,none⟩) hE70 (congrArg (fun A=>some (Value.slice A p0.length cap0)) hA12) rfl (by omega) (by omega) sl36) rfl fun a71 hE71=>Qaa hE71 (Qau hE71 rfl Yjr rfl) rfl fun a72 hE72=>Qaa hE72 (Qau hE72 rfl Yod rfl) rfl fun a73 hE73=>Qaa hE73 (Qf8 hE73 rfl (hS66.elemCells (k:=5) (p:=(((i1:Int)).toNat*10)) rfl (by rw[Int.toNat_natCast];rfl)) rfl Ypa) rfl fun a74 hE74=>Qaa hE74 (Qai hE74 rfl) rfl fun a75 hE75=>?_
  have hP76:SH (Off [Ck.own (α:=List Tx) [.slice A0 p0.length cap0] p0 F0] w) w w66 (Ck.own (α:=List ByteArray) [.slice A12_6 ((nth y1_m0 i1).Touch.Reads.length) cp12_6] ((nth y1_m0 i1).Touch.Reads) F12_6::[Ck.own (α:=List Answer) [.slice A12_5 ((nth y1_m0 i1).Answers.length) cp12_5] ((Qac ((nth y1_m0 i1).Answers) ((Qaf ((nth y1_m0 i1).Calls) (i64.wrap (i64.wrap (i64.wrap (i64.wrap (s1_1+1)+1)+1)+1))).2)).1) F66,Ck.own (α:=List Call) [.slice A12_4 ((nth y1_m0 i1).Calls.length) cp12_4] ((Qaf ((nth y1_m0 i1).Calls) (i64.wrap (i64.wrap (i64.wrap (i64.wrap (s1_1+1)+1)+1)+1))).1) F57,Ck.own (α:=List ByteArray) [.slice A12_7 ((nth y1_m0 i1).Touch.Writes.length) cp12_7] ((nth y1_m0 i1).Touch.Writes) F12_7,Ck.own (α:=List Int) [.slice A12_8 ((nth y1_m0 i1).Marks.length) cp12_8] ((nth y1_m0 i1).Marks) F12_8,Ck.elem (α:=Tx) g12 i1 cap0 [.int .i64 s1_1,.int .i64 (i64.wrap (s1_1+1)),.int .i64 (i64.wrap (i64.wrap (s1_1+1)+1)),.int .i64 (i64.wrap (i64.wrap (i64.wrap (s1_1+1)+1)+1)),.slice A12_4 ((nth y1_m0 i1).Calls.length) cp12_4,.slice A12_5 ((nth y1_m0 i1).Answers.length) cp12_5,.slice A12_6 ((nth y1_m0 i1).Touch.Reads.length) cp12_6,.slice A12_7 ((nth y1_m0 i1).Touch.Writes.length) cp12_7,.slice A12_8 ((nth y1_m0 i1).Marks.length) cp12_8,.int .i64 ((nth y1_m0 i1).State)] y1_m0 Fo12]):=(hS66.pick [2,0,1,3,4,5] (by decide) rfl)
  refine Qkq (c:=Ck.own (α:=List ByteArray) [.slice A12_6 ((nth y1_m0 i1).Touch.Reads.length) cp12_6] ((nth y1_m0 i1).Touch.Reads) F12_6) (c':=fun F76=>Ck.own (α:=List ByteArray) [.slice A12_6 ((nth y1_m0 i1).Touch.Reads.length) cp12_6] ((Qae ((nth y1_m0 i1).Touch.Reads) ((Qac ((nth y1_m0 i1).Answers) ((Qaf ((nth y1_m0 i1).Calls) (i64.wrap (i64.wrap (i64.wrap (i64.wrap (s1_1+1)+1)+1)+1))).2)).2)).1) F76) (R:=I64 (Qae ((nth y1_m0 i1).Touch.Reads) ((Qac ((nth y1_m0 i1).Answers) ((Qaf ((nth y1_m0 i1).Calls) (i64.wrap (i64.wrap (i64.wrap (i64.wrap (s1_1+1)+1)+1)+1))).2)).2)).2) hE75 hP76 Tryz.func20 fb20 fn20 (Qin ((nth y1_m0 i1).Touch.Reads) ((Qac ((nth y1_m0 i1).Answers) ((Qaf ((nth y1_m0 i1).Calls) (i64.wrap (i64.wrap (i64.wrap (i64.wrap (s1_1+1)+1)+1)+1))).2)).2) (SH.off (M:=[Ck.own (α:=List ByteArray) [.slice A12_6 ((nth y1_m0 i1).Touch.Reads.length) cp12_6] ((nth y1_m0 i1).Touch.Reads) F12_6]) (R:=[Ck.own (α:=List Answer) [.slice A12_5 ((nth y1_m0 i1).Answers.length) cp12_5] ((Qac ((nth y1_m0 i1).Answers) ((Qaf ((nth y1_m0 i1).Calls) (i64.wrap (i64.wrap (i64.wrap (i64.wrap (s1_1+1)+1)+1)+1))).2)).1) F66,Ck.own (α:=List Call) [.slice A12_4 ((nth y1_m0 i1).Calls.length) cp12_4] ((Qaf ((nth y1_m0 i1).Calls) (i64.wrap (i64.wrap (i64.wrap (i64.wrap (s1_1+1)+1)+1)+1))).1) F57,Ck.own (α:=List ByteArray) [.slice A12_7 ((nth y1_m0 i1).Touch.Writes.length) cp12_7] ((nth y1_m0 i1).Touch.Writes) F12_7,Ck.own (α:=List Int) [.slice A12_8 ((nth y1_m0 i1).Marks.length) cp12_8] ((nth y1_m0 i1).Marks) F12_8,Ck.elem (α:=Tx) g12 i1 cap0 [.int .i64 s1_1,.int .i64 (i64.wrap (s1_1+1)),.int .i64 (i64.wrap (i64.wrap (s1_1+1)+1)),.int .i64 (i64.wrap (i64.wrap (i64.wrap (s1_1+1)+1)+1)),.slice A12_4 ((nth y1_m0 i1).Calls.length) cp12_4,.slice A12_5 ((nth y1_m0 i1).Answers.length) cp12_5,.slice A12_6 ((nth y1_m0 i1).Touch.Reads.length) cp12_6,.slice A12_7 ((nth y1_m0 i1).Touch.Writes.length) cp12_7,.slice A12_8 ((nth y1_m0 i1).Marks.length) cp12_8,.int .i64 ((nth y1_m0 i1).State)] y1_m0 Fo12]) hP76) hR66) rfl rfl fun F76 w76 hR76 hS76 a77 hE77=>Qaa hE77 (Qan hE77 rfl) rfl fun a78 hE78=>wpList_nil ?_
  refine Qab ?_
  refine wp_seq (wp_region_lit ?_)
  refine Qaa hE78 (Qai hE78 rfl) rfl fun a79 hE79=>Qaa hE79 (Qai hE79 rfl) rfl fun a80 hE80=>?_
  refine Qaa hE80 (Qax (A:=⟨g12,0,none⟩) hE80 (congrArg (fun A=>some (Value.slice A p0.length cap0)) hA12) rfl (by omega) (by omega) sl36) rfl fun a81 hE81=>Qaa hE81 (Qau hE81 rfl Yjr rfl) rfl fun a82 hE82=>Qaa hE82 (Qau hE82 rfl Yoc rfl) rfl fun a83 hE83=>Qaa hE83 (Qf8 hE83 rfl (hS76.elemCells (k:=5) (p:=(((i1:Int)).toNat*10)) rfl (by rw[Int.toNat_natCast];rfl)) rfl Ypa) rfl fun a84 hE84=>Qaa hE84 (Qai hE84 rfl) rfl fun a85 hE85=>?_
  have hP86:SH (Off [Ck.own (α:=List Tx) [.slice A0 p0.length cap0] p0 F0] w) w w76 (Ck.own (α:=List ByteArray) [.slice A12_7 ((nth y1_m0 i1).Touch.Writes.length) cp12_7] ((nth y1_m0 i1).Touch.Writes) F12_7::[Ck.own (α:=List ByteArray) [.slice A12_6 ((nth y1_m0 i1).Touch.Reads.length) cp12_6] ((Qae ((nth y1_m0 i1).Touch.Reads) ((Qac ((nth y1_m0 i1).Answers) ((Qaf ((nth y1_m0 i1).Calls) (i64.wrap (i64.wrap (i64.wrap (i64.wrap (s1_1+1)+1)+1)+1))).2)).2)).1) F76,Ck.own (α:=List Answer) [.slice A12_5 ((nth y1_m0 i1).Answers.length) cp12_5] ((Qac ((nth y1_m0 i1).Answers) ((Qaf ((nth y1_m0 i1).Calls) (i64.wrap (i64.wrap (i64.wrap (i64.wrap (s1_1+1)+1)+1)+1))).2)).1) F66,Ck.own (α:=List Call) [.slice A12_4 ((nth y1_m0 i1).Calls.length) cp12_4] ((Qaf ((nth y1_m0 i1).Calls) (i64.wrap (i64.wrap (i64.wrap (i64.wrap (s1_1+1)+1)+1)+1))).1) F57,Ck.own (α:=List Int) [.slice A12_8 ((nth y1_m0 i1).Marks.length) cp12_8] ((nth y1_m0 i1).Marks) F12_8,Ck.elem (α:=Tx) g12 i1 cap0 [.int .i64 s1_1,.int .i64 (i64.wrap (s1_1+1)),.int .i64 (i64.wrap (i64.wrap (s1_1+1)+1)),.int .i64 (i64.wrap (i64.wrap (i64.wrap (s1_1+1)+1)+1)),.slice A12_4 ((nth y1_m0 i1).Calls.length) cp12_4,.slice A12_5 ((nth y1_m0 i1).Answers.length) cp12_5,.slice A12_6 ((nth y1_m0 i1).Touch.Reads.length) cp12_6,.slice A12_7 ((nth y1_m0 i1).Touch.Writes.length) cp12_7,.slice A12_8 ((nth y1_m0 i1).Marks.length) cp12_8,.int .i64 ((nth y1_m0 i1).State)] y1_m0 Fo12]):=(hS76.pick [3,0,1,2,4,5] (by decide) rfl)
  refine Qkq (c:=Ck.own (α:=List ByteArray) [.slice A12_7 ((nth y1_m0 i1).Touch.Writes.length) cp12_7] ((nth y1_m0 i1).Touch.Writes) F12_7) (c':=fun F86=>Ck.own (α:=List ByteArray) [.slice A12_7 ((nth y1_m0 i1).Touch.Writes.length) cp12_7] ((Qae ((nth y1_m0 i1).Touch.Writes) ((Qae ((nth y1_m0 i1).Touch.Reads) ((Qac ((nth y1_m0 i1).Answers) ((Qaf ((nth y1_m0 i1).Calls) (i64.wrap (i64.wrap (i64.wrap (i64.wrap (s1_1+1)+1)+1)+1))).2)).2)).2)).1) F86) (R:=I64 (Qae ((nth y1_m0 i1).Touch.Writes) ((Qae ((nth y1_m0 i1).Touch.Reads) ((Qac ((nth y1_m0 i1).Answers) ((Qaf ((nth y1_m0 i1).Calls) (i64.wrap (i64.wrap (i64.wrap (i64.wrap (s1_1+1)+1)+1)+1))).2)).2)).2)).2) hE85 hP86 Tryz.func20 fb20 fn20 (Qin ((nth y1_m0 i1).Touch.Writes) ((Qae ((nth y1_m0 i1).Touch.Reads) ((Qac ((nth y1_m0 i1).Answers) ((Qaf ((nth y1_m0 i1).Calls) (i64.wrap (i64.wrap (i64.wrap (i64.wrap (s1_1+1)+1)+1)+1))).2)).2)).2) (SH.off (M:=[Ck.own (α:=List ByteArray) [.slice A12_7 ((nth y1_m0 i1).Touch.Writes.length) cp12_7] ((nth y1_m0 i1).Touch.Writes) F12_7]) (R:=[Ck.own (α:=List ByteArray) [.slice A12_6 ((nth y1_m0 i1).Touch.Reads.length) cp12_6] ((Qae ((nth y1_m0 i1).Touch.Reads) ((Qac ((nth y1_m0 i1).Answers) ((Qaf ((nth y1_m0 i1).Calls) (i64.wrap (i64.wrap (i64.wrap (i64.wrap (s1_1+1)+1)+1)+1))).2)).2)).1) F76,Ck.own (α:=List Answer) [.slice A12_5 ((nth y1_m0 i1).Answers.length) cp12_5] ((Qac ((nth y1_m0 i1).Answers) ((Qaf ((nth y1_m0 i1).Calls) (i64.wrap (i64.wrap (i64.wrap (i64.wrap (s1_1+1)+1)+1)+1))).2)).1) F66,Ck.own (α:=List Call) [.slice A12_4 ((nth y1_m0 i1).Calls.length) cp12_4] ((Qaf ((nth y1_m0 i1).Calls) (i64.wrap (i64.wrap (i64.wrap (i64.wrap (s1_1+1)+1)+1)+1))).1) F57,Ck.own (α:=List Int) [.slice A12_8 ((nth y1_m0 i1).Marks.length) cp12_8] ((nth y1_m0 i1).Marks) F12_8,Ck.elem (α:=Tx) g12 i1 cap0 [.int .i64 s1_1,.int .i64 (i64.wrap (s1_1+1)),.int .i64 (i64.wrap (i64.wrap (s1_1+1)+1)),.int .i64 (i64.wrap (i64.wrap (i64.wrap (s1_1+1)+1)+1)),.slice A12_4 ((nth y1_m0 i1).Calls.length) cp12_4,.slice A12_5 ((nth y1_m0 i1).Answers.length) cp12_5,.slice A12_6 ((nth y1_m0 i1).Touch.Reads.length) cp12_6,.slice A12_7 ((nth y1_m0 i1).Touch.Writes.length) cp12_7,.slice A12_8 ((nth y1_m0 i1).Marks.length) cp12_8,.int .i64 ((nth y1_m0 i1).State)] y1_m0 Fo12]) hP86) hR76) rfl rfl fun F86 w86 hR86 hS86 a87 hE87=>Qaa hE87 (Qan hE87 rfl) rfl fun a88 hE88=>wpList_nil ?_
  refine Qab ?_
  refine wp_seq (wp_region_lit ?_)
  refine Qaa hE88 (Qai hE88 rfl) rfl fun a89 hE89=>Qaa hE89 (Qai hE89 rfl) rfl fun a90 hE90=>?_
  refine Qaa hE90 (Qax (A:=⟨g12,0,none⟩) hE90 (congrArg (fun A=>some (Value.slice A p0.length cap0)) hA12) rfl (by omega) (by omega) sl36) rfl fun a91 hE91=>Qaa hE91 (Qau hE91 rfl Yn5 rfl) rfl fun a92 hE92=>Qaa hE92 (Qf8 hE92 rfl (hS86.elemCells (k:=5) (p:=(((i1:Int)).toNat*10)) rfl (by rw[Int.toNat_natCast];rfl)) rfl Ysu) rfl fun a93 hE93=>Qaa hE93 (Qai hE93 rfl) rfl fun a94 hE94=>?_
  have hP95:SH (Off [Ck.own (α:=List Tx) [.slice A0 p0.length cap0] p0 F0] w) w w86 (Ck.own (α:=List Int) [.slice A12_8 ((nth y1_m0 i1).Marks.length) cp12_8] ((nth y1_m0 i1).Marks) F12_8::[Ck.own (α:=List ByteArray) [.slice A12_7 ((nth y1_m0 i1).Touch.Writes.length) cp12_7] ((Qae ((nth y1_m0 i1).Touch.Writes) ((Qae ((nth y1_m0 i1).Touch.Reads) ((Qac ((nth y1_m0 i1).Answers) ((Qaf ((nth y1_m0 i1).Calls) (i64.wrap (i64.wrap (i64.wrap (i64.wrap (s1_1+1)+1)+1)+1))).2)).2)).2)).1) F86,Ck.own (α:=List ByteArray) [.slice A12_6 ((nth y1_m0 i1).Touch.Reads.length) cp12_6] ((Qae ((nth y1_m0 i1).Touch.Reads) ((Qac ((nth y1_m0 i1).Answers) ((Qaf ((nth y1_m0 i1).Calls) (i64.wrap (i64.wrap (i64.wrap (i64.wrap (s1_1+1)+1)+1)+1))).2)).2)).1) F76,Ck.own (α:=List Answer) [.slice A12_5 ((nth y1_m0 i1).Answers.length) cp12_5] ((Qac ((nth y1_m0 i1).Answers) ((Qaf ((nth y1_m0 i1).Calls) (i64.wrap (i64.wrap (i64.wrap (i64.wrap (s1_1+1)+1)+1)+1))).2)).1) F66,Ck.own (α:=List Call) [.slice A12_4 ((nth y1_m0 i1).Calls.length) cp12_4] ((Qaf ((nth y1_m0 i1).Calls) (i64.wrap (i64.wrap (i64.wrap (i64.wrap (s1_1+1)+1)+1)+1))).1) F57,Ck.elem (α:=Tx) g12 i1 cap0 [.int .i64 s1_1,.int .i64 (i64.wrap (s1_1+1)),.int .i64 (i64.wrap (i64.wrap (s1_1+1)+1)),.int .i64 (i64.wrap (i64.wrap (i64.wrap (s1_1+1)+1)+1)),.slice A12_4 ((nth y1_m0 i1).Calls.length) cp12_4,.slice A12_5 ((nth y1_m0 i1).Answers.length) cp12_5,.slice A12_6 ((nth y1_m0 i1).Touch.Reads.length) cp12_6,.slice A12_7 ((nth y1_m0 i1).Touch.Writes.length) cp12_7,.slice A12_8 ((nth y1_m0 i1).Marks.length) cp12_8,.int .i64 ((nth y1_m0 i1).State)] y1_m0 Fo12]):=(hS86.pick [4,0,1,2,3,5] (by decide) rfl)
  refine Qkq (c:=Ck.own (α:=List Int) [.slice A12_8 ((nth y1_m0 i1).Marks.length) cp12_8] ((nth y1_m0 i1).Marks) F12_8) (c':=fun F95=>Ck.own (α:=List Int) [.slice A12_8 ((nth y1_m0 i1).Marks.length) cp12_8] ((Qbg ((nth y1_m0 i1).Marks) ((Qae ((nth y1_m0 i1).Touch.Writes) ((Qae ((nth y1_m0 i1).Touch.Reads) ((Qac ((nth y1_m0 i1).Answers) ((Qaf ((nth y1_m0 i1).Calls) (i64.wrap (i64.wrap (i64.wrap (i64.wrap (s1_1+1)+1)+1)+1))).2)).2)).2)).2)).1) F95) (R:=I64 (Qbg ((nth y1_m0 i1).Marks) ((Qae ((nth y1_m0 i1).Touch.Writes) ((Qae ((nth y1_m0 i1).Touch.Reads) ((Qac ((nth y1_m0 i1).Answers) ((Qaf ((nth y1_m0 i1).Calls) (i64.wrap (i64.wrap (i64.wrap (i64.wrap (s1_1+1)+1)+1)+1))).2)).2)).2)).2)).2) hE94 hP95 Tryz.func114 Yue Yub (Q0a ((nth y1_m0 i1).Marks) ((Qae ((nth y1_m0 i1).Touch.Writes) ((Qae ((nth y1_m0 i1).Touch.Reads) ((Qac ((nth y1_m0 i1).Answers) ((Qaf ((nth y1_m0 i1).Calls) (i64.wrap (i64.wrap (i64.wrap (i64.wrap (s1_1+1)+1)+1)+1))).2)).2)).2)).2) (SH.off (M:=[Ck.own (α:=List Int) [.slice A12_8 ((nth y1_m0 i1).Marks.length) cp12_8] ((nth y1_m0 i1).Marks) F12_8]) (R:=[Ck.own (α:=List ByteArray) [.slice A12_7 ((nth y1_m0 i1).Touch.Writes.length) cp12_7] ((Qae ((nth y1_m0 i1).Touch.Writes) ((Qae ((nth y1_m0 i1).Touch.Reads) ((Qac ((nth y1_m0 i1).Answers) ((Qaf ((nth y1_m0 i1).Calls) (i64.wrap (i64.wrap (i64.wrap (i64.wrap (s1_1+1)+1)+1)+1))).2)).2)).2)).1) F86,Ck.own (α:=List ByteArray) [.slice A12_6 ((nth y1_m0 i1).Touch.Reads.length) cp12_6] ((Qae ((nth y1_m0 i1).Touch.Reads) ((Qac ((nth y1_m0 i1).Answers) ((Qaf ((nth y1_m0 i1).Calls) (i64.wrap (i64.wrap (i64.wrap (i64.wrap (s1_1+1)+1)+1)+1))).2)).2)).1) F76,Ck.own (α:=List Answer) [.slice A12_5 ((nth y1_m0 i1).Answers.length) cp12_5] ((Qac ((nth y1_m0 i1).Answers) ((Qaf ((nth y1_m0 i1).Calls) (i64.wrap (i64.wrap (i64.wrap (i64.wrap (s1_1+1)+1)+1)+1))).2)).1) F66,Ck.own (α:=List Call) [.slice A12_4 ((nth y1_m0 i1).Calls.length) cp12_4] ((Qaf ((nth y1_m0 i1).Calls) (i64.wrap (i64.wrap (i64.wrap (i64.wrap (s1_1+1)+1)+1)+1))).1) F57,Ck.elem (α:=Tx) g12 i1 cap0 [.int .i64 s1_1,.int .i64 (i64.wrap (s1_1+1)),.int .i64 (i64.wrap (i64.wrap (s1_1+1)+1)),.int .i64 (i64.wrap (i64.wrap (i64.wrap (s1_1+1)+1)+1)),.slice A12_4 ((nth y1_m0 i1).Calls.length) cp12_4,.slice A12_5 ((nth y1_m0 i1).Answers.length) cp12_5,.slice A12_6 ((nth y1_m0 i1).Touch.Reads.length) cp12_6,.slice A12_7 ((nth y1_m0 i1).Touch.Writes.length) cp12_7,.slice A12_8 ((nth y1_m0 i1).Marks.length) cp12_8,.int .i64 ((nth y1_m0 i1).State)] y1_m0 Fo12]) hP95) hR86) rfl rfl fun F95 w95 hR95 hS95 a96 hE96=>Qaa hE96 (Qan hE96 rfl) rfl fun a97 hE97=>wpList_nil ?_
  refine Qab ?_
  refine wp_seq (wp_region_lit ?_)
  refine Qaa hE97 (Qai hE97 rfl) rfl fun a98 hE98=>Qaa hE98 (Qai hE98 rfl) rfl fun a99 hE99=>Qaa hE99 (Qai hE99 rfl) rfl fun a100 hE100=>?_
  refine Qaa hE100 (Qax (A:=⟨g12,0,none⟩) hE100 (congrArg (fun A=>some (Value.slice A p0.length cap0)) hA12) rfl (by omega) (by omega) sl36) rfl fun a101 hE101=>Qaa hE101 (Qau hE101 rfl Yn4 rfl) rfl fun a102 hE102=>Qb2 (α:=Tx) (k:=5) hE102 hS95 [.int .i64 s1_1,.int .i64 (i64.wrap (s1_1+1)),.int .i64 (i64.wrap (i64.wrap (s1_1+1)+1)),.int .i64 (i64.wrap (i64.wrap (i64.wrap (s1_1+1)+1)+1)),.slice A12_4 ((nth y1_m0 i1).Calls.length) cp12_4,.slice A12_5 ((nth y1_m0 i1).Answers.length) cp12_5,.slice A12_6 ((nth y1_m0 i1).Touch.Reads.length) cp12_6,.slice A12_7 ((nth y1_m0 i1).Touch.Writes.length) cp12_7,.slice A12_8 ((nth y1_m0 i1).Marks.length) cp12_8,.int .i64 ((Qbg ((nth y1_m0 i1).Marks) ((Qae ((nth y1_m0 i1).Touch.Writes) ((Qae ((nth y1_m0 i1).Touch.Reads) ((Qac ((nth y1_m0 i1).Answers) ((Qaf ((nth y1_m0 i1).Calls) (i64.wrap (i64.wrap (i64.wrap (i64.wrap (s1_1+1)+1)+1)+1))).2)).2)).2)).2)).2)] rfl rfl rfl (by rw[Int.toNat_natCast];rfl) rfl (Qbf one3) rfl rfl rfl rfl fun w103 (hS103:SH (Off [Ck.own (α:=List Tx) [.slice A0 p0.length cap0] p0 F0] w) w w103 [Ck.own (α:=List Int) [.slice A12_8 ((nth y1_m0 i1).Marks.length) cp12_8] ((Qbg ((nth y1_m0 i1).Marks) ((Qae ((nth y1_m0 i1).Touch.Writes) ((Qae ((nth y1_m0 i1).Touch.Reads) ((Qac ((nth y1_m0 i1).Answers) ((Qaf ((nth y1_m0 i1).Calls) (i64.wrap (i64.wrap (i64.wrap (i64.wrap (s1_1+1)+1)+1)+1))).2)).2)).2)).2)).1) F95,Ck.own (α:=List ByteArray) [.slice A12_7 ((nth y1_m0 i1).Touch.Writes.length) cp12_7] ((Qae ((nth y1_m0 i1).Touch.Writes) ((Qae ((nth y1_m0 i1).Touch.Reads) ((Qac ((nth y1_m0 i1).Answers) ((Qaf ((nth y1_m0 i1).Calls) (i64.wrap (i64.wrap (i64.wrap (i64.wrap (s1_1+1)+1)+1)+1))).2)).2)).2)).1) F86,Ck.own (α:=List ByteArray) [.slice A12_6 ((nth y1_m0 i1).Touch.Reads.length) cp12_6] ((Qae ((nth y1_m0 i1).Touch.Reads) ((Qac ((nth y1_m0 i1).Answers) ((Qaf ((nth y1_m0 i1).Calls) (i64.wrap (i64.wrap (i64.wrap (i64.wrap (s1_1+1)+1)+1)+1))).2)).2)).1) F76,Ck.own (α:=List Answer) [.slice A12_5 ((nth y1_m0 i1).Answers.length) cp12_5] ((Qac ((nth y1_m0 i1).Answers) ((Qaf ((nth y1_m0 i1).Calls) (i64.wrap (i64.wrap (i64.wrap (i64.wrap (s1_1+1)+1)+1)+1))).2)).1) F66,Ck.own (α:=List Call) [.slice A12_4 ((nth y1_m0 i1).Calls.length) cp12_4] ((Qaf ((nth y1_m0 i1).Calls) (i64.wrap (i64.wrap (i64.wrap (i64.wrap (s1_1+1)+1)+1)+1))).1) F57,Ck.elem (α:=Tx) g12 i1 cap0 [.int .i64 s1_1,.int .i64 (i64.wrap (s1_1+1)),.int .i64 (i64.wrap (i64.wrap (s1_1+1)+1)),.int .i64 (i64.wrap (i64.wrap (i64.wrap (s1_1+1)+1)+1)),.slice A12_4 ((nth y1_m0 i1).Calls.length) cp12_4,.slice A12_5 ((nth y1_m0 i1).Answers.length) cp12_5,.slice A12_6 ((nth y1_m0 i1).Touch.Reads.length) cp12_6,.slice A12_7 ((nth y1_m0 i1).Touch.Writes.length) cp12_7,.slice A12_8 ((nth y1_m0 i1).Marks.length) cp12_8,.int .i64 ((Qbg ((nth y1_m0 i1).Marks) ((Qae ((nth y1_m0 i1).Touch.Writes) ((Qae ((nth y1_m0 i1).Touch.Reads) ((Qac ((nth y1_m0 i1).Answers) ((Qaf ((nth y1_m0 i1).Calls) (i64.wrap (i64.wrap (i64.wrap (i64.wrap (s1_1+1)+1)+1)+1))).2)).2)).2)).2)).2)] y1_m0 Fo12]) a104 hE104=>wpList_nil ?_
  refine Qab ?_
  refine wp_region_lit ?_
  refine Qaa hE104 (Qai hE104 rfl) rfl fun a105 hE105=>Qaa hE105 (Qg7 hE105 rfl rfl) rfl fun a106 hE106=>Qaa hE106 (Qan hE106 rfl) rfl fun a107 hE107=>wpList_nil ?_
  refine Qf0 ?_
  refine Qab ?_
  refine wp_region_lit ?_
  refine Qaa hE107 (Qai hE107 rfl) rfl fun a108 hE108=>Qaa hE108 (Qhw hE108 rfl rfl (m:=((i1+1:Nat):Int)) (by omega) (by omega) (by omega)) rfl fun a109 hE109=>Qaa hE109 (Qan hE109 rfl) rfl fun a110 hE110=>wpList_nil ?_
  have hJ111:=SH.joinP (L:=[Ck.elem (α:=Tx) g12 i1 cap0 [.int .i64 s1_1,.int .i64 (i64.wrap (s1_1+1)),.int .i64 (i64.wrap (i64.wrap (s1_1+1)+1)),.int .i64 (i64.wrap (i64.wrap (i64.wrap (s1_1+1)+1)+1)),.slice A12_4 ((nth y1_m0 i1).Calls.length) cp12_4,.slice A12_5 ((nth y1_m0 i1).Answers.length) cp12_5,.slice A12_6 ((nth y1_m0 i1).Touch.Reads.length) cp12_6,.slice A12_7 ((nth y1_m0 i1).Touch.Writes.length) cp12_7,.slice A12_8 ((nth y1_m0 i1).Marks.length) cp12_8,.int .i64 ((Qbg ((nth y1_m0 i1).Marks) ((Qae ((nth y1_m0 i1).Touch.Writes) ((Qae ((nth y1_m0 i1).Touch.Reads) ((Qac ((nth y1_m0 i1).Answers) ((Qaf ((nth y1_m0 i1).Calls) (i64.wrap (i64.wrap (i64.wrap (i64.wrap (s1_1+1)+1)+1)+1))).2)).2)).2)).2)).2)] y1_m0 Fo12]) (M:=[Ck.own (α:=List Call) [.slice A12_4 ((nth y1_m0 i1).Calls.length) cp12_4] ((Qaf ((nth y1_m0 i1).Calls) (i64.wrap (i64.wrap (i64.wrap (i64.wrap (s1_1+1)+1)+1)+1))).1) F57,Ck.own (α:=List Answer) [.slice A12_5 ((nth y1_m0 i1).Answers.length) cp12_5] ((Qac ((nth y1_m0 i1).Answers) ((Qaf ((nth y1_m0 i1).Calls) (i64.wrap (i64.wrap (i64.wrap (i64.wrap (s1_1+1)+1)+1)+1))).2)).1) F66,Ck.own (α:=List ByteArray) [.slice A12_6 ((nth y1_m0 i1).Touch.Reads.length) cp12_6] ((Qae ((nth y1_m0 i1).Touch.Reads) ((Qac ((nth y1_m0 i1).Answers) ((Qaf ((nth y1_m0 i1).Calls) (i64.wrap (i64.wrap (i64.wrap (i64.wrap (s1_1+1)+1)+1)+1))).2)).2)).1) F76,Ck.own (α:=List ByteArray) [.slice A12_7 ((nth y1_m0 i1).Touch.Writes.length) cp12_7] ((Qae ((nth y1_m0 i1).Touch.Writes) ((Qae ((nth y1_m0 i1).Touch.Reads) ((Qac ((nth y1_m0 i1).Answers) ((Qaf ((nth y1_m0 i1).Calls) (i64.wrap (i64.wrap (i64.wrap (i64.wrap (s1_1+1)+1)+1)+1))).2)).2)).2)).1) F86,Ck.own (α:=List Int) [.slice A12_8 ((nth y1_m0 i1).Marks.length) cp12_8] ((Qbg ((nth y1_m0 i1).Marks) ((Qae ((nth y1_m0 i1).Touch.Writes) ((Qae ((nth y1_m0 i1).Touch.Reads) ((Qac ((nth y1_m0 i1).Answers) ((Qaf ((nth y1_m0 i1).Calls) (i64.wrap (i64.wrap (i64.wrap (i64.wrap (s1_1+1)+1)+1)+1))).2)).2)).2)).2)).1) F95]) (c:=Ck.own (α:=Tx) [.int .i64 s1_1,.int .i64 (i64.wrap (s1_1+1)),.int .i64 (i64.wrap (i64.wrap (s1_1+1)+1)),.int .i64 (i64.wrap (i64.wrap (i64.wrap (s1_1+1)+1)+1)),.slice A12_4 ((nth y1_m0 i1).Calls.length) cp12_4,.slice A12_5 ((nth y1_m0 i1).Answers.length) cp12_5,.slice A12_6 ((nth y1_m0 i1).Touch.Reads.length) cp12_6,.slice A12_7 ((nth y1_m0 i1).Touch.Writes.length) cp12_7,.slice A12_8 ((nth y1_m0 i1).Marks.length) cp12_8,.int .i64 ((Qbg ((nth y1_m0 i1).Marks) ((Qae ((nth y1_m0 i1).Touch.Writes) ((Qae ((nth y1_m0 i1).Touch.Reads) ((Qac ((nth y1_m0 i1).Answers) ((Qaf ((nth y1_m0 i1).Calls) (i64.wrap (i64.wrap (i64.wrap (i64.wrap (s1_1+1)+1)+1)+1))).2)).2)).2)).2)).2)] (Tx.mk s1_1 (i64.wrap (s1_1+1)) (i64.wrap (i64.wrap (s1_1+1)+1)) (i64.wrap (i64.wrap (i64.wrap (s1_1+1)+1)+1)) ((Qaf ((nth y1_m0 i1).Calls) (i64.wrap (i64.wrap (i64.wrap (i64.wrap (s1_1+1)+1)+1)+1))).1) ((Qac ((nth y1_m0 i1).Answers) ((Qaf ((nth y1_m0 i1).Calls) (i64.wrap (i64.wrap (i64.wrap (i64.wrap (s1_1+1)+1)+1)+1))).2)).1) (Touch.mk ((Qae ((nth y1_m0 i1).Touch.Reads) ((Qac ((nth y1_m0 i1).Answers) ((Qaf ((nth y1_m0 i1).Calls) (i64.wrap (i64.wrap (i64.wrap (i64.wrap (s1_1+1)+1)+1)+1))).2)).2)).1) ((Qae ((nth y1_m0 i1).Touch.Writes) ((Qae ((nth y1_m0 i1).Touch.Reads) ((Qac ((nth y1_m0 i1).Answers) ((Qaf ((nth y1_m0 i1).Calls) (i64.wrap (i64.wrap (i64.wrap (i64.wrap (s1_1+1)+1)+1)+1))).2)).2)).2)).1)) ((Qbg ((nth y1_m0 i1).Marks) ((Qae ((nth y1_m0 i1).Touch.Writes) ((Qae ((nth y1_m0 i1).Touch.Reads) ((Qac ((nth y1_m0 i1).Answers) ((Qaf ((nth y1_m0 i1).Calls) (i64.wrap (i64.wrap (i64.wrap (i64.wrap (s1_1+1)+1)+1)+1))).2)).2)).2)).2)).1) ((Qbg ((nth y1_m0 i1).Marks) ((Qae ((nth y1_m0 i1).Touch.Writes) ((Qae ((nth y1_m0 i1).Touch.Reads) ((Qac ((nth y1_m0 i1).Answers) ((Qaf ((nth y1_m0 i1).Calls) (i64.wrap (i64.wrap (i64.wrap (i64.wrap (s1_1+1)+1)+1)+1))).2)).2)).2)).2)).2)) (F57++(F66++((F76++F86)++(F95++[]))))) (hS103.pick [4,3,2,1,0,5] (by decide) rfl) (List.Perm.of_eq (by simp only[Ck.own,flatMap_cons,flatMap_nil,append_nil,append_assoc])) (Yk0 (Yr2 (x:=(Tx.mk s1_1 (i64.wrap (s1_1+1)) (i64.wrap (i64.wrap (s1_1+1)+1)) (i64.wrap (i64.wrap (i64.wrap (s1_1+1)+1)+1)) ((Qaf ((nth y1_m0 i1).Calls) (i64.wrap (i64.wrap (i64.wrap (i64.wrap (s1_1+1)+1)+1)+1))).1) ((Qac ((nth y1_m0 i1).Answers) ((Qaf ((nth y1_m0 i1).Calls) (i64.wrap (i64.wrap (i64.wrap (i64.wrap (s1_1+1)+1)+1)+1))).2)).1) (Touch.mk ((Qae ((nth y1_m0 i1).Touch.Reads) ((Qac ((nth y1_m0 i1).Answers) ((Qaf ((nth y1_m0 i1).Calls) (i64.wrap (i64.wrap (i64.wrap (i64.wrap (s1_1+1)+1)+1)+1))).2)).2)).1) ((Qae ((nth y1_m0 i1).Touch.Writes) ((Qae ((nth y1_m0 i1).Touch.Reads) ((Qac ((nth y1_m0 i1).Answers) ((Qaf ((nth y1_m0 i1).Calls) (i64.wrap (i64.wrap (i64.wrap (i64.wrap (s1_1+1)+1)+1)+1))).2)).2)).2)).1)) ((Qbg ((nth y1_m0 i1).Marks) ((Qae ((nth y1_m0 i1).Touch.Writes) ((Qae ((nth y1_m0 i1).Touch.Reads) ((Qac ((nth y1_m0 i1).Answers) ((Qaf ((nth y1_m0 i1).Calls) (i64.wrap (i64.wrap (i64.wrap (i64.wrap (s1_1+1)+1)+1)+1))).2)).2)).2)).2)).1) ((Qbg ((nth y1_m0 i1).Marks) ((Qae ((nth y1_m0 i1).Touch.Writes) ((Qae ((nth y1_m0 i1).Touch.Reads) ((Qac ((nth y1_m0 i1).Answers) ((Qaf ((nth y1_m0 i1).Calls) (i64.wrap (i64.wrap (i64.wrap (i64.wrap (s1_1+1)+1)+1)+1))).2)).2)).2)).2)).2))) hgis1_1 (Qbb _) (Qbb _) (Qbb _) (hS103.slO (k:=4) rfl) (hS103.slO (k:=3) rfl) (hS103.slO (k:=2) rfl) (hS103.slO (k:=1) rfl) (hS103.slO (k:=0) rfl) hR95))
  obtain⟨F111,hS111⟩:=SH.unfocus (α:=Tx) (L:=[]) hJ111 hA12 hn12 (by omega)
  refine Qab ⟨fu1,Nat.lt_succ_self _,(i1+1),i64.wrap ((Qbg ((nth y1_m0 i1).Marks) ((Qae ((nth y1_m0 i1).Touch.Writes) ((Qae ((nth y1_m0 i1).Touch.Reads) ((Qac ((nth y1_m0 i1).Answers) ((Qaf ((nth y1_m0 i1).Calls) (i64.wrap (i64.wrap (i64.wrap (i64.wrap (s1_1+1)+1)+1)+1))).2)).2)).2)).2)).2+1),(y1_m0.set i1 (Tx.mk s1_1 (i64.wrap (s1_1+1)) (i64.wrap (i64.wrap (s1_1+1)+1)) (i64.wrap (i64.wrap (i64.wrap (s1_1+1)+1)+1)) ((Qaf ((nth y1_m0 i1).Calls) (i64.wrap (i64.wrap (i64.wrap (i64.wrap (s1_1+1)+1)+1)+1))).1) ((Qac ((nth y1_m0 i1).Answers) ((Qaf ((nth y1_m0 i1).Calls) (i64.wrap (i64.wrap (i64.wrap (i64.wrap (s1_1+1)+1)+1)+1))).2)).1) (Touch.mk ((Qae ((nth y1_m0 i1).Touch.Reads) ((Qac ((nth y1_m0 i1).Answers) ((Qaf ((nth y1_m0 i1).Calls) (i64.wrap (i64.wrap (i64.wrap (i64.wrap (s1_1+1)+1)+1)+1))).2)).2)).1) ((Qae ((nth y1_m0 i1).Touch.Writes) ((Qae ((nth y1_m0 i1).Touch.Reads) ((Qac ((nth y1_m0 i1).Answers) ((Qaf ((nth y1_m0 i1).Calls) (i64.wrap (i64.wrap (i64.wrap (i64.wrap (s1_1+1)+1)+1)+1))).2)).2)).2)).1)) ((Qbg ((nth y1_m0 i1).Marks) ((Qae ((nth y1_m0 i1).Touch.Writes) ((Qae ((nth y1_m0 i1).Touch.Reads) ((Qac ((nth y1_m0 i1).Answers) ((Qaf ((nth y1_m0 i1).Calls) (i64.wrap (i64.wrap (i64.wrap (i64.wrap (s1_1+1)+1)+1)+1))).2)).2)).2)).2)).1) ((Qbg ((nth y1_m0 i1).Marks) ((Qae ((nth y1_m0 i1).Touch.Writes) ((Qae ((nth y1_m0 i1).Touch.Reads) ((Qac ((nth y1_m0 i1).Answers) ((Qaf ((nth y1_m0 i1).Calls) (i64.wrap (i64.wrap (i64.wrap (i64.wrap (s1_1+1)+1)+1)+1))).2)).2)).2)).2)).2))),F111,by omega,by omega,.inl (by omega),(Qbb _),hM,hE110.weaken ⟨rfl,rfl,rfl,trivial⟩,hS111⟩
 ·
  have hge1: ¬ i1<p0.length:=by have:=of_decide_eq_false hb8;omega
  obtain rfl:fu1=0:=by omega
  have hM:=hM.trans (Qfh.eq_1 _ _ _ _ _)
  refine wp_exit ?_
  refine Qde ?_
  refine Qde ?_
  refine Qhx ?_
  refine Qab ?_
  refine wp_seq (wp_region_lit ?_)
  refine Qaa hE7 (Qai hE7 rfl) rfl fun a112 hE112=>Qaa hE112 (Qan hE112 rfl) rfl fun a113 hE113=>wpList_nil ?_
  refine Qab ?_
  refine wp_ret ?_
  refine fin1 hE113 rfl rfl ?_
  rw[hM]
  exact⟨rfl,hgis1_1,Fy1_m0,hS3⟩
def Qen (p0:List Slot) (p1:Int):Nat→Nat→Int→List Slot→List Slot×Int
 | 0,i1,s1_1,y1_m0=>(y1_m0,s1_1)
 | fu1+1,i1,s1_1,y1_m0=>Qen p0 p1 fu1 (i1+1) (i64.wrap ((Qas ((nth y1_m0 i1).Cells) (i64.wrap (s1_1+1))).2+1)) (y1_m0.set i1 (Slot.mk s1_1 ((Qas ((nth y1_m0 i1).Cells) (i64.wrap (s1_1+1))).1) (decide (Int.tmod ((Qas ((nth y1_m0 i1).Cells) (i64.wrap (s1_1+1))).2) 3=0))))
def Qdo (p0:List Slot) (p1:Int):List Slot×Int:=Qen p0 p1 (p0.length - 0) 0 p1 p0
theorem Qyh {v0:Value} (p0:List Slot) {F0:List Nat} (p1:Int) {w:World} (hMu0:SH (Off [Ck.own (α:=List Slot) [v0] p0 F0] w) w w [Ck.own (α:=List Slot) [v0] p0 F0]) (hi1:I64 p1):
  Calls Tryz.prog 115 [v0,.int .i64 p1].toArray w (fun e w'=>e= .returned (.int .i64 (Qdo p0 p1).2)∧I64 (Qdo p0 p1).2∧ ∃ F',SH (Off [Ck.own (α:=List Slot) [v0] p0 F0] w) w w' [Ck.own (α:=List Slot) [v0] (Qdo p0 p1).1 F']):=by
 obtain⟨A0,cap0,rfl,hx0⟩:=(hMu0.slO (k:=0) rfl).form
 refine enter Tryz.func115 rfl Tryz.ntmps115 (Nat.le_of_ble_eq_true rfl) ?_
 intro a0 hE0
 have hS0:=hMu0
 have hM:=Qdo.eq_1 p0 p1
 have hij1: -9223372036854775808≤p1∧p1≤9223372036854775807:=hi1
 refine wp_seq (wp_region_lit ?_)
 refine Qaa hE0 (Qan hE0 rfl) rfl fun a1 hE1=>wpList_nil ?_
 refine Qab ?_
 refine wp_seq (wp_seq (wp_region_lit ?_))
 refine Qaa hE1 (Qan hE1 rfl) rfl fun a2 hE2=>wpList_nil ?_
 refine Qab ?_
 refine wp_block (wp_loop_ghost (fun fu1 a w2=> ∃ (i1:Nat) (s1_1:Int) (y1_m0:List Slot) (Fy1_m0:List Nat),0≤i1∧fu1=p0.length - i1∧(i1≤p0.length∨i1=0)∧I64 s1_1∧Qdo p0 p1=Qen p0 p1 fu1 i1 s1_1 y1_m0∧Env 36 [(0,.slice A0 p0.length cap0),(1,.int .i64 s1_1),(5,.int .i64 (i1:Int))] a∧SH (Off [Ck.own (α:=List Slot) [.slice A0 p0.length cap0] p0 F0] w) w w2 [Ck.own (α:=List Slot) [.slice A0 p0.length cap0] y1_m0 Fy1_m0]) (p0.length - 0) ⟨0,p1,p0,F0,Nat.le_refl _,rfl,.inr rfl,hi1,hM,hE2.weaken ⟨rfl,rfl,rfl,trivial⟩,hS0⟩ ?_)
 rintro fu1 a3 w3 ⟨i1,s1_1,y1_m0,Fy1_m0,hi1,hfu1,hup1,hgis1_1,hM,hE3,hS3⟩
 have hlry1_m0:=hS3.lenrow (k:=0) rfl
 refine wp_seq (wp_seq (wp_region_lit ?_))
 refine Qaa hE3 (Qai hE3 rfl) rfl fun a4 hE4=>Qaa hE4 (Qai hE4 rfl) rfl fun a5 hE5=>Qaa hE5 (Qf1 hE5 rfl sl37) rfl fun a6 hE6=>Qaa hE6 (Qo9 hE6 rfl rfl) rfl fun a7 hE7=>wpList_nil ?_
 refine Qab ?_
 refine Qd5 hE7 rfl (fun hb8=>?_) (fun hb8=>?_)
 ·
  have hlt1:i1<p0.length:=by have:=of_decide_eq_true hb8;omega
  obtain⟨fu1,rfl⟩: ∃ m,fu1=m+1:=⟨fu1 - 1,by omega⟩
  have hM:=hM.trans (Qen.eq_2 _ _ _ _ _ _)
  refine wp_skip ?_
  refine Qab ?_
  refine wp_seq (wp_block (wp_seq (wp_region_lit ?_)))
  refine Qaa hE7 (Qai hE7 rfl) rfl fun a9 hE9=>Qaa hE9 (Qai hE9 rfl) rfl fun a10 hE10=>Qaa hE10 (Qai hE10 rfl) rfl fun a11 hE11=>?_
  have hlr12:=hS3.lenrow (k:=0) rfl
  obtain⟨g12,ce12,Fo12,G12,hA12,hn12,hF12⟩:=SH.focus (L:=[]) hS3 (i:=i1) (by omega)
  obtain⟨v12_1,F12_1,rfl,rfl,hg12_0,ho12_1,_⟩:=Yib (show Dat.own w3 ce12 (nth y1_m0 i1) G12 from hF12.get (k:=0) rfl)
  obtain⟨A12_1,cp12_1,rfl,hx12_1⟩:=ho12_1.form
  have hS13:=hF12.split [Ck.own (α:=List Cell) [.slice A12_1 ((nth y1_m0 i1).Cells.length) cp12_1] ((nth y1_m0 i1).Cells) F12_1] (by simp only[Ck.own,flatMap_cons,flatMap_nil,append_nil,append_assoc]) (Qi2 (Q7z ho12_1) Q7y)
  simp only[List.cons_append,nil_append] at hS13
  refine Qaa hE11 (Qax (A:=⟨g12,0,none⟩) hE11 (congrArg (fun A=>some (Value.slice A p0.length cap0)) hA12) rfl (by omega) (by omega) sl37) rfl fun a14 hE14=>Qaa hE14 (Qau hE14 rfl Yoi rfl) rfl fun a15 hE15=>Qb2 (α:=Slot) (k:=1) hE15 hS13 [.int .i64 s1_1,.slice A12_1 ((nth y1_m0 i1).Cells.length) cp12_1,.bool ((nth y1_m0 i1).Whole)] rfl rfl rfl (by rw[Int.toNat_natCast];rfl) rfl (Qbf one3) rfl rfl rfl rfl fun w16 (hS16:SH (Off [Ck.own (α:=List Slot) [.slice A0 p0.length cap0] p0 F0] w) w w16 [Ck.own (α:=List Cell) [.slice A12_1 ((nth y1_m0 i1).Cells.length) cp12_1] ((nth y1_m0 i1).Cells) F12_1,Ck.elem (α:=Slot) g12 i1 cap0 [.int .i64 s1_1,.slice A12_1 ((nth y1_m0 i1).Cells.length) cp12_1,.bool ((nth y1_m0 i1).Whole)] y1_m0 Fo12]) a17 hE17=>wpList_nil ?_
  refine Qab ?_
  refine wp_seq (wp_region_lit ?_)
  refine Qaa hE17 (Qai hE17 rfl) rfl fun a18 hE18=>Qaa hE18 (Qg7 hE18 rfl rfl) rfl fun a19 hE19=>Qaa hE19 (Qan hE19 rfl) rfl fun a20 hE20=>wpList_nil ?_
  refine Qab ?_
  refine wp_seq (wp_region_lit ?_)
  refine Qaa hE20 (Qai hE20 rfl) rfl fun a21 hE21=>Qaa hE21 (Qai hE21 rfl) rfl fun a22 hE22=>?_
  refine Qaa hE22 (Qax (A:=⟨g12,0,none⟩) hE22 (congrArg (fun A=>some (Value.slice A p0.length cap0)) hA12) rfl (by omega) (by omega) sl37) rfl fun a23 hE23=>Qaa hE23 (Qau hE23 rfl Yoh rfl) rfl fun a24 hE24=>Qaa hE24 (Qf8 hE24 rfl (hS16.elemCells (k:=1) (p:=(((i1:Int)).toNat*3)) rfl (by rw[Int.toNat_natCast];rfl)) rfl Ysw) rfl fun a25 hE25=>Qaa hE25 (Qai hE25 rfl) rfl fun a26 hE26=>?_
  have hP27:SH (Off [Ck.own (α:=List Slot) [.slice A0 p0.length cap0] p0 F0] w) w w16 (Ck.own (α:=List Cell) [.slice A12_1 ((nth y1_m0 i1).Cells.length) cp12_1] ((nth y1_m0 i1).Cells) F12_1::[Ck.elem (α:=Slot) g12 i1 cap0 [.int .i64 s1_1,.slice A12_1 ((nth y1_m0 i1).Cells.length) cp12_1,.bool ((nth y1_m0 i1).Whole)] y1_m0 Fo12]):=hS16
  refine Qkq (c:=Ck.own (α:=List Cell) [.slice A12_1 ((nth y1_m0 i1).Cells.length) cp12_1] ((nth y1_m0 i1).Cells) F12_1) (c':=fun F27=>Ck.own (α:=List Cell) [.slice A12_1 ((nth y1_m0 i1).Cells.length) cp12_1] ((Qas ((nth y1_m0 i1).Cells) (i64.wrap (s1_1+1))).1) F27) (R:=I64 (Qas ((nth y1_m0 i1).Cells) (i64.wrap (s1_1+1))).2) hE26 hP27 Tryz.func54 fb54 fn54 (Qml ((nth y1_m0 i1).Cells) (i64.wrap (s1_1+1)) (SH.off (M:=[Ck.own (α:=List Cell) [.slice A12_1 ((nth y1_m0 i1).Cells.length) cp12_1] ((nth y1_m0 i1).Cells) F12_1]) (R:=[Ck.elem (α:=Slot) g12 i1 cap0 [.int .i64 s1_1,.slice A12_1 ((nth y1_m0 i1).Cells.length) cp12_1,.bool ((nth y1_m0 i1).Whole)] y1_m0 Fo12]) hP27) (Qbb _)) rfl rfl fun F27 w27 hR27 hS27 a28 hE28=>Qaa hE28 (Qan hE28 rfl) rfl fun a29 hE29=>wpList_nil ?_
  refine Qab ?_
  refine wp_seq (wp_region_lit ?_)
  refine Qaa hE29 (Qai hE29 rfl) rfl fun a30 hE30=>Qaa hE30 (Qai hE30 rfl) rfl fun a31 hE31=>Qaa hE31 (Qai hE31 rfl) rfl fun a32 hE32=>Qaa hE32 (Ycx hE32 rfl rfl (by decide)) rfl fun a33 hE33=>Qaa hE33 (Yik hE33 rfl rfl) rfl fun a34 hE34=>?_
  refine Qaa hE34 (Qax (A:=⟨g12,0,none⟩) hE34 (congrArg (fun A=>some (Value.slice A p0.length cap0)) hA12) rfl (by omega) (by omega) sl37) rfl fun a35 hE35=>Qaa hE35 (Qau hE35 rfl Yog rfl) rfl fun a36 hE36=>Qb2 (α:=Slot) (k:=1) hE36 hS27 [.int .i64 s1_1,.slice A12_1 ((nth y1_m0 i1).Cells.length) cp12_1,.bool (decide (Int.tmod ((Qas ((nth y1_m0 i1).Cells) (i64.wrap (s1_1+1))).2) 3=0))] rfl rfl rfl (by rw[Int.toNat_natCast];rfl) rfl (Qbf one4) rfl rfl rfl rfl fun w37 (hS37:SH (Off [Ck.own (α:=List Slot) [.slice A0 p0.length cap0] p0 F0] w) w w37 [Ck.own (α:=List Cell) [.slice A12_1 ((nth y1_m0 i1).Cells.length) cp12_1] ((Qas ((nth y1_m0 i1).Cells) (i64.wrap (s1_1+1))).1) F27,Ck.elem (α:=Slot) g12 i1 cap0 [.int .i64 s1_1,.slice A12_1 ((nth y1_m0 i1).Cells.length) cp12_1,.bool (decide (Int.tmod ((Qas ((nth y1_m0 i1).Cells) (i64.wrap (s1_1+1))).2) 3=0))] y1_m0 Fo12]) a38 hE38=>wpList_nil ?_
  refine Qab ?_
  refine wp_region_lit ?_
  refine Qaa hE38 (Qai hE38 rfl) rfl fun a39 hE39=>Qaa hE39 (Qg7 hE39 rfl rfl) rfl fun a40 hE40=>Qaa hE40 (Qan hE40 rfl) rfl fun a41 hE41=>wpList_nil ?_
  refine Qf0 ?_
  refine Qab ?_
  refine wp_region_lit ?_
  refine Qaa hE41 (Qai hE41 rfl) rfl fun a42 hE42=>Qaa hE42 (Qhw hE42 rfl rfl (m:=((i1+1:Nat):Int)) (by omega) (by omega) (by omega)) rfl fun a43 hE43=>Qaa hE43 (Qan hE43 rfl) rfl fun a44 hE44=>wpList_nil ?_
  have hJ45:=SH.joinP (L:=[Ck.elem (α:=Slot) g12 i1 cap0 [.int .i64 s1_1,.slice A12_1 ((nth y1_m0 i1).Cells.length) cp12_1,.bool (decide (Int.tmod ((Qas ((nth y1_m0 i1).Cells) (i64.wrap (s1_1+1))).2) 3=0))] y1_m0 Fo12]) (M:=[Ck.own (α:=List Cell) [.slice A12_1 ((nth y1_m0 i1).Cells.length) cp12_1] ((Qas ((nth y1_m0 i1).Cells) (i64.wrap (s1_1+1))).1) F27]) (c:=Ck.own (α:=Slot) [.int .i64 s1_1,.slice A12_1 ((nth y1_m0 i1).Cells.length) cp12_1,.bool (decide (Int.tmod ((Qas ((nth y1_m0 i1).Cells) (i64.wrap (s1_1+1))).2) 3=0))] (Slot.mk s1_1 ((Qas ((nth y1_m0 i1).Cells) (i64.wrap (s1_1+1))).1) (decide (Int.tmod ((Qas ((nth y1_m0 i1).Cells) (i64.wrap (s1_1+1))).2) 3=0))) (F27++[])) hS37 (List.Perm.of_eq (by simp only[Ck.own,flatMap_cons,flatMap_nil,append_nil,append_assoc])) (Yk0 (Yl0 (x:=(Slot.mk s1_1 ((Qas ((nth y1_m0 i1).Cells) (i64.wrap (s1_1+1))).1) (decide (Int.tmod ((Qas ((nth y1_m0 i1).Cells) (i64.wrap (s1_1+1))).2) 3=0)))) hgis1_1 (hS37.slO (k:=0) rfl)))
  obtain⟨F45,hS45⟩:=SH.unfocus (α:=Slot) (L:=[]) hJ45 hA12 hn12 (by omega)
  refine Qab ⟨fu1,Nat.lt_succ_self _,(i1+1),i64.wrap ((Qas ((nth y1_m0 i1).Cells) (i64.wrap (s1_1+1))).2+1),(y1_m0.set i1 (Slot.mk s1_1 ((Qas ((nth y1_m0 i1).Cells) (i64.wrap (s1_1+1))).1) (decide (Int.tmod ((Qas ((nth y1_m0 i1).Cells) (i64.wrap (s1_1+1))).2) 3=0)))),F45,by omega,by omega,.inl (by omega),(Qbb _),hM,hE44.weaken ⟨rfl,rfl,rfl,trivial⟩,hS45⟩
 ·
  have hge1: ¬ i1<p0.length:=by have:=of_decide_eq_false hb8;omega
  obtain rfl:fu1=0:=by omega
  have hM:=hM.trans (Qen.eq_1 _ _ _ _ _)
  refine wp_exit ?_
  refine Qde ?_
  refine Qde ?_
  refine Qhx ?_
  refine Qab ?_
  refine wp_seq (wp_region_lit ?_)
  refine Qaa hE7 (Qai hE7 rfl) rfl fun a46 hE46=>Qaa hE46 (Qan hE46 rfl) rfl fun a47 hE47=>wpList_nil ?_
  refine Qab ?_
  refine wp_ret ?_
  refine fin1 hE47 rfl rfl ?_
  rw[hM]
  exact⟨rfl,hgis1_1,Fy1_m0,hS3⟩
def Qbq (p0:List Step) (p1:Int):Nat→Nat→Int→List Step→List Step×Int
 | 0,i1,s1_1,y1_m0=>(y1_m0,s1_1)
 | fu1+1,i1,s1_1,y1_m0=>Qbq p0 p1 fu1 (i1+1) (i64.wrap (i64.wrap (i64.wrap (i64.wrap (i64.wrap (i64.wrap (i64.wrap (s1_1+1)+1)+1)+1)+1)+1)+1)) (y1_m0.set i1 (Step.mk s1_1 (Call.mk (i64.wrap (s1_1+1)) (Qad (i64.wrap (i64.wrap (s1_1+1)+1))) (Qad (i64.wrap (i64.wrap (i64.wrap (s1_1+1)+1)+1))) (i64.wrap (i64.wrap (i64.wrap (i64.wrap (s1_1+1)+1)+1)+1)) (i64.wrap (i64.wrap (i64.wrap (i64.wrap (i64.wrap (s1_1+1)+1)+1)+1)+1)) (Qad (i64.wrap (i64.wrap (i64.wrap (i64.wrap (i64.wrap (i64.wrap (s1_1+1)+1)+1)+1)+1)+1))))))
def Qah (p0:List Step) (p1:Int):List Step×Int:=Qbq p0 p1 (p0.length - 0) 0 p1 p0
theorem Qyg {v0:Value} (p0:List Step) {F0:List Nat} (p1:Int) {w:World} (hMu0:SH (Off [Ck.own (α:=List Step) [v0] p0 F0] w) w w [Ck.own (α:=List Step) [v0] p0 F0]) (hi1:I64 p1):
  Calls Tryz.prog 64 [v0,.int .i64 p1].toArray w (fun e w'=>e= .returned (.int .i64 (Qah p0 p1).2)∧I64 (Qah p0 p1).2∧ ∃ F',SH (Off [Ck.own (α:=List Step) [v0] p0 F0] w) w w' [Ck.own (α:=List Step) [v0] (Qah p0 p1).1 F']):=by
 obtain⟨A0,cap0,rfl,hx0⟩:=(hMu0.slO (k:=0) rfl).form
 refine enter Tryz.func64 rfl Tryz.ntmps64 (Nat.le_of_ble_eq_true rfl) ?_
 intro a0 hE0
 have hS0:=hMu0
 have hM:=Qah.eq_1 p0 p1
 have hij1: -9223372036854775808≤p1∧p1≤9223372036854775807:=hi1
 refine wp_seq (wp_region_lit ?_)
 refine Qaa hE0 (Qan hE0 rfl) rfl fun a1 hE1=>wpList_nil ?_
 refine Qab ?_
 refine wp_seq (wp_seq (wp_region_lit ?_))
 refine Qaa hE1 (Qan hE1 rfl) rfl fun a2 hE2=>wpList_nil ?_
 refine Qab ?_
 refine wp_block (wp_loop_ghost (fun fu1 a w2=> ∃ (i1:Nat) (s1_1:Int) (y1_m0:List Step) (Fy1_m0:List Nat),0≤i1∧fu1=p0.length - i1∧(i1≤p0.length∨i1=0)∧I64 s1_1∧Qah p0 p1=Qbq p0 p1 fu1 i1 s1_1 y1_m0∧Env 71 [(0,.slice A0 p0.length cap0),(1,.int .i64 s1_1),(5,.int .i64 (i1:Int))] a∧SH (Off [Ck.own (α:=List Step) [.slice A0 p0.length cap0] p0 F0] w) w w2 [Ck.own (α:=List Step) [.slice A0 p0.length cap0] y1_m0 Fy1_m0]) (p0.length - 0) ⟨0,p1,p0,F0,Nat.le_refl _,rfl,.inr rfl,hi1,hM,hE2.weaken ⟨rfl,rfl,rfl,trivial⟩,hS0⟩ ?_)
 rintro fu1 a3 w3 ⟨i1,s1_1,y1_m0,Fy1_m0,hi1,hfu1,hup1,hgis1_1,hM,hE3,hS3⟩
 have hlry1_m0:=hS3.lenrow (k:=0) rfl
 refine wp_seq (wp_seq (wp_region_lit ?_))
 refine Qaa hE3 (Qai hE3 rfl) rfl fun a4 hE4=>Qaa hE4 (Qai hE4 rfl) rfl fun a5 hE5=>Qaa hE5 (Qf1 hE5 rfl sl77) rfl fun a6 hE6=>Qaa hE6 (Qo9 hE6 rfl rfl) rfl fun a7 hE7=>wpList_nil ?_
 refine Qab ?_
 refine Qd5 hE7 rfl (fun hb8=>?_) (fun hb8=>?_)
 ·
  have hlt1:i1<p0.length:=by have:=of_decide_eq_true hb8;omega
  obtain⟨fu1,rfl⟩: ∃ m,fu1=m+1:=⟨fu1 - 1,by omega⟩
  have hM:=hM.trans (Qbq.eq_2 _ _ _ _ _ _)
  refine wp_skip ?_
  refine Qab ?_
  refine wp_seq (wp_block (wp_seq (wp_region_lit ?_)))
  refine Qaa hE7 (Qai hE7 rfl) rfl fun a9 hE9=>Qaa hE9 (Qai hE9 rfl) rfl fun a10 hE10=>Qaa hE10 (Qai hE10 rfl) rfl fun a11 hE11=>?_
  have hlr12:=hS3.lenrow (k:=0) rfl
  obtain⟨g12,ce12,Fo12,G12,hA12,hn12,hF12⟩:=SH.focus (L:=[]) hS3 (i:=i1) (by omega)
  obtain⟨rfl,rfl,hg12_0,hg12_1,hg12_2,hg12_3,hg12_4,hg12_5,hg12_6,_⟩:=Yia (show Dat.own w3 ce12 (nth y1_m0 i1) G12 from hF12.get (k:=0) rfl)
  have hS13:=hF12.drop (k:=1)
  refine Qaa hE11 (Qax (A:=⟨g12,0,none⟩) hE11 (congrArg (fun A=>some (Value.slice A p0.length cap0)) hA12) rfl (by omega) (by omega) sl77) rfl fun a14 hE14=>Qaa hE14 (Qau hE14 rfl Yn3 rfl) rfl fun a15 hE15=>Qb2 (α:=Step) (k:=0) hE15 hS13 [.int .i64 s1_1,.int .i64 ((nth y1_m0 i1).Call.Kind),.string ((nth y1_m0 i1).Call.Name),.string ((nth y1_m0 i1).Call.To),.int .i64 ((nth y1_m0 i1).Call.A),.int .i64 ((nth y1_m0 i1).Call.B),.string ((nth y1_m0 i1).Call.Text)] rfl rfl rfl (by rw[Int.toNat_natCast];rfl) rfl (Qbf one3) rfl rfl rfl rfl fun w16 (hS16:SH (Off [Ck.own (α:=List Step) [.slice A0 p0.length cap0] p0 F0] w) w w16 [Ck.elem (α:=Step) g12 i1 cap0 [.int .i64 s1_1,.int .i64 ((nth y1_m0 i1).Call.Kind),.string ((nth y1_m0 i1).Call.Name),.string ((nth y1_m0 i1).Call.To),.int .i64 ((nth y1_m0 i1).Call.A),.int .i64 ((nth y1_m0 i1).Call.B),.string ((nth y1_m0 i1).Call.Text)] y1_m0 Fo12]) a17 hE17=>wpList_nil ?_
  refine Qab ?_
  refine wp_seq (wp_region_lit ?_)
  refine Qaa hE17 (Qai hE17 rfl) rfl fun a18 hE18=>Qaa hE18 (Qg7 hE18 rfl rfl) rfl fun a19 hE19=>Qaa hE19 (Qan hE19 rfl) rfl fun a20 hE20=>wpList_nil ?_
  refine Qab ?_
  refine wp_seq (wp_region_lit ?_)
  refine Qaa hE20 (Qai hE20 rfl) rfl fun a21 hE21=>Qaa hE21 (Qai hE21 rfl) rfl fun a22 hE22=>Qaa hE22 (Qai hE22 rfl) rfl fun a23 hE23=>?_
  refine Qaa hE23 (Qax (A:=⟨g12,0,none⟩) hE23 (congrArg (fun A=>some (Value.slice A p0.length cap0)) hA12) rfl (by omega) (by omega) sl77) rfl fun a24 hE24=>Qaa hE24 (Qau hE24 rfl Qrq rfl) rfl fun a25 hE25=>Qaa hE25 (Qau hE25 rfl Yjq rfl) rfl fun a26 hE26=>Qb2 (α:=Step) (k:=0) hE26 hS16 [.int .i64 s1_1,.int .i64 (i64.wrap (s1_1+1)),.string ((nth y1_m0 i1).Call.Name),.string ((nth y1_m0 i1).Call.To),.int .i64 ((nth y1_m0 i1).Call.A),.int .i64 ((nth y1_m0 i1).Call.B),.string ((nth y1_m0 i1).Call.Text)] rfl rfl rfl (by rw[Int.toNat_natCast];rfl) rfl (Qbf one3) rfl rfl rfl rfl fun w27 (hS27:SH (Off [Ck.own (α:=List Step) [.slice A0 p0.length cap0] p0 F0] w) w w27 [Ck.elem (α:=Step) g12 i1 cap0 [.int .i64 s1_1,.int .i64 (i64.wrap (s1_1+1)),.string ((nth y1_m0 i1).Call.Name),.string ((nth y1_m0 i1).Call.To),.int .i64 ((nth y1_m0 i1).Call.A),.int .i64 ((nth y1_m0 i1).Call.B),.string ((nth y1_m0 i1).Call.Text)] y1_m0 Fo12]) a28 hE28=>wpList_nil ?_
  refine Qab ?_
  refine wp_seq (wp_region_lit ?_)
  refine Qaa hE28 (Qai hE28 rfl) rfl fun a29 hE29=>Qaa hE29 (Qg7 hE29 rfl rfl) rfl fun a30 hE30=>Qaa hE30 (Qan hE30 rfl) rfl fun a31 hE31=>wpList_nil ?_
  refine Qab ?_
  refine wp_seq (wp_region_lit ?_)
  refine Qaa hE31 (Qai hE31 rfl) rfl fun a32 hE32=>Qaa hE32 (Qai hE32 rfl) rfl fun a33 hE33=>Qaa hE33 (Qai hE33 rfl) rfl fun a34 hE34=>Qhh hE34 hS27 Tryz.func57 fb57 fn57 (Qdj (i64.wrap (i64.wrap (s1_1+1)+1)) (Qbb _)) rfl rfl fun w35 hS35 a36 hE36=>?_
  refine Qaa hE36 (Qax (A:=⟨g12,0,none⟩) hE36 (congrArg (fun A=>some (Value.slice A p0.length cap0)) hA12) rfl (by omega) (by omega) sl77) rfl fun a37 hE37=>Qaa hE37 (Qau hE37 rfl Qrq rfl) rfl fun a38 hE38=>Qaa hE38 (Qau hE38 rfl Yjp rfl) rfl fun a39 hE39=>Qb2 (α:=Step) (k:=0) hE39 hS35 [.int .i64 s1_1,.int .i64 (i64.wrap (s1_1+1)),.string (Qad (i64.wrap (i64.wrap (s1_1+1)+1))),.string ((nth y1_m0 i1).Call.To),.int .i64 ((nth y1_m0 i1).Call.A),.int .i64 ((nth y1_m0 i1).Call.B),.string ((nth y1_m0 i1).Call.Text)] rfl rfl rfl (by rw[Int.toNat_natCast];rfl) rfl (Qbf one9) rfl rfl rfl rfl fun w40 (hS40:SH (Off [Ck.own (α:=List Step) [.slice A0 p0.length cap0] p0 F0] w) w w40 [Ck.elem (α:=Step) g12 i1 cap0 [.int .i64 s1_1,.int .i64 (i64.wrap (s1_1+1)),.string (Qad (i64.wrap (i64.wrap (s1_1+1)+1))),.string ((nth y1_m0 i1).Call.To),.int .i64 ((nth y1_m0 i1).Call.A),.int .i64 ((nth y1_m0 i1).Call.B),.string ((nth y1_m0 i1).Call.Text)] y1_m0 Fo12]) a41 hE41=>wpList_nil ?_
  refine Qab ?_
  refine wp_seq (wp_region_lit ?_)
  refine Qaa hE41 (Qai hE41 rfl) rfl fun a42 hE42=>Qaa hE42 (Qg7 hE42 rfl rfl) rfl fun a43 hE43=>Qaa hE43 (Qan hE43 rfl) rfl fun a44 hE44=>wpList_nil ?_
  refine Qab ?_
  refine wp_seq (wp_region_lit ?_)
  refine Qaa hE44 (Qai hE44 rfl) rfl fun a45 hE45=>Qaa hE45 (Qai hE45 rfl) rfl fun a46 hE46=>Qaa hE46 (Qai hE46 rfl) rfl fun a47 hE47=>Qhh hE47 hS40 Tryz.func57 fb57 fn57 (Qdj (i64.wrap (i64.wrap (i64.wrap (s1_1+1)+1)+1)) (Qbb _)) rfl rfl fun w48 hS48 a49 hE49=>?_
  refine Qaa hE49 (Qax (A:=⟨g12,0,none⟩) hE49 (congrArg (fun A=>some (Value.slice A p0.length cap0)) hA12) rfl (by omega) (by omega) sl77) rfl fun a50 hE50=>Qaa hE50 (Qau hE50 rfl Qrq rfl) rfl fun a51 hE51=>Qaa hE51 (Qau hE51 rfl Yjo rfl) rfl fun a52 hE52=>Qb2 (α:=Step) (k:=0) hE52 hS48 [.int .i64 s1_1,.int .i64 (i64.wrap (s1_1+1)),.string (Qad (i64.wrap (i64.wrap (s1_1+1)+1))),.string (Qad (i64.wrap (i64.wrap (i64.wrap (s1_1+1)+1)+1))),.int .i64 ((nth y1_m0 i1).Call.A),.int .i64 ((nth y1_m0 i1).Call.B),.string ((nth y1_m0 i1).Call.Text)] rfl rfl rfl (by rw[Int.toNat_natCast];rfl) rfl (Qbf one9) rfl rfl rfl rfl fun w53 (hS53:SH (Off [Ck.own (α:=List Step) [.slice A0 p0.length cap0] p0 F0] w) w w53 [Ck.elem (α:=Step) g12 i1 cap0 [.int .i64 s1_1,.int .i64 (i64.wrap (s1_1+1)),.string (Qad (i64.wrap (i64.wrap (s1_1+1)+1))),.string (Qad (i64.wrap (i64.wrap (i64.wrap (s1_1+1)+1)+1))),.int .i64 ((nth y1_m0 i1).Call.A),.int .i64 ((nth y1_m0 i1).Call.B),.string ((nth y1_m0 i1).Call.Text)] y1_m0 Fo12]) a54 hE54=>wpList_nil ?_
  refine Qab ?_
  refine wp_seq (wp_region_lit ?_)
  refine Qaa hE54 (Qai hE54 rfl) rfl fun a55 hE55=>Qaa hE55 (Qg7 hE55 rfl rfl) rfl fun a56 hE56=>Qaa hE56 (Qan hE56 rfl) rfl fun a57 hE57=>wpList_nil ?_
  refine Qab ?_
  refine wp_seq (wp_region_lit ?_)
  refine Qaa hE57 (Qai hE57 rfl) rfl fun a58 hE58=>Qaa hE58 (Qai hE58 rfl) rfl fun a59 hE59=>Qaa hE59 (Qai hE59 rfl) rfl fun a60 hE60=>?_
  refine Qaa hE60 (Qax (A:=⟨g12,0,none⟩) hE60 (congrArg (fun A=>some (Value.slice A p0.length cap0)) hA12) rfl (by omega) (by omega) sl77) rfl fun a61 hE61=>Qaa hE61 (Qau hE61 rfl Qrq rfl) rfl fun a62 hE62=>Qaa hE62 (Qau hE62 rfl Yjn rfl) rfl fun a63 hE63=>Qb2 (α:=Step) (k:=0) hE63 hS53 [.int .i64 s1_1,.int .i64 (i64.wrap (s1_1+1)),.string (Qad (i64.wrap (i64.wrap (s1_1+1)+1))),.string (Qad (i64.wrap (i64.wrap (i64.wrap (s1_1+1)+1)+1))),.int .i64 (i64.wrap (i64.wrap (i64.wrap (i64.wrap (s1_1+1)+1)+1)+1)),.int .i64 ((nth y1_m0 i1).Call.B),.string ((nth y1_m0 i1).Call.Text)] rfl rfl rfl (by rw[Int.toNat_natCast];rfl) rfl (Qbf one3) rfl rfl rfl rfl fun w64 (hS64:SH (Off [Ck.own (α:=List Step) [.slice A0 p0.length cap0] p0 F0] w) w w64 [Ck.elem (α:=Step) g12 i1 cap0 [.int .i64 s1_1,.int .i64 (i64.wrap (s1_1+1)),.string (Qad (i64.wrap (i64.wrap (s1_1+1)+1))),.string (Qad (i64.wrap (i64.wrap (i64.wrap (s1_1+1)+1)+1))),.int .i64 (i64.wrap (i64.wrap (i64.wrap (i64.wrap (s1_1+1)+1)+1)+1)),.int .i64 ((nth y1_m0 i1).Call.B),.string ((nth y1_m0 i1).Call.Text)] y1_m0 Fo12]) a65 hE65=>wpList_nil ?_
  refine Qab ?_
  refine wp_seq (wp_region_lit ?_)
  refine Qaa hE65 (Qai hE65 rfl) rfl fun a66 hE66=>Qaa hE66 (Qg7 hE66 rfl rfl) rfl fun a67 hE67=>Qaa hE67 (Qan hE67 rfl) rfl fun a68 hE68=>wpList_nil ?_
  refine Qab ?_
  refine wp_seq (wp_region_lit ?_)
  refine Qaa hE68 (Qai hE68 rfl) rfl fun a69 hE69=>Qaa hE69 (Qai hE69 rfl) rfl fun a70 hE70=>Qaa hE70 (Qai hE70 rfl) rfl fun a71 hE71=>?_
  refine Qaa hE71 (Qax (A:=⟨g12,0,none⟩) hE71 (congrArg (fun A=>some (Value.slice A p0.length cap0)) hA12) rfl (by omega) (by omega) sl77) rfl fun a72 hE72=>Qaa hE72 (Qau hE72 rfl Qrq rfl) rfl fun a73 hE73=>Qaa hE73 (Qau hE73 rfl Yjm rfl) rfl fun a74 hE74=>Qb2 (α:=Step) (k:=0) hE74 hS64 [.int .i64 s1_1,.int .i64 (i64.wrap (s1_1+1)),.string (Qad (i64.wrap (i64.wrap (s1_1+1)+1))),.string (Qad (i64.wrap (i64.wrap (i64.wrap (s1_1+1)+1)+1))),.int .i64 (i64.wrap (i64.wrap (i64.wrap (i64.wrap (s1_1+1)+1)+1)+1)),.int .i64 (i64.wrap (i64.wrap (i64.wrap (i64.wrap (i64.wrap (s1_1+1)+1)+1)+1)+1)),.string ((nth y1_m0 i1).Call.Text)] rfl rfl rfl (by rw[Int.toNat_natCast];rfl) rfl (Qbf one3) rfl rfl rfl rfl fun w75 (hS75:SH (Off [Ck.own (α:=List Step) [.slice A0 p0.length cap0] p0 F0] w) w w75 [Ck.elem (α:=Step) g12 i1 cap0 [.int .i64 s1_1,.int .i64 (i64.wrap (s1_1+1)),.string (Qad (i64.wrap (i64.wrap (s1_1+1)+1))),.string (Qad (i64.wrap (i64.wrap (i64.wrap (s1_1+1)+1)+1))),.int .i64 (i64.wrap (i64.wrap (i64.wrap (i64.wrap (s1_1+1)+1)+1)+1)),.int .i64 (i64.wrap (i64.wrap (i64.wrap (i64.wrap (i64.wrap (s1_1+1)+1)+1)+1)+1)),.string ((nth y1_m0 i1).Call.Text)] y1_m0 Fo12]) a76 hE76=>wpList_nil ?_
  refine Qab ?_
  refine wp_seq (wp_region_lit ?_)
  refine Qaa hE76 (Qai hE76 rfl) rfl fun a77 hE77=>Qaa hE77 (Qg7 hE77 rfl rfl) rfl fun a78 hE78=>Qaa hE78 (Qan hE78 rfl) rfl fun a79 hE79=>wpList_nil ?_
  refine Qab ?_
  refine wp_seq (wp_region_lit ?_)
  refine Qaa hE79 (Qai hE79 rfl) rfl fun a80 hE80=>Qaa hE80 (Qai hE80 rfl) rfl fun a81 hE81=>Qaa hE81 (Qai hE81 rfl) rfl fun a82 hE82=>Qhh hE82 hS75 Tryz.func57 fb57 fn57 (Qdj (i64.wrap (i64.wrap (i64.wrap (i64.wrap (i64.wrap (i64.wrap (s1_1+1)+1)+1)+1)+1)+1)) (Qbb _)) rfl rfl fun w83 hS83 a84 hE84=>?_
  refine Qaa hE84 (Qax (A:=⟨g12,0,none⟩) hE84 (congrArg (fun A=>some (Value.slice A p0.length cap0)) hA12) rfl (by omega) (by omega) sl77) rfl fun a85 hE85=>Qaa hE85 (Qau hE85 rfl Qrq rfl) rfl fun a86 hE86=>Qaa hE86 (Qau hE86 rfl Yjl rfl) rfl fun a87 hE87=>Qb2 (α:=Step) (k:=0) hE87 hS83 [.int .i64 s1_1,.int .i64 (i64.wrap (s1_1+1)),.string (Qad (i64.wrap (i64.wrap (s1_1+1)+1))),.string (Qad (i64.wrap (i64.wrap (i64.wrap (s1_1+1)+1)+1))),.int .i64 (i64.wrap (i64.wrap (i64.wrap (i64.wrap (s1_1+1)+1)+1)+1)),.int .i64 (i64.wrap (i64.wrap (i64.wrap (i64.wrap (i64.wrap (s1_1+1)+1)+1)+1)+1)),.string (Qad (i64.wrap (i64.wrap (i64.wrap (i64.wrap (i64.wrap (i64.wrap (s1_1+1)+1)+1)+1)+1)+1)))] rfl rfl rfl (by rw[Int.toNat_natCast];rfl) rfl (Qbf one9) rfl rfl rfl rfl fun w88 (hS88:SH (Off [Ck.own (α:=List Step) [.slice A0 p0.length cap0] p0 F0] w) w w88 [Ck.elem (α:=Step) g12 i1 cap0 [.int .i64 s1_1,.int .i64 (i64.wrap (s1_1+1)),.string (Qad (i64.wrap (i64.wrap (s1_1+1)+1))),.string (Qad (i64.wrap (i64.wrap (i64.wrap (s1_1+1)+1)+1))),.int .i64 (i64.wrap (i64.wrap (i64.wrap (i64.wrap (s1_1+1)+1)+1)+1)),.int .i64 (i64.wrap (i64.wrap (i64.wrap (i64.wrap (i64.wrap (s1_1+1)+1)+1)+1)+1)),.string (Qad (i64.wrap (i64.wrap (i64.wrap (i64.wrap (i64.wrap (i64.wrap (s1_1+1)+1)+1)+1)+1)+1)))] y1_m0 Fo12]) a89 hE89=>wpList_nil ?_
  refine Qab ?_
  refine wp_region_lit ?_
  refine Qaa hE89 (Qai hE89 rfl) rfl fun a90 hE90=>Qaa hE90 (Qg7 hE90 rfl rfl) rfl fun a91 hE91=>Qaa hE91 (Qan hE91 rfl) rfl fun a92 hE92=>wpList_nil ?_
  refine Qf0 ?_
  refine Qab ?_
  refine wp_region_lit ?_
  refine Qaa hE92 (Qai hE92 rfl) rfl fun a93 hE93=>Qaa hE93 (Qhw hE93 rfl rfl (m:=((i1+1:Nat):Int)) (by omega) (by omega) (by omega)) rfl fun a94 hE94=>Qaa hE94 (Qan hE94 rfl) rfl fun a95 hE95=>wpList_nil ?_
  have hJ96:=SH.flat (L:=[Ck.elem (α:=Step) g12 i1 cap0 [.int .i64 s1_1,.int .i64 (i64.wrap (s1_1+1)),.string (Qad (i64.wrap (i64.wrap (s1_1+1)+1))),.string (Qad (i64.wrap (i64.wrap (i64.wrap (s1_1+1)+1)+1))),.int .i64 (i64.wrap (i64.wrap (i64.wrap (i64.wrap (s1_1+1)+1)+1)+1)),.int .i64 (i64.wrap (i64.wrap (i64.wrap (i64.wrap (i64.wrap (s1_1+1)+1)+1)+1)+1)),.string (Qad (i64.wrap (i64.wrap (i64.wrap (i64.wrap (i64.wrap (i64.wrap (s1_1+1)+1)+1)+1)+1)+1)))] y1_m0 Fo12]) (α:=Step) (cs:=[.int .i64 s1_1,.int .i64 (i64.wrap (s1_1+1)),.string (Qad (i64.wrap (i64.wrap (s1_1+1)+1))),.string (Qad (i64.wrap (i64.wrap (i64.wrap (s1_1+1)+1)+1))),.int .i64 (i64.wrap (i64.wrap (i64.wrap (i64.wrap (s1_1+1)+1)+1)+1)),.int .i64 (i64.wrap (i64.wrap (i64.wrap (i64.wrap (i64.wrap (s1_1+1)+1)+1)+1)+1)),.string (Qad (i64.wrap (i64.wrap (i64.wrap (i64.wrap (i64.wrap (i64.wrap (s1_1+1)+1)+1)+1)+1)+1)))]) (x:=(Step.mk s1_1 (Call.mk (i64.wrap (s1_1+1)) (Qad (i64.wrap (i64.wrap (s1_1+1)+1))) (Qad (i64.wrap (i64.wrap (i64.wrap (s1_1+1)+1)+1))) (i64.wrap (i64.wrap (i64.wrap (i64.wrap (s1_1+1)+1)+1)+1)) (i64.wrap (i64.wrap (i64.wrap (i64.wrap (i64.wrap (s1_1+1)+1)+1)+1)+1)) (Qad (i64.wrap (i64.wrap (i64.wrap (i64.wrap (i64.wrap (i64.wrap (s1_1+1)+1)+1)+1)+1)+1)))))) hS88 (fun _=>Ylz (x:=(Step.mk s1_1 (Call.mk (i64.wrap (s1_1+1)) (Qad (i64.wrap (i64.wrap (s1_1+1)+1))) (Qad (i64.wrap (i64.wrap (i64.wrap (s1_1+1)+1)+1))) (i64.wrap (i64.wrap (i64.wrap (i64.wrap (s1_1+1)+1)+1)+1)) (i64.wrap (i64.wrap (i64.wrap (i64.wrap (i64.wrap (s1_1+1)+1)+1)+1)+1)) (Qad (i64.wrap (i64.wrap (i64.wrap (i64.wrap (i64.wrap (i64.wrap (s1_1+1)+1)+1)+1)+1)+1)))))) hgis1_1 (Qbb _) (Qc2 (by first | assumption | exact Qbb _)) (Qc2 (by first | assumption | exact Qbb _)) (Qbb _) (Qbb _) (Qc2 (by first | assumption | exact Qbb _)))
  obtain⟨F96,hS96⟩:=SH.unfocus (α:=Step) (L:=[]) hJ96 hA12 hn12 (by omega)
  refine Qab ⟨fu1,Nat.lt_succ_self _,(i1+1),i64.wrap (i64.wrap (i64.wrap (i64.wrap (i64.wrap (i64.wrap (i64.wrap (s1_1+1)+1)+1)+1)+1)+1)+1),(y1_m0.set i1 (Step.mk s1_1 (Call.mk (i64.wrap (s1_1+1)) (Qad (i64.wrap (i64.wrap (s1_1+1)+1))) (Qad (i64.wrap (i64.wrap (i64.wrap (s1_1+1)+1)+1))) (i64.wrap (i64.wrap (i64.wrap (i64.wrap (s1_1+1)+1)+1)+1)) (i64.wrap (i64.wrap (i64.wrap (i64.wrap (i64.wrap (s1_1+1)+1)+1)+1)+1)) (Qad (i64.wrap (i64.wrap (i64.wrap (i64.wrap (i64.wrap (i64.wrap (s1_1+1)+1)+1)+1)+1)+1)))))),F96,by omega,by omega,.inl (by omega),(Qbb _),hM,hE95.weaken ⟨rfl,rfl,rfl,trivial⟩,hS96⟩
 ·
  have hge1: ¬ i1<p0.length:=by have:=of_decide_eq_false hb8;omega
  obtain rfl:fu1=0:=by omega
  have hM:=hM.trans (Qbq.eq_1 _ _ _ _ _)
  refine wp_exit ?_
  refine Qde ?_
  refine Qde ?_
  refine Qhx ?_
  refine Qab ?_
  refine wp_seq (wp_region_lit ?_)
  refine Qaa hE7 (Qai hE7 rfl) rfl fun a97 hE97=>Qaa hE97 (Qan hE97 rfl) rfl fun a98 hE98=>wpList_nil ?_
  refine Qab ?_
  refine wp_ret ?_
  refine fin1 hE98 rfl rfl ?_
  rw[hM]
  exact⟨rfl,hgis1_1,Fy1_m0,hS3⟩
def Qbo (p0:List Entry) (p1:Int):Nat→Nat→Int→List Entry→List Entry×Int
 | 0,i1,s1_1,y1_m0=>(y1_m0,s1_1)
 | fu1+1,i1,s1_1,y1_m0=>Qbo p0 p1 fu1 (i1+1) (i64.wrap (i64.wrap (i64.wrap ((Qac ((nth y1_m0 i1).Answers) ((Qah ((nth y1_m0 i1).Steps) (i64.wrap (i64.wrap (i64.wrap (s1_1+1)+1)+1))).2)).2+1)+1)+1)) (y1_m0.set i1 (Entry.mk s1_1 (i64.wrap (s1_1+1)) (i64.wrap (i64.wrap (s1_1+1)+1)) ((Qah ((nth y1_m0 i1).Steps) (i64.wrap (i64.wrap (i64.wrap (s1_1+1)+1)+1))).1) ((Qac ((nth y1_m0 i1).Answers) ((Qah ((nth y1_m0 i1).Steps) (i64.wrap (i64.wrap (i64.wrap (s1_1+1)+1)+1))).2)).1) ((Qac ((nth y1_m0 i1).Answers) ((Qah ((nth y1_m0 i1).Steps) (i64.wrap (i64.wrap (i64.wrap (s1_1+1)+1)+1))).2)).2) (i64.wrap ((Qac ((nth y1_m0 i1).Answers) ((Qah ((nth y1_m0 i1).Steps) (i64.wrap (i64.wrap (i64.wrap (s1_1+1)+1)+1))).2)).2+1)) (decide (Int.tmod (i64.wrap (i64.wrap ((Qac ((nth y1_m0 i1).Answers) ((Qah ((nth y1_m0 i1).Steps) (i64.wrap (i64.wrap (i64.wrap (s1_1+1)+1)+1))).2)).2+1)+1)) 3=0))))
def Qa5 (p0:List Entry) (p1:Int):List Entry×Int:=Qbo p0 p1 (p0.length - 0) 0 p1 p0
theorem Qrw {v0:Value} (p0:List Entry) {F0:List Nat} (p1:Int) {w:World} (hMu0:SH (Off [Ck.own (α:=List Entry) [v0] p0 F0] w) w w [Ck.own (α:=List Entry) [v0] p0 F0]) (hi1:I64 p1):
  Calls Tryz.prog 25 [v0,.int .i64 p1].toArray w (fun e w'=>e= .returned (.int .i64 (Qa5 p0 p1).2)∧I64 (Qa5 p0 p1).2∧ ∃ F',SH (Off [Ck.own (α:=List Entry) [v0] p0 F0] w) w w' [Ck.own (α:=List Entry) [v0] (Qa5 p0 p1).1 F']):=by
 obtain⟨A0,cap0,rfl,hx0⟩:=(hMu0.slO (k:=0) rfl).form
 refine enter Tryz.func25 rfl Tryz.ntmps25 (Nat.le_of_ble_eq_true rfl) ?_
 intro a0 hE0
 have hS0:=hMu0
 have hM:=Qa5.eq_1 p0 p1
 have hij1: -9223372036854775808≤p1∧p1≤9223372036854775807:=hi1
 refine wp_seq (wp_region_lit ?_)
 refine Qaa hE0 (Qan hE0 rfl) rfl fun a1 hE1=>wpList_nil ?_
 refine Qab ?_
 refine wp_seq (wp_seq (wp_region_lit ?_))
 refine Qaa hE1 (Qan hE1 rfl) rfl fun a2 hE2=>wpList_nil ?_
 refine Qab ?_
 refine wp_block (wp_loop_ghost (fun fu1 a w2=> ∃ (i1:Nat) (s1_1:Int) (y1_m0:List Entry) (Fy1_m0:List Nat),0≤i1∧fu1=p0.length - i1∧(i1≤p0.length∨i1=0)∧I64 s1_1∧Qa5 p0 p1=Qbo p0 p1 fu1 i1 s1_1 y1_m0∧Env 71 [(0,.slice A0 p0.length cap0),(1,.int .i64 s1_1),(5,.int .i64 (i1:Int))] a∧SH (Off [Ck.own (α:=List Entry) [.slice A0 p0.length cap0] p0 F0] w) w w2 [Ck.own (α:=List Entry) [.slice A0 p0.length cap0] y1_m0 Fy1_m0]) (p0.length - 0) ⟨0,p1,p0,F0,Nat.le_refl _,rfl,.inr rfl,hi1,hM,hE2.weaken ⟨rfl,rfl,rfl,trivial⟩,hS0⟩ ?_)
 rintro fu1 a3 w3 ⟨i1,s1_1,y1_m0,Fy1_m0,hi1,hfu1,hup1,hgis1_1,hM,hE3,hS3⟩
 have hlry1_m0:=hS3.lenrow (k:=0) rfl
 refine wp_seq (wp_seq (wp_region_lit ?_))
 refine Qaa hE3 (Qai hE3 rfl) rfl fun a4 hE4=>Qaa hE4 (Qai hE4 rfl) rfl fun a5 hE5=>Qaa hE5 (Qf1 hE5 rfl sl41) rfl fun a6 hE6=>Qaa hE6 (Qo9 hE6 rfl rfl) rfl fun a7 hE7=>wpList_nil ?_
 refine Qab ?_
 refine Qd5 hE7 rfl (fun hb8=>?_) (fun hb8=>?_)
 ·
  have hlt1:i1<p0.length:=by have:=of_decide_eq_true hb8;omega
  obtain⟨fu1,rfl⟩: ∃ m,fu1=m+1:=⟨fu1 - 1,by omega⟩
  have hM:=hM.trans (Qbo.eq_2 _ _ _ _ _ _)
  refine wp_skip ?_
  refine Qab ?_
  refine wp_seq (wp_block (wp_seq (wp_region_lit ?_)))
  refine Qaa hE7 (Qai hE7 rfl) rfl fun a9 hE9=>Qaa hE9 (Qai hE9 rfl) rfl fun a10 hE10=>Qaa hE10 (Qai hE10 rfl) rfl fun a11 hE11=>?_
  have hlr12:=hS3.lenrow (k:=0) rfl
  obtain⟨g12,ce12,Fo12,G12,hA12,hn12,hF12⟩:=SH.focus (L:=[]) hS3 (i:=i1) (by omega)
  obtain⟨v12_3,F12_3,v12_4,F12_4,rfl,rfl,hg12_0,hg12_1,hg12_2,ho12_3,ho12_4,hg12_5,hg12_6,_⟩:=Ydz (show Dat.own w3 ce12 (nth y1_m0 i1) G12 from hF12.get (k:=0) rfl)
  obtain⟨A12_3,cp12_3,rfl,hx12_3⟩:=ho12_3.form
  obtain⟨A12_4,cp12_4,rfl,hx12_4⟩:=ho12_4.form
  have hS13:=hF12.split [Ck.own (α:=List Step) [.slice A12_3 ((nth y1_m0 i1).Steps.length) cp12_3] ((nth y1_m0 i1).Steps) F12_3,Ck.own (α:=List Answer) [.slice A12_4 ((nth y1_m0 i1).Answers.length) cp12_4] ((nth y1_m0 i1).Answers) F12_4] (by simp only[Ck.own,flatMap_cons,flatMap_nil,append_nil,append_assoc]) (Qi2 (Q7z ho12_3) (Qi2 (Q7z ho12_4) Q7y))
  simp only[List.cons_append,nil_append] at hS13
  refine Qaa hE11 (Qax (A:=⟨g12,0,none⟩) hE11 (congrArg (fun A=>some (Value.slice A p0.length cap0)) hA12) rfl (by omega) (by omega) sl41) rfl fun a14 hE14=>Qaa hE14 (Qau hE14 rfl Yrn rfl) rfl fun a15 hE15=>Qb2 (α:=Entry) (k:=2) hE15 hS13 [.int .i64 s1_1,.int .i64 ((nth y1_m0 i1).Kind),.int .i64 ((nth y1_m0 i1).Tx),.slice A12_3 ((nth y1_m0 i1).Steps.length) cp12_3,.slice A12_4 ((nth y1_m0 i1).Answers.length) cp12_4,.int .i64 ((nth y1_m0 i1).Began),.int .i64 ((nth y1_m0 i1).Ended),.bool ((nth y1_m0 i1).Laid)] rfl rfl rfl (by rw[Int.toNat_natCast];rfl) rfl (Qbf one3) rfl rfl rfl rfl fun w16 (hS16:SH (Off [Ck.own (α:=List Entry) [.slice A0 p0.length cap0] p0 F0] w) w w16 [Ck.own (α:=List Step) [.slice A12_3 ((nth y1_m0 i1).Steps.length) cp12_3] ((nth y1_m0 i1).Steps) F12_3,Ck.own (α:=List Answer) [.slice A12_4 ((nth y1_m0 i1).Answers.length) cp12_4] ((nth y1_m0 i1).Answers) F12_4,Ck.elem (α:=Entry) g12 i1 cap0 [.int .i64 s1_1,.int .i64 ((nth y1_m0 i1).Kind),.int .i64 ((nth y1_m0 i1).Tx),.slice A12_3 ((nth y1_m0 i1).Steps.length) cp12_3,.slice A12_4 ((nth y1_m0 i1).Answers.length) cp12_4,.int .i64 ((nth y1_m0 i1).Began),.int .i64 ((nth y1_m0 i1).Ended),.bool ((nth y1_m0 i1).Laid)] y1_m0 Fo12]) a17 hE17=>wpList_nil ?_
  refine Qab ?_
  refine wp_seq (wp_region_lit ?_)
  refine Qaa hE17 (Qai hE17 rfl) rfl fun a18 hE18=>Qaa hE18 (Qg7 hE18 rfl rfl) rfl fun a19 hE19=>Qaa hE19 (Qan hE19 rfl) rfl fun a20 hE20=>wpList_nil ?_
  refine Qab ?_
  refine wp_seq (wp_region_lit ?_)
  refine Qaa hE20 (Qai hE20 rfl) rfl fun a21 hE21=>Qaa hE21 (Qai hE21 rfl) rfl fun a22 hE22=>Qaa hE22 (Qai hE22 rfl) rfl fun a23 hE23=>?_
  refine Qaa hE23 (Qax (A:=⟨g12,0,none⟩) hE23 (congrArg (fun A=>some (Value.slice A p0.length cap0)) hA12) rfl (by omega) (by omega) sl41) rfl fun a24 hE24=>Qaa hE24 (Qau hE24 rfl Yrm rfl) rfl fun a25 hE25=>Qb2 (α:=Entry) (k:=2) hE25 hS16 [.int .i64 s1_1,.int .i64 (i64.wrap (s1_1+1)),.int .i64 ((nth y1_m0 i1).Tx),.slice A12_3 ((nth y1_m0 i1).Steps.length) cp12_3,.slice A12_4 ((nth y1_m0 i1).Answers.length) cp12_4,.int .i64 ((nth y1_m0 i1).Began),.int .i64 ((nth y1_m0 i1).Ended),.bool ((nth y1_m0 i1).Laid)] rfl rfl rfl (by rw[Int.toNat_natCast];rfl) rfl (Qbf one3) rfl rfl rfl rfl fun w26 (hS26:SH (Off [Ck.own (α:=List Entry) [.slice A0 p0.length cap0] p0 F0] w) w w26 [Ck.own (α:=List Step) [.slice A12_3 ((nth y1_m0 i1).Steps.length) cp12_3] ((nth y1_m0 i1).Steps) F12_3,Ck.own (α:=List Answer) [.slice A12_4 ((nth y1_m0 i1).Answers.length) cp12_4] ((nth y1_m0 i1).Answers) F12_4,Ck.elem (α:=Entry) g12 i1 cap0 [.int .i64 s1_1,.int .i64 (i64.wrap (s1_1+1)),.int .i64 ((nth y1_m0 i1).Tx),.slice A12_3 ((nth y1_m0 i1).Steps.length) cp12_3,.slice A12_4 ((nth y1_m0 i1).Answers.length) cp12_4,.int .i64 ((nth y1_m0 i1).Began),.int .i64 ((nth y1_m0 i1).Ended),.bool ((nth y1_m0 i1).Laid)] y1_m0 Fo12]) a27 hE27=>wpList_nil ?_
  refine Qab ?_
  refine wp_seq (wp_region_lit ?_)
  refine Qaa hE27 (Qai hE27 rfl) rfl fun a28 hE28=>Qaa hE28 (Qg7 hE28 rfl rfl) rfl fun a29 hE29=>Qaa hE29 (Qan hE29 rfl) rfl fun a30 hE30=>wpList_nil ?_
  refine Qab ?_
  refine wp_seq (wp_region_lit ?_)
  refine Qaa hE30 (Qai hE30 rfl) rfl fun a31 hE31=>Qaa hE31 (Qai hE31 rfl) rfl fun a32 hE32=>Qaa hE32 (Qai hE32 rfl) rfl fun a33 hE33=>?_
  refine Qaa hE33 (Qax (A:=⟨g12,0,none⟩) hE33 (congrArg (fun A=>some (Value.slice A p0.length cap0)) hA12) rfl (by omega) (by omega) sl41) rfl fun a34 hE34=>Qaa hE34 (Qau hE34 rfl Yrl rfl) rfl fun a35 hE35=>Qb2 (α:=Entry) (k:=2) hE35 hS26 [.int .i64 s1_1,.int .i64 (i64.wrap (s1_1+1)),.int .i64 (i64.wrap (i64.wrap (s1_1+1)+1)),.slice A12_3 ((nth y1_m0 i1).Steps.length) cp12_3,.slice A12_4 ((nth y1_m0 i1).Answers.length) cp12_4,.int .i64 ((nth y1_m0 i1).Began),.int .i64 ((nth y1_m0 i1).Ended),.bool ((nth y1_m0 i1).Laid)] rfl rfl rfl (by rw[Int.toNat_natCast];rfl) rfl (Qbf one3) rfl rfl rfl rfl fun w36 (hS36:SH (Off [Ck.own (α:=List Entry) [.slice A0 p0.length cap0] p0 F0] w) w w36 [Ck.own (α:=List Step) [.slice A12_3 ((nth y1_m0 i1).Steps.length) cp12_3] ((nth y1_m0 i1).Steps) F12_3,Ck.own (α:=List Answer) [.slice A12_4 ((nth y1_m0 i1).Answers.length) cp12_4] ((nth y1_m0 i1).Answers) F12_4,Ck.elem (α:=Entry) g12 i1 cap0 [.int .i64 s1_1,.int .i64 (i64.wrap (s1_1+1)),.int .i64 (i64.wrap (i64.wrap (s1_1+1)+1)),.slice A12_3 ((nth y1_m0 i1).Steps.length) cp12_3,.slice A12_4 ((nth y1_m0 i1).Answers.length) cp12_4,.int .i64 ((nth y1_m0 i1).Began),.int .i64 ((nth y1_m0 i1).Ended),.bool ((nth y1_m0 i1).Laid)] y1_m0 Fo12]) a37 hE37=>wpList_nil ?_
  refine Qab ?_
  refine wp_seq (wp_region_lit ?_)
  refine Qaa hE37 (Qai hE37 rfl) rfl fun a38 hE38=>Qaa hE38 (Qg7 hE38 rfl rfl) rfl fun a39 hE39=>Qaa hE39 (Qan hE39 rfl) rfl fun a40 hE40=>wpList_nil ?_
  refine Qab ?_
  refine wp_seq (wp_region_lit ?_)
  refine Qaa hE40 (Qai hE40 rfl) rfl fun a41 hE41=>Qaa hE41 (Qai hE41 rfl) rfl fun a42 hE42=>?_
  refine Qaa hE42 (Qax (A:=⟨g12,0,none⟩) hE42 (congrArg (fun A=>some (Value.slice A p0.length cap0)) hA12) rfl (by omega) (by omega) sl41) rfl fun a43 hE43=>Qaa hE43 (Qau hE43 rfl Yrk rfl) rfl fun a44 hE44=>Qaa hE44 (Qf8 hE44 rfl (hS36.elemCells (k:=2) (p:=(((i1:Int)).toNat*8)) rfl (by rw[Int.toNat_natCast];rfl)) rfl Ysv) rfl fun a45 hE45=>Qaa hE45 (Qai hE45 rfl) rfl fun a46 hE46=>?_
  have hP47:SH (Off [Ck.own (α:=List Entry) [.slice A0 p0.length cap0] p0 F0] w) w w36 (Ck.own (α:=List Step) [.slice A12_3 ((nth y1_m0 i1).Steps.length) cp12_3] ((nth y1_m0 i1).Steps) F12_3::[Ck.own (α:=List Answer) [.slice A12_4 ((nth y1_m0 i1).Answers.length) cp12_4] ((nth y1_m0 i1).Answers) F12_4,Ck.elem (α:=Entry) g12 i1 cap0 [.int .i64 s1_1,.int .i64 (i64.wrap (s1_1+1)),.int .i64 (i64.wrap (i64.wrap (s1_1+1)+1)),.slice A12_3 ((nth y1_m0 i1).Steps.length) cp12_3,.slice A12_4 ((nth y1_m0 i1).Answers.length) cp12_4,.int .i64 ((nth y1_m0 i1).Began),.int .i64 ((nth y1_m0 i1).Ended),.bool ((nth y1_m0 i1).Laid)] y1_m0 Fo12]):=hS36
  refine Qkq (c:=Ck.own (α:=List Step) [.slice A12_3 ((nth y1_m0 i1).Steps.length) cp12_3] ((nth y1_m0 i1).Steps) F12_3) (c':=fun F47=>Ck.own (α:=List Step) [.slice A12_3 ((nth y1_m0 i1).Steps.length) cp12_3] ((Qah ((nth y1_m0 i1).Steps) (i64.wrap (i64.wrap (i64.wrap (s1_1+1)+1)+1))).1) F47) (R:=I64 (Qah ((nth y1_m0 i1).Steps) (i64.wrap (i64.wrap (i64.wrap (s1_1+1)+1)+1))).2) hE46 hP47 Tryz.func64 fb64 fn64 (Qyg ((nth y1_m0 i1).Steps) (i64.wrap (i64.wrap (i64.wrap (s1_1+1)+1)+1)) (SH.off (M:=[Ck.own (α:=List Step) [.slice A12_3 ((nth y1_m0 i1).Steps.length) cp12_3] ((nth y1_m0 i1).Steps) F12_3]) (R:=[Ck.own (α:=List Answer) [.slice A12_4 ((nth y1_m0 i1).Answers.length) cp12_4] ((nth y1_m0 i1).Answers) F12_4,Ck.elem (α:=Entry) g12 i1 cap0 [.int .i64 s1_1,.int .i64 (i64.wrap (s1_1+1)),.int .i64 (i64.wrap (i64.wrap (s1_1+1)+1)),.slice A12_3 ((nth y1_m0 i1).Steps.length) cp12_3,.slice A12_4 ((nth y1_m0 i1).Answers.length) cp12_4,.int .i64 ((nth y1_m0 i1).Began),.int .i64 ((nth y1_m0 i1).Ended),.bool ((nth y1_m0 i1).Laid)] y1_m0 Fo12]) hP47) (Qbb _)) rfl rfl fun F47 w47 hR47 hS47 a48 hE48=>Qaa hE48 (Qan hE48 rfl) rfl fun a49 hE49=>wpList_nil ?_
  refine Qab ?_
  refine wp_seq (wp_region_lit ?_)
  refine Qaa hE49 (Qai hE49 rfl) rfl fun a50 hE50=>Qaa hE50 (Qai hE50 rfl) rfl fun a51 hE51=>?_
  refine Qaa hE51 (Qax (A:=⟨g12,0,none⟩) hE51 (congrArg (fun A=>some (Value.slice A p0.length cap0)) hA12) rfl (by omega) (by omega) sl41) rfl fun a52 hE52=>Qaa hE52 (Qau hE52 rfl Yrj rfl) rfl fun a53 hE53=>Qaa hE53 (Qf8 hE53 rfl (hS47.elemCells (k:=2) (p:=(((i1:Int)).toNat*8)) rfl (by rw[Int.toNat_natCast];rfl)) rfl Yo9) rfl fun a54 hE54=>Qaa hE54 (Qai hE54 rfl) rfl fun a55 hE55=>?_
  have hP56:SH (Off [Ck.own (α:=List Entry) [.slice A0 p0.length cap0] p0 F0] w) w w47 (Ck.own (α:=List Answer) [.slice A12_4 ((nth y1_m0 i1).Answers.length) cp12_4] ((nth y1_m0 i1).Answers) F12_4::[Ck.own (α:=List Step) [.slice A12_3 ((nth y1_m0 i1).Steps.length) cp12_3] ((Qah ((nth y1_m0 i1).Steps) (i64.wrap (i64.wrap (i64.wrap (s1_1+1)+1)+1))).1) F47,Ck.elem (α:=Entry) g12 i1 cap0 [.int .i64 s1_1,.int .i64 (i64.wrap (s1_1+1)),.int .i64 (i64.wrap (i64.wrap (s1_1+1)+1)),.slice A12_3 ((nth y1_m0 i1).Steps.length) cp12_3,.slice A12_4 ((nth y1_m0 i1).Answers.length) cp12_4,.int .i64 ((nth y1_m0 i1).Began),.int .i64 ((nth y1_m0 i1).Ended),.bool ((nth y1_m0 i1).Laid)] y1_m0 Fo12]):=(hS47.pick [1,0,2] (by decide) rfl)
  refine Qkq (c:=Ck.own (α:=List Answer) [.slice A12_4 ((nth y1_m0 i1).Answers.length) cp12_4] ((nth y1_m0 i1).Answers) F12_4) (c':=fun F56=>Ck.own (α:=List Answer) [.slice A12_4 ((nth y1_m0 i1).Answers.length) cp12_4] ((Qac ((nth y1_m0 i1).Answers) ((Qah ((nth y1_m0 i1).Steps) (i64.wrap (i64.wrap (i64.wrap (s1_1+1)+1)+1))).2)).1) F56) (R:=I64 (Qac ((nth y1_m0 i1).Answers) ((Qah ((nth y1_m0 i1).Steps) (i64.wrap (i64.wrap (i64.wrap (s1_1+1)+1)+1))).2)).2) hE55 hP56 Tryz.func65 fb65 fn65 (Qkx ((nth y1_m0 i1).Answers) ((Qah ((nth y1_m0 i1).Steps) (i64.wrap (i64.wrap (i64.wrap (s1_1+1)+1)+1))).2) (SH.off (M:=[Ck.own (α:=List Answer) [.slice A12_4 ((nth y1_m0 i1).Answers.length) cp12_4] ((nth y1_m0 i1).Answers) F12_4]) (R:=[Ck.own (α:=List Step) [.slice A12_3 ((nth y1_m0 i1).Steps.length) cp12_3] ((Qah ((nth y1_m0 i1).Steps) (i64.wrap (i64.wrap (i64.wrap (s1_1+1)+1)+1))).1) F47,Ck.elem (α:=Entry) g12 i1 cap0 [.int .i64 s1_1,.int .i64 (i64.wrap (s1_1+1)),.int .i64 (i64.wrap (i64.wrap (s1_1+1)+1)),.slice A12_3 ((nth y1_m0 i1).Steps.length) cp12_3,.slice A12_4 ((nth y1_m0 i1).Answers.length) cp12_4,.int .i64 ((nth y1_m0 i1).Began),.int .i64 ((nth y1_m0 i1).Ended),.bool ((nth y1_m0 i1).Laid)] y1_m0 Fo12]) hP56) hR47) rfl rfl fun F56 w56 hR56 hS56 a57 hE57=>Qaa hE57 (Qan hE57 rfl) rfl fun a58 hE58=>wpList_nil ?_
  refine Qab ?_
  refine wp_seq (wp_region_lit ?_)
  refine Qaa hE58 (Qai hE58 rfl) rfl fun a59 hE59=>Qaa hE59 (Qai hE59 rfl) rfl fun a60 hE60=>Qaa hE60 (Qai hE60 rfl) rfl fun a61 hE61=>?_
  refine Qaa hE61 (Qax (A:=⟨g12,0,none⟩) hE61 (congrArg (fun A=>some (Value.slice A p0.length cap0)) hA12) rfl (by omega) (by omega) sl41) rfl fun a62 hE62=>Qaa hE62 (Qau hE62 rfl Yri rfl) rfl fun a63 hE63=>Qb2 (α:=Entry) (k:=2) hE63 hS56 [.int .i64 s1_1,.int .i64 (i64.wrap (s1_1+1)),.int .i64 (i64.wrap (i64.wrap (s1_1+1)+1)),.slice A12_3 ((nth y1_m0 i1).Steps.length) cp12_3,.slice A12_4 ((nth y1_m0 i1).Answers.length) cp12_4,.int .i64 ((Qac ((nth y1_m0 i1).Answers) ((Qah ((nth y1_m0 i1).Steps) (i64.wrap (i64.wrap (i64.wrap (s1_1+1)+1)+1))).2)).2),.int .i64 ((nth y1_m0 i1).Ended),.bool ((nth y1_m0 i1).Laid)] rfl rfl rfl (by rw[Int.toNat_natCast];rfl) rfl (Qbf one3) rfl rfl rfl rfl fun w64 (hS64:SH (Off [Ck.own (α:=List Entry) [.slice A0 p0.length cap0] p0 F0] w) w w64 [Ck.own (α:=List Answer) [.slice A12_4 ((nth y1_m0 i1).Answers.length) cp12_4] ((Qac ((nth y1_m0 i1).Answers) ((Qah ((nth y1_m0 i1).Steps) (i64.wrap (i64.wrap (i64.wrap (s1_1+1)+1)+1))).2)).1) F56,Ck.own (α:=List Step) [.slice A12_3 ((nth y1_m0 i1).Steps.length) cp12_3] ((Qah ((nth y1_m0 i1).Steps) (i64.wrap (i64.wrap (i64.wrap (s1_1+1)+1)+1))).1) F47,Ck.elem (α:=Entry) g12 i1 cap0 [.int .i64 s1_1,.int .i64 (i64.wrap (s1_1+1)),.int .i64 (i64.wrap (i64.wrap (s1_1+1)+1)),.slice A12_3 ((nth y1_m0 i1).Steps.length) cp12_3,.slice A12_4 ((nth y1_m0 i1).Answers.length) cp12_4,.int .i64 ((Qac ((nth y1_m0 i1).Answers) ((Qah ((nth y1_m0 i1).Steps) (i64.wrap (i64.wrap (i64.wrap (s1_1+1)+1)+1))).2)).2),.int .i64 ((nth y1_m0 i1).Ended),.bool ((nth y1_m0 i1).Laid)] y1_m0 Fo12]) a65 hE65=>wpList_nil ?_
  refine Qab ?_
  refine wp_seq (wp_region_lit ?_)
  refine Qaa hE65 (Qai hE65 rfl) rfl fun a66 hE66=>Qaa hE66 (Qg7 hE66 rfl rfl) rfl fun a67 hE67=>Qaa hE67 (Qan hE67 rfl) rfl fun a68 hE68=>wpList_nil ?_
  refine Qab ?_
  refine wp_seq (wp_region_lit ?_)
  refine Qaa hE68 (Qai hE68 rfl) rfl fun a69 hE69=>Qaa hE69 (Qai hE69 rfl) rfl fun a70 hE70=>Qaa hE70 (Qai hE70 rfl) rfl fun a71 hE71=>?_
  refine Qaa hE71 (Qax (A:=⟨g12,0,none⟩) hE71 (congrArg (fun A=>some (Value.slice A p0.length cap0)) hA12) rfl (by omega) (by omega) sl41) rfl fun a72 hE72=>Qaa hE72 (Qau hE72 rfl Yrh rfl) rfl fun a73 hE73=>Qb2 (α:=Entry) (k:=2) hE73 hS64 [.int .i64 s1_1,.int .i64 (i64.wrap (s1_1+1)),.int .i64 (i64.wrap (i64.wrap (s1_1+1)+1)),.slice A12_3 ((nth y1_m0 i1).Steps.length) cp12_3,.slice A12_4 ((nth y1_m0 i1).Answers.length) cp12_4,.int .i64 ((Qac ((nth y1_m0 i1).Answers) ((Qah ((nth y1_m0 i1).Steps) (i64.wrap (i64.wrap (i64.wrap (s1_1+1)+1)+1))).2)).2),.int .i64 (i64.wrap ((Qac ((nth y1_m0 i1).Answers) ((Qah ((nth y1_m0 i1).Steps) (i64.wrap (i64.wrap (i64.wrap (s1_1+1)+1)+1))).2)).2+1)),.bool ((nth y1_m0 i1).Laid)] rfl rfl rfl (by rw[Int.toNat_natCast];rfl) rfl (Qbf one3) rfl rfl rfl rfl fun w74 (hS74:SH (Off [Ck.own (α:=List Entry) [.slice A0 p0.length cap0] p0 F0] w) w w74 [Ck.own (α:=List Answer) [.slice A12_4 ((nth y1_m0 i1).Answers.length) cp12_4] ((Qac ((nth y1_m0 i1).Answers) ((Qah ((nth y1_m0 i1).Steps) (i64.wrap (i64.wrap (i64.wrap (s1_1+1)+1)+1))).2)).1) F56,Ck.own (α:=List Step) [.slice A12_3 ((nth y1_m0 i1).Steps.length) cp12_3] ((Qah ((nth y1_m0 i1).Steps) (i64.wrap (i64.wrap (i64.wrap (s1_1+1)+1)+1))).1) F47,Ck.elem (α:=Entry) g12 i1 cap0 [.int .i64 s1_1,.int .i64 (i64.wrap (s1_1+1)),.int .i64 (i64.wrap (i64.wrap (s1_1+1)+1)),.slice A12_3 ((nth y1_m0 i1).Steps.length) cp12_3,.slice A12_4 ((nth y1_m0 i1).Answers.length) cp12_4,.int .i64 ((Qac ((nth y1_m0 i1).Answers) ((Qah ((nth y1_m0 i1).Steps) (i64.wrap (i64.wrap (i64.wrap (s1_1+1)+1)+1))).2)).2),.int .i64 (i64.wrap ((Qac ((nth y1_m0 i1).Answers) ((Qah ((nth y1_m0 i1).Steps) (i64.wrap (i64.wrap (i64.wrap (s1_1+1)+1)+1))).2)).2+1)),.bool ((nth y1_m0 i1).Laid)] y1_m0 Fo12]) a75 hE75=>wpList_nil ?_
  refine Qab ?_
  refine wp_seq (wp_region_lit ?_)
  refine Qaa hE75 (Qai hE75 rfl) rfl fun a76 hE76=>Qaa hE76 (Qg7 hE76 rfl rfl) rfl fun a77 hE77=>Qaa hE77 (Qan hE77 rfl) rfl fun a78 hE78=>wpList_nil ?_
  refine Qab ?_
  refine wp_seq (wp_region_lit ?_)
  refine Qaa hE78 (Qai hE78 rfl) rfl fun a79 hE79=>Qaa hE79 (Qai hE79 rfl) rfl fun a80 hE80=>Qaa hE80 (Qai hE80 rfl) rfl fun a81 hE81=>Qaa hE81 (Ycx hE81 rfl rfl (by decide)) rfl fun a82 hE82=>Qaa hE82 (Yik hE82 rfl rfl) rfl fun a83 hE83=>?_
  refine Qaa hE83 (Qax (A:=⟨g12,0,none⟩) hE83 (congrArg (fun A=>some (Value.slice A p0.length cap0)) hA12) rfl (by omega) (by omega) sl41) rfl fun a84 hE84=>Qaa hE84 (Qau hE84 rfl Yrg rfl) rfl fun a85 hE85=>Qb2 (α:=Entry) (k:=2) hE85 hS74 [.int .i64 s1_1,.int .i64 (i64.wrap (s1_1+1)),.int .i64 (i64.wrap (i64.wrap (s1_1+1)+1)),.slice A12_3 ((nth y1_m0 i1).Steps.length) cp12_3,.slice A12_4 ((nth y1_m0 i1).Answers.length) cp12_4,.int .i64 ((Qac ((nth y1_m0 i1).Answers) ((Qah ((nth y1_m0 i1).Steps) (i64.wrap (i64.wrap (i64.wrap (s1_1+1)+1)+1))).2)).2),.int .i64 (i64.wrap ((Qac ((nth y1_m0 i1).Answers) ((Qah ((nth y1_m0 i1).Steps) (i64.wrap (i64.wrap (i64.wrap (s1_1+1)+1)+1))).2)).2+1)),.bool (decide (Int.tmod (i64.wrap (i64.wrap ((Qac ((nth y1_m0 i1).Answers) ((Qah ((nth y1_m0 i1).Steps) (i64.wrap (i64.wrap (i64.wrap (s1_1+1)+1)+1))).2)).2+1)+1)) 3=0))] rfl rfl rfl (by rw[Int.toNat_natCast];rfl) rfl (Qbf one4) rfl rfl rfl rfl fun w86 (hS86:SH (Off [Ck.own (α:=List Entry) [.slice A0 p0.length cap0] p0 F0] w) w w86 [Ck.own (α:=List Answer) [.slice A12_4 ((nth y1_m0 i1).Answers.length) cp12_4] ((Qac ((nth y1_m0 i1).Answers) ((Qah ((nth y1_m0 i1).Steps) (i64.wrap (i64.wrap (i64.wrap (s1_1+1)+1)+1))).2)).1) F56,Ck.own (α:=List Step) [.slice A12_3 ((nth y1_m0 i1).Steps.length) cp12_3] ((Qah ((nth y1_m0 i1).Steps) (i64.wrap (i64.wrap (i64.wrap (s1_1+1)+1)+1))).1) F47,Ck.elem (α:=Entry) g12 i1 cap0 [.int .i64 s1_1,.int .i64 (i64.wrap (s1_1+1)),.int .i64 (i64.wrap (i64.wrap (s1_1+1)+1)),.slice A12_3 ((nth y1_m0 i1).Steps.length) cp12_3,.slice A12_4 ((nth y1_m0 i1).Answers.length) cp12_4,.int .i64 ((Qac ((nth y1_m0 i1).Answers) ((Qah ((nth y1_m0 i1).Steps) (i64.wrap (i64.wrap (i64.wrap (s1_1+1)+1)+1))).2)).2),.int .i64 (i64.wrap ((Qac ((nth y1_m0 i1).Answers) ((Qah ((nth y1_m0 i1).Steps) (i64.wrap (i64.wrap (i64.wrap (s1_1+1)+1)+1))).2)).2+1)),.bool (decide (Int.tmod (i64.wrap (i64.wrap ((Qac ((nth y1_m0 i1).Answers) ((Qah ((nth y1_m0 i1).Steps) (i64.wrap (i64.wrap (i64.wrap (s1_1+1)+1)+1))).2)).2+1)+1)) 3=0))] y1_m0 Fo12]) a87 hE87=>wpList_nil ?_
  refine Qab ?_
  refine wp_region_lit ?_
  refine Qaa hE87 (Qai hE87 rfl) rfl fun a88 hE88=>Qaa hE88 (Qg7 hE88 rfl rfl) rfl fun a89 hE89=>Qaa hE89 (Qan hE89 rfl) rfl fun a90 hE90=>wpList_nil ?_
  refine Qf0 ?_
  refine Qab ?_
  refine wp_region_lit ?_
  refine Qaa hE90 (Qai hE90 rfl) rfl fun a91 hE91=>Qaa hE91 (Qhw hE91 rfl rfl (m:=((i1+1:Nat):Int)) (by omega) (by omega) (by omega)) rfl fun a92 hE92=>Qaa hE92 (Qan hE92 rfl) rfl fun a93 hE93=>wpList_nil ?_
  have hJ94:=SH.joinP (L:=[Ck.elem (α:=Entry) g12 i1 cap0 [.int .i64 s1_1,.int .i64 (i64.wrap (s1_1+1)),.int .i64 (i64.wrap (i64.wrap (s1_1+1)+1)),.slice A12_3 ((nth y1_m0 i1).Steps.length) cp12_3,.slice A12_4 ((nth y1_m0 i1).Answers.length) cp12_4,.int .i64 ((Qac ((nth y1_m0 i1).Answers) ((Qah ((nth y1_m0 i1).Steps) (i64.wrap (i64.wrap (i64.wrap (s1_1+1)+1)+1))).2)).2),.int .i64 (i64.wrap ((Qac ((nth y1_m0 i1).Answers) ((Qah ((nth y1_m0 i1).Steps) (i64.wrap (i64.wrap (i64.wrap (s1_1+1)+1)+1))).2)).2+1)),.bool (decide (Int.tmod (i64.wrap (i64.wrap ((Qac ((nth y1_m0 i1).Answers) ((Qah ((nth y1_m0 i1).Steps) (i64.wrap (i64.wrap (i64.wrap (s1_1+1)+1)+1))).2)).2+1)+1)) 3=0))] y1_m0 Fo12]) (M:=[Ck.own (α:=List Step) [.slice A12_3 ((nth y1_m0 i1).Steps.length) cp12_3] ((Qah ((nth y1_m0 i1).Steps) (i64.wrap (i64.wrap (i64.wrap (s1_1+1)+1)+1))).1) F47,Ck.own (α:=List Answer) [.slice A12_4 ((nth y1_m0 i1).Answers.length) cp12_4] ((Qac ((nth y1_m0 i1).Answers) ((Qah ((nth y1_m0 i1).Steps) (i64.wrap (i64.wrap (i64.wrap (s1_1+1)+1)+1))).2)).1) F56]) (c:=Ck.own (α:=Entry) [.int .i64 s1_1,.int .i64 (i64.wrap (s1_1+1)),.int .i64 (i64.wrap (i64.wrap (s1_1+1)+1)),.slice A12_3 ((nth y1_m0 i1).Steps.length) cp12_3,.slice A12_4 ((nth y1_m0 i1).Answers.length) cp12_4,.int .i64 ((Qac ((nth y1_m0 i1).Answers) ((Qah ((nth y1_m0 i1).Steps) (i64.wrap (i64.wrap (i64.wrap (s1_1+1)+1)+1))).2)).2),.int .i64 (i64.wrap ((Qac ((nth y1_m0 i1).Answers) ((Qah ((nth y1_m0 i1).Steps) (i64.wrap (i64.wrap (i64.wrap (s1_1+1)+1)+1))).2)).2+1)),.bool (decide (Int.tmod (i64.wrap (i64.wrap ((Qac ((nth y1_m0 i1).Answers) ((Qah ((nth y1_m0 i1).Steps) (i64.wrap (i64.wrap (i64.wrap (s1_1+1)+1)+1))).2)).2+1)+1)) 3=0))] (Entry.mk s1_1 (i64.wrap (s1_1+1)) (i64.wrap (i64.wrap (s1_1+1)+1)) ((Qah ((nth y1_m0 i1).Steps) (i64.wrap (i64.wrap (i64.wrap (s1_1+1)+1)+1))).1) ((Qac ((nth y1_m0 i1).Answers) ((Qah ((nth y1_m0 i1).Steps) (i64.wrap (i64.wrap (i64.wrap (s1_1+1)+1)+1))).2)).1) ((Qac ((nth y1_m0 i1).Answers) ((Qah ((nth y1_m0 i1).Steps) (i64.wrap (i64.wrap (i64.wrap (s1_1+1)+1)+1))).2)).2) (i64.wrap ((Qac ((nth y1_m0 i1).Answers) ((Qah ((nth y1_m0 i1).Steps) (i64.wrap (i64.wrap (i64.wrap (s1_1+1)+1)+1))).2)).2+1)) (decide (Int.tmod (i64.wrap (i64.wrap ((Qac ((nth y1_m0 i1).Answers) ((Qah ((nth y1_m0 i1).Steps) (i64.wrap (i64.wrap (i64.wrap (s1_1+1)+1)+1))).2)).2+1)+1)) 3=0))) (F47++(F56++[]))) (hS86.pick [1,0,2] (by decide) rfl) (List.Perm.of_eq (by simp only[Ck.own,flatMap_cons,flatMap_nil,append_nil,append_assoc])) (Yk0 (Yke (x:=(Entry.mk s1_1 (i64.wrap (s1_1+1)) (i64.wrap (i64.wrap (s1_1+1)+1)) ((Qah ((nth y1_m0 i1).Steps) (i64.wrap (i64.wrap (i64.wrap (s1_1+1)+1)+1))).1) ((Qac ((nth y1_m0 i1).Answers) ((Qah ((nth y1_m0 i1).Steps) (i64.wrap (i64.wrap (i64.wrap (s1_1+1)+1)+1))).2)).1) ((Qac ((nth y1_m0 i1).Answers) ((Qah ((nth y1_m0 i1).Steps) (i64.wrap (i64.wrap (i64.wrap (s1_1+1)+1)+1))).2)).2) (i64.wrap ((Qac ((nth y1_m0 i1).Answers) ((Qah ((nth y1_m0 i1).Steps) (i64.wrap (i64.wrap (i64.wrap (s1_1+1)+1)+1))).2)).2+1)) (decide (Int.tmod (i64.wrap (i64.wrap ((Qac ((nth y1_m0 i1).Answers) ((Qah ((nth y1_m0 i1).Steps) (i64.wrap (i64.wrap (i64.wrap (s1_1+1)+1)+1))).2)).2+1)+1)) 3=0)))) hgis1_1 (Qbb _) (Qbb _) (hS86.slO (k:=1) rfl) (hS86.slO (k:=0) rfl) hR56 (Qbb _)))
  obtain⟨F94,hS94⟩:=SH.unfocus (α:=Entry) (L:=[]) hJ94 hA12 hn12 (by omega)
  refine Qab ⟨fu1,Nat.lt_succ_self _,(i1+1),i64.wrap (i64.wrap (i64.wrap ((Qac ((nth y1_m0 i1).Answers) ((Qah ((nth y1_m0 i1).Steps) (i64.wrap (i64.wrap (i64.wrap (s1_1+1)+1)+1))).2)).2+1)+1)+1),(y1_m0.set i1 (Entry.mk s1_1 (i64.wrap (s1_1+1)) (i64.wrap (i64.wrap (s1_1+1)+1)) ((Qah ((nth y1_m0 i1).Steps) (i64.wrap (i64.wrap (i64.wrap (s1_1+1)+1)+1))).1) ((Qac ((nth y1_m0 i1).Answers) ((Qah ((nth y1_m0 i1).Steps) (i64.wrap (i64.wrap (i64.wrap (s1_1+1)+1)+1))).2)).1) ((Qac ((nth y1_m0 i1).Answers) ((Qah ((nth y1_m0 i1).Steps) (i64.wrap (i64.wrap (i64.wrap (s1_1+1)+1)+1))).2)).2) (i64.wrap ((Qac ((nth y1_m0 i1).Answers) ((Qah ((nth y1_m0 i1).Steps) (i64.wrap (i64.wrap (i64.wrap (s1_1+1)+1)+1))).2)).2+1)) (decide (Int.tmod (i64.wrap (i64.wrap ((Qac ((nth y1_m0 i1).Answers) ((Qah ((nth y1_m0 i1).Steps) (i64.wrap (i64.wrap (i64.wrap (s1_1+1)+1)+1))).2)).2+1)+1)) 3=0)))),F94,by omega,by omega,.inl (by omega),(Qbb _),hM,hE93.weaken ⟨rfl,rfl,rfl,trivial⟩,hS94⟩
 ·
  have hge1: ¬ i1<p0.length:=by have:=of_decide_eq_false hb8;omega
  obtain rfl:fu1=0:=by omega
  have hM:=hM.trans (Qbo.eq_1 _ _ _ _ _)
  refine wp_exit ?_
  refine Qde ?_
  refine Qde ?_
  refine Qhx ?_
  refine Qab ?_
  refine wp_seq (wp_region_lit ?_)
  refine Qaa hE7 (Qai hE7 rfl) rfl fun a95 hE95=>Qaa hE95 (Qan hE95 rfl) rfl fun a96 hE96=>wpList_nil ?_
  refine Qab ?_
  refine wp_ret ?_
  refine fin1 hE96 rfl rfl ?_
  rw[hM]
  exact⟨rfl,hgis1_1,Fy1_m0,hS3⟩
end
section
theorem Qpb (p0:List ByteArray) (p1:Int) (h:I64 p1):CTU Tryz.prog 20 instDatByteArray p0 p1 (Qae p0 p1).1 (Qae p0 p1).2:=fun v0 F0 w hs=>Qin p0 p1 hs h
theorem Qxu (p0:List Cell) (p1:Int) (h:I64 p1):CTU Tryz.prog 54 instDatCell p0 p1 (Qas p0 p1).1 (Qas p0 p1).2:=fun v0 F0 w hs=>Qml p0 p1 hs h
theorem Q0s (p0:List Tx) (p1:Int) (h:I64 p1):CTU Tryz.prog 55 instDatTx p0 p1 (Qdc p0 p1).1 (Qdc p0 p1).2:=fun v0 F0 w hs=>Q1m p0 p1 hs h
theorem Qxt (p0:List Slot) (p1:Int) (h:I64 p1):CTU Tryz.prog 115 instDatSlot p0 p1 (Qdo p0 p1).1 (Qdo p0 p1).2:=fun v0 F0 w hs=>Qyh p0 p1 hs h
theorem Qlb (p0:List Entry) (p1:Int) (h:I64 p1):CTU Tryz.prog 25 instDatEntry p0 p1 (Qa5 p0 p1).1 (Qa5 p0 p1).2:=fun v0 F0 w hs=>Qrw p0 p1 hs h
end
section
theorem Yt7:FnOk Tryz.prog 20:=⟨_,Tryz.func20,rfl,by kernel_rfl⟩
theorem Ypu:FnOk Tryz.prog 25:=⟨_,Tryz.func25,rfl,by kernel_rfl⟩
theorem Ytt:FnOk Tryz.prog 54:=⟨_,Tryz.func54,rfl,by kernel_rfl⟩
theorem Yts:FnOk Tryz.prog 55:=⟨_,Tryz.func55,rfl,by kernel_rfl⟩
theorem Ytr:FnOk Tryz.prog 56:=⟨_,Tryz.func56,rfl,by kernel_rfl⟩
theorem Yq8:FnOk Tryz.prog 115:=⟨_,Tryz.func115,rfl,by kernel_rfl⟩
def Qgz (p0:Disk) (p1:Int):Int:=(Qdo p0.Slots p1).2
theorem Q0b (p0:Disk) (p1:Int) (hi:I64 p1):CTMs 56 0 1 [(0,.own Slot instDatSlot p0.Slots)] [] [.ag [.sl 0 p0.Slots.length,.v (.string p0.Journal.Text),.v (.int .i64 p0.Journal.Sure)],.v (.int .i64 p1)] [] 0 [.v (.int .i64 (Qgz p0 p1))] (I64 (Qgz p0 p1)):=by
 refine enM Tryz.func56 Tryz.ntmps56 fun S w p hG hb hg=>?_
 refine Run.cg (σ':=⟨10,1,[(0,.ag [.sl 0 p0.Slots.length,.v (.string p0.Journal.Text),.v (.int .i64 p0.Journal.Sure)]),(1,.v (.int .i64 p1))],[(0,.own Slot instDatSlot p0.Slots)]⟩) rfl ?_
 refine gd 0 fun hg_p0_Slots=>?_
 have hl_p0_Slots:p0.Slots.length≤9223372036854775807:=hg_p0_Slots.1
 have hM:=Qgz.eq_1 p0 p1
 refine ad 10 ?_
 refine og (mu (Qxt p0.Slots p1 lv3) Yq8) fun hgq=>?_
 obtain⟨hg1,hg2⟩:=hgq
 refine ad 7 ?_
 exact rzM (rs:=[.tmp 4]) [] [] (hg1:=hg1) (hG1:=congrArg (fun x=>(I64 x:Prop)) hM) (congrArg (fun x=>([]:List (Nat×En))) hM) (congrArg (fun x=>([.v (.int .i64 x)]:List V)) hM)
def Qfi (p0:Kernel) (p1:Int):Int:=(Qae p0.Seen ((Qa5 p0.History (Qgz p0.Disk ((Qdc p0.Txs ((Qas p0.Store p1).2)).2))).2)).2
theorem Qrv (p0:Kernel) (p1:Int) (hi:I64 p1):CTMs 19 0 5 [(0,.own Cell instDatCell p0.Store),(1,.own Tx instDatTx p0.Txs),(2,.own Slot instDatSlot p0.Disk.Slots),(3,.own Entry instDatEntry p0.History),(4,.own ByteArray instDatByteArray p0.Seen)] [] [.ag [.sl 0 p0.Store.length,.sl 1 p0.Txs.length,.sl 2 p0.Disk.Slots.length,.v (.string p0.Disk.Journal.Text),.v (.int .i64 p0.Disk.Journal.Sure),.v (.int .i64 p0.Seq),.v (.int .i64 p0.Next),.v (.int .i64 p0.Time),.sl 3 p0.History.length,.sl 4 p0.Seen.length,.v (.bool p0.Room)],.v (.int .i64 p1)] [] 0 [.v (.int .i64 (Qfi p0 p1))] (I64 (Qfi p0 p1)):=by
 refine enM Tryz.func19 Tryz.ntmps19 fun S w p hG hb hg=>?_
 refine Run.cg (σ':=⟨26,5,[(0,.ag [.sl 0 p0.Store.length,.sl 1 p0.Txs.length,.sl 2 p0.Disk.Slots.length,.v (.string p0.Disk.Journal.Text),.v (.int .i64 p0.Disk.Journal.Sure),.v (.int .i64 p0.Seq),.v (.int .i64 p0.Next),.v (.int .i64 p0.Time),.sl 3 p0.History.length,.sl 4 p0.Seen.length,.v (.bool p0.Room)]),(1,.v (.int .i64 p1))],[(0,.own Cell instDatCell p0.Store),(1,.own Tx instDatTx p0.Txs),(2,.own Slot instDatSlot p0.Disk.Slots),(3,.own Entry instDatEntry p0.History),(4,.own ByteArray instDatByteArray p0.Seen)]⟩) rfl ?_
 refine gd 0 fun hg_p0_Store=>?_
 have hl_p0_Store:p0.Store.length≤9223372036854775807:=hg_p0_Store.1
 refine gd 1 fun hg_p0_Txs=>?_
 have hl_p0_Txs:p0.Txs.length≤9223372036854775807:=hg_p0_Txs.1
 refine gd 2 fun hg_p0_Disk_Slots=>?_
 have hl_p0_Disk_Slots:p0.Disk.Slots.length≤9223372036854775807:=hg_p0_Disk_Slots.1
 refine gd 3 fun hg_p0_History=>?_
 have hl_p0_History:p0.History.length≤9223372036854775807:=hg_p0_History.1
 refine gd 4 fun hg_p0_Seen=>?_
 have hl_p0_Seen:p0.Seen.length≤9223372036854775807:=hg_p0_Seen.1
 have hM:=Qfi.eq_1 p0 p1
 refine ad 10 ?_
 refine og (mu (Qxu p0.Store p1 lv3) Ytt) fun hgq=>?_
 obtain⟨hg1,hg2⟩:=hgq
 refine ad 7 ?_
 refine og (mu (Q0s p0.Txs ((Qas p0.Store p1).2) hg1) Yts) fun hgq=>?_
 obtain⟨hg3,hg4⟩:=hgq
 refine ad 7 ?_
 refine og (cm [2] [] [3] [] [0,1,2,4,5] (Q0b p0.Disk ((Qdc p0.Txs ((Qas p0.Store p1).2)).2) (by first | assumption | exact gi _)) Ytr) fun hg5=>?_
 refine ad 7 ?_
 refine og (mu (Qlb p0.History (Qgz p0.Disk ((Qdc p0.Txs ((Qas p0.Store p1).2)).2)) hg5) Ypu) fun hgq=>?_
 obtain⟨hg6,hg7⟩:=hgq
 refine ad 7 ?_
 refine og (mu (Qpb p0.Seen ((Qa5 p0.History (Qgz p0.Disk ((Qdc p0.Txs ((Qas p0.Store p1).2)).2))).2) hg6) Yt7) fun hgq=>?_
 obtain⟨hg8,hg9⟩:=hgq
 refine ad 7 ?_
 exact rzM (rs:=[.tmp 4]) [] [] (hg1:=hg8) (hG1:=congrArg (fun x=>(I64 x:Prop)) hM) (congrArg (fun x=>([]:List (Nat×En))) hM) (congrArg (fun x=>([.v (.int .i64 x)]:List V)) hM)
end
section
theorem Qik (p0 : Int) (h : I64 p0) : CTs 57 [.o (.c (.int .i64 p0))] [.c (.string (Qad p0))] := CT.flat fun w vs hG hA => by
 cases vs with
 | nil=>exact hA.elim
 | cons u r =>
  cases r with
  | cons=>exact hA.2.elim
  | nil =>
   obtain rfl:u= .int .i64 p0:=hA.1
   exact Qdj p0 h
end
section
theorem Ylg:FnOk Tryz.prog 57:=⟨_,Tryz.func57,rfl,by kernel_rfl⟩
theorem Ytk:FnOk Tryz.prog 66:=⟨_,Tryz.func66,rfl,by kernel_rfl⟩
theorem Ytj:FnOk Tryz.prog 67:=⟨_,Tryz.func67,rfl,by kernel_rfl⟩
def Qc4 (p0:List Answer) (p1:Int):Nat→Int→Nat→Int
 | 0,v1,i=>v1
 | n+1,v1,i=>bif !decide (((nth p0 i).Code)=v1) then(-1) else(bif !decide (((nth p0 i).N)=(i64.wrap (v1+1))) then(-1) else(bif !decide (((nth p0 i).Text)=(Qad (i64.wrap ((i64.wrap (v1+1))+1)))) then(-1) else(Qc4 p0 p1 n (i64.wrap ((i64.wrap ((i64.wrap (v1+1))+1))+1)) (i+1))))
def Qdq (p0:List Answer) (p1:Int):Int:=Qc4 p0 p1 (p0.length - 0) p1 0
theorem Qqq (p0:List Answer) (p1:Int):CTs 67 [.o (.sl Answer instDatAnswer p0),.o (.c (.int .i64 p1))] [Re.c (.int .i64 (Qdq p0 p1))]:=by
 refine en Tryz.func67 Tryz.ntmps67 fun w hG hgd=>?_
 obtain⟨hg_p0,_⟩:=hgd
 have hl_p0:p0.length≤9223372036854775807:=hg_p0.1
 have hM:=Qdq.eq_1 p0 p1
 refine ad 10 ?_
 refine Run.loopM (ι:=Int×Nat) (fun s=>Qc4 p0 p1 (p0.length - s.2) s.1 s.2) (fun s=>⟨41,1,[(0,.sl 0 p0.length),(1,.v (.int .i64 s.1)),(5,.v (.int .i64 (s.2:Int)))],[(0,.ros Answer instDatAnswer p0)]⟩) (fun s=>s.2≤p0.length) (fun s=>p0.length - s.2) (p1,0) [0] [0] hM lv0 su (by decide) ?_
 rintro ⟨v1,i⟩ hv hE
 try dsimp only at hE
 have hi:=hv
 try dsimp only at hi
 refine ad 8 ?_
 refine cd (fun h1=>?_) (fun h1=>?_)
 ·
  have h1l:i<p0.length:=by have:=of_decide_eq_true h1;omega
  have hM:=hE.trans ((congrArg (fun n=>Qc4 p0 p1 n v1 i) (show p0.length - i=(p0.length - (i+1))+1 by omega)).trans (Qc4.eq_2 _ _ _ _ _))
  refine ad 8 ?_
  have hg3:=Qat (k:=i) hg_p0 om
  refine op (ix (xs:=p0) i om) ?_
  refine ad 5 ?_
  refine cd (fun h4=>?_) (fun h4=>?_)
  ·
   have hM:=hM.trans (bt h4)
   refine ad 4 ?_
   exact rz (rs:=[.tmp 4]) (congrArg (fun x=>[Re.c (.int .i64 x)]) hM)
  ·
   have hM:=hM.trans (bf h4)
   refine ad 12 ?_
   have hg6:=Qat (k:=i) hg_p0 om
   refine op (ix (xs:=p0) i om) ?_
   refine ad 5 ?_
   refine cd (fun h7=>?_) (fun h7=>?_)
   ·
    have hM:=hM.trans (bt h7)
    refine ad 4 ?_
    exact rz (rs:=[.tmp 4]) (congrArg (fun x=>[Re.c (.int .i64 x)]) hM)
   ·
    have hM:=hM.trans (bf h7)
    refine ad 9 ?_
    refine dr 8 fun _ _ _ _ _ hb=>?_
    refine tk [0,1] ?_
    have hg8:=Qat (k:=i) hg_p0 om
    refine tx 2 (dx (xs:=p0) i om) ?_
    refine tk [3,4,5] ?_
    refine on 6 [1,2,3] (cl (Qik (i64.wrap ((i64.wrap (v1+1))+1)) (Qbb _)) Ylg) ?_
    refine tk [7] ?_
    refine dn hb ?_
    refine cd (fun h9=>?_) (fun h9=>?_)
    ·
     have hM:=hM.trans (bt h9)
     refine ad 4 ?_
     exact rz (rs:=[.tmp 4]) (congrArg (fun x=>[Re.c (.int .i64 x)]) hM)
    ·
     have hM:=hM.trans (bf h9)
     refine ad 10 ?_
     rw[Qd7 (i:=i) om]
     refine ad 2 ?_
     exact Run.again (i64.wrap ((i64.wrap ((i64.wrap (v1+1))+1))+1),(i+1)) [0] [3] ⟨by first | omega | exact trivial | (dsimp only;omega) | (refine⟨by omega,?_⟩;simp_all;try omega),hM⟩ rfl lv1 su (by decide)
 ·
  have h1l: ¬ (i<p0.length):=by have:=of_decide_eq_false h1;omega
  have hM:=hE.trans ((congrArg (fun n=>Qc4 p0 p1 n v1 i) (show p0.length - i=0 by omega)).trans (Qc4.eq_1 _ _ _ _))
  refine ad 6 ?_
  exact rz (rs:=[.tmp 4]) (congrArg (fun x=>[Re.c (.int .i64 x)]) hM)
def Qd0 (p0:List Step) (p1:Int):Nat→Int→Nat→Int
 | 0,v1,i=>v1
 | n+1,v1,i=>bif !decide (((nth p0 i).Proc)=v1) then(-1) else(bif !decide (((nth p0 i).Call.Kind)=(i64.wrap (v1+1))) then(-1) else(bif !decide (((nth p0 i).Call.Name)=(Qad (i64.wrap ((i64.wrap (v1+1))+1)))) then(-1) else(bif !decide (((nth p0 i).Call.To)=(Qad (i64.wrap ((i64.wrap ((i64.wrap (v1+1))+1))+1)))) then(-1) else(bif !decide (((nth p0 i).Call.A)=(i64.wrap ((i64.wrap ((i64.wrap ((i64.wrap (v1+1))+1))+1))+1))) then(-1) else(bif !decide (((nth p0 i).Call.B)=(i64.wrap ((i64.wrap ((i64.wrap ((i64.wrap ((i64.wrap (v1+1))+1))+1))+1))+1))) then(-1) else(bif !decide (((nth p0 i).Call.Text)=(Qad (i64.wrap ((i64.wrap ((i64.wrap ((i64.wrap ((i64.wrap ((i64.wrap (v1+1))+1))+1))+1))+1))+1)))) then(-1) else(Qd0 p0 p1 n (i64.wrap ((i64.wrap ((i64.wrap ((i64.wrap ((i64.wrap ((i64.wrap ((i64.wrap (v1+1))+1))+1))+1))+1))+1))+1)) (i+1))))))))
def Qdp (p0:List Step) (p1:Int):Int:=Qd0 p0 p1 (p0.length - 0) p1 0
theorem Qyj (p0:List Step) (p1:Int):CTs 66 [.o (.sl Step instDatStep p0),.o (.c (.int .i64 p1))] [Re.c (.int .i64 (Qdp p0 p1))]:=by
 refine en Tryz.func66 Tryz.ntmps66 fun w hG hgd=>?_
 obtain⟨hg_p0,_⟩:=hgd
 have hl_p0:p0.length≤9223372036854775807:=hg_p0.1
 have hM:=Qdp.eq_1 p0 p1
 refine ad 10 ?_
 refine Run.loopM (ι:=Int×Nat) (fun s=>Qd0 p0 p1 (p0.length - s.2) s.1 s.2) (fun s=>⟨85,1,[(0,.sl 0 p0.length),(1,.v (.int .i64 s.1)),(5,.v (.int .i64 (s.2:Int)))],[(0,.ros Step instDatStep p0)]⟩) (fun s=>s.2≤p0.length) (fun s=>p0.length - s.2) (p1,0) [0] [0] hM lv0 su (by decide) ?_
 rintro ⟨v1,i⟩ hv hE
 try dsimp only at hE
 have hi:=hv
 try dsimp only at hi
 refine ad 8 ?_
 refine cd (fun h1=>?_) (fun h1=>?_)
 ·
  have h1l:i<p0.length:=by have:=of_decide_eq_true h1;omega
  have hM:=hE.trans ((congrArg (fun n=>Qd0 p0 p1 n v1 i) (show p0.length - i=(p0.length - (i+1))+1 by omega)).trans (Qd0.eq_2 _ _ _ _ _))
  refine ad 8 ?_
  have hg3:=Qat (k:=i) hg_p0 om
  refine op (ix (xs:=p0) i om) ?_
  refine ad 5 ?_
  refine cd (fun h4=>?_) (fun h4=>?_)
  ·
   have hM:=hM.trans (bt h4)
   refine ad 4 ?_
   exact rz (rs:=[.tmp 4]) (congrArg (fun x=>[Re.c (.int .i64 x)]) hM)
  ·
   have hM:=hM.trans (bf h4)
   refine ad 12 ?_
   have hg6:=Qat (k:=i) hg_p0 om
   refine op (ix (xs:=p0) i om) ?_
   refine ad 6 ?_
   refine cd (fun h7=>?_) (fun h7=>?_)
   ·
    have hM:=hM.trans (bt h7)
    refine ad 4 ?_
    exact rz (rs:=[.tmp 4]) (congrArg (fun x=>[Re.c (.int .i64 x)]) hM)
   ·
    have hM:=hM.trans (bf h7)
    refine ad 9 ?_
    refine dr 9 fun _ _ _ _ _ hb=>?_
    refine tk [0,1] ?_
    have hg8:=Qat (k:=i) hg_p0 om
    refine tx 2 (dx (xs:=p0) i om) ?_
    refine tk [3,4,5,6] ?_
    refine on 7 [1,2,3] (cl (Qik (i64.wrap ((i64.wrap (v1+1))+1)) (Qbb _)) Ylg) ?_
    refine tk [8] ?_
    refine dn hb ?_
    refine cd (fun h9=>?_) (fun h9=>?_)
    ·
     have hM:=hM.trans (bt h9)
     refine ad 4 ?_
     exact rz (rs:=[.tmp 4]) (congrArg (fun x=>[Re.c (.int .i64 x)]) hM)
    ·
     have hM:=hM.trans (bf h9)
     refine ad 9 ?_
     refine dr 9 fun _ _ _ _ _ hb=>?_
     refine tk [0,1] ?_
     have hg10:=Qat (k:=i) hg_p0 om
     refine tx 2 (dx (xs:=p0) i om) ?_
     refine tk [3,4,5,6] ?_
     refine on 7 [1,2,3,4] (cl (Qik (i64.wrap ((i64.wrap ((i64.wrap (v1+1))+1))+1)) (Qbb _)) Ylg) ?_
     refine tk [8] ?_
     refine dn hb ?_
     refine cd (fun h11=>?_) (fun h11=>?_)
     ·
      have hM:=hM.trans (bt h11)
      refine ad 4 ?_
      exact rz (rs:=[.tmp 4]) (congrArg (fun x=>[Re.c (.int .i64 x)]) hM)
     ·
      have hM:=hM.trans (bf h11)
      refine ad 12 ?_
      have hg13:=Qat (k:=i) hg_p0 om
      refine op (ix (xs:=p0) i om) ?_
      refine ad 6 ?_
      refine cd (fun h14=>?_) (fun h14=>?_)
      ·
       have hM:=hM.trans (bt h14)
       refine ad 4 ?_
       exact rz (rs:=[.tmp 4]) (congrArg (fun x=>[Re.c (.int .i64 x)]) hM)
      ·
       have hM:=hM.trans (bf h14)
       refine ad 12 ?_
       have hg16:=Qat (k:=i) hg_p0 om
       refine op (ix (xs:=p0) i om) ?_
       refine ad 6 ?_
       refine cd (fun h17=>?_) (fun h17=>?_)
       ·
        have hM:=hM.trans (bt h17)
        refine ad 4 ?_
        exact rz (rs:=[.tmp 4]) (congrArg (fun x=>[Re.c (.int .i64 x)]) hM)
       ·
        have hM:=hM.trans (bf h17)
        refine ad 9 ?_
        refine dr 9 fun _ _ _ _ _ hb=>?_
        refine tk [0,1] ?_
        have hg18:=Qat (k:=i) hg_p0 om
        refine tx 2 (dx (xs:=p0) i om) ?_
        refine tk [3,4,5,6] ?_
        refine on 7 [1,2,3,4,5,6,7] (cl (Qik (i64.wrap ((i64.wrap ((i64.wrap ((i64.wrap ((i64.wrap ((i64.wrap (v1+1))+1))+1))+1))+1))+1)) (Qbb _)) Ylg) ?_
        refine tk [8] ?_
        refine dn hb ?_
        refine cd (fun h19=>?_) (fun h19=>?_)
        ·
         have hM:=hM.trans (bt h19)
         refine ad 4 ?_
         exact rz (rs:=[.tmp 4]) (congrArg (fun x=>[Re.c (.int .i64 x)]) hM)
        ·
         have hM:=hM.trans (bf h19)
         refine ad 10 ?_
         rw[Qd7 (i:=i) om]
         refine ad 2 ?_
         exact Run.again (i64.wrap ((i64.wrap ((i64.wrap ((i64.wrap ((i64.wrap ((i64.wrap ((i64.wrap (v1+1))+1))+1))+1))+1))+1))+1),(i+1)) [0] [7] ⟨by first | omega | exact trivial | (dsimp only;omega) | (refine⟨by omega,?_⟩;simp_all;try omega),hM⟩ rfl lv1 su (by decide)
 ·
  have h1l: ¬ (i<p0.length):=by have:=of_decide_eq_false h1;omega
  have hM:=hE.trans ((congrArg (fun n=>Qd0 p0 p1 n v1 i) (show p0.length - i=0 by omega)).trans (Qd0.eq_1 _ _ _ _))
  refine ad 6 ?_
  exact rz (rs:=[.tmp 4]) (congrArg (fun x=>[Re.c (.int .i64 x)]) hM)
def Qdg (p0:List Entry) (p1:Int):Nat→Int→Nat→Int
 | 0,v1,i=>v1
 | n+1,v1,i=>bif !decide (((nth p0 i).Seq)=v1) then(-1) else(bif !decide (((nth p0 i).Kind)=(i64.wrap (v1+1))) then(-1) else(bif !decide (((nth p0 i).Tx)=(i64.wrap ((i64.wrap (v1+1))+1))) then(-1) else(bif decide ((Qdp ((nth p0 i).Steps) (i64.wrap ((i64.wrap ((i64.wrap (v1+1))+1))+1)))<0) then(-1) else(bif decide ((Qdq ((nth p0 i).Answers) (Qdp ((nth p0 i).Steps) (i64.wrap ((i64.wrap ((i64.wrap (v1+1))+1))+1))))<0) then(-1) else(bif !decide (((nth p0 i).Began)=(Qdq ((nth p0 i).Answers) (Qdp ((nth p0 i).Steps) (i64.wrap ((i64.wrap ((i64.wrap (v1+1))+1))+1))))) then(-1) else(bif !decide (((nth p0 i).Ended)=(i64.wrap ((Qdq ((nth p0 i).Answers) (Qdp ((nth p0 i).Steps) (i64.wrap ((i64.wrap ((i64.wrap (v1+1))+1))+1))))+1))) then(-1) else(bif !decide (((nth p0 i).Laid)=(decide ((Int.tmod (i64.wrap ((i64.wrap ((Qdq ((nth p0 i).Answers) (Qdp ((nth p0 i).Steps) (i64.wrap ((i64.wrap ((i64.wrap (v1+1))+1))+1))))+1))+1)) 3)=0))) then(-1) else(Qdg p0 p1 n (i64.wrap ((i64.wrap ((i64.wrap ((Qdq ((nth p0 i).Answers) (Qdp ((nth p0 i).Steps) (i64.wrap ((i64.wrap ((i64.wrap (v1+1))+1))+1))))+1))+1))+1)) (i+1)))))))))
def Qe1 (p0:List Entry) (p1:Int):Int:=Qdg p0 p1 (p0.length - 0) p1 0
theorem Qlv (p0:List Entry) (p1:Int):CTs 26 [.o (.sl Entry instDatEntry p0),.o (.c (.int .i64 p1))] [Re.c (.int .i64 (Qe1 p0 p1))]:=by
 refine en Tryz.func26 Tryz.ntmps26 fun w hG hgd=>?_
 obtain⟨hg_p0,_⟩:=hgd
 have hl_p0:p0.length≤9223372036854775807:=hg_p0.1
 have hM:=Qe1.eq_1 p0 p1
 refine ad 10 ?_
 refine Run.loopM (ι:=Int×Nat) (fun s=>Qdg p0 p1 (p0.length - s.2) s.1 s.2) (fun s=>⟨87,1,[(0,.sl 0 p0.length),(1,.v (.int .i64 s.1)),(5,.v (.int .i64 (s.2:Int)))],[(0,.ros Entry instDatEntry p0)]⟩) (fun s=>s.2≤p0.length) (fun s=>p0.length - s.2) (p1,0) [0] [0] hM lv0 su (by decide) ?_
 rintro ⟨v1,i⟩ hv hE
 try dsimp only at hE
 have hi:=hv
 try dsimp only at hi
 refine ad 8 ?_
 refine cd (fun h1=>?_) (fun h1=>?_)
 ·
  have h1l:i<p0.length:=by have:=of_decide_eq_true h1;omega
  have hM:=hE.trans ((congrArg (fun n=>Qdg p0 p1 n v1 i) (show p0.length - i=(p0.length - (i+1))+1 by omega)).trans (Qdg.eq_2 _ _ _ _ _))
  refine ad 8 ?_
  have hg3:=Qat (k:=i) hg_p0 om
  refine op (ix (xs:=p0) i om) ?_
  refine ad 5 ?_
  refine cd (fun h4=>?_) (fun h4=>?_)
  ·
   have hM:=hM.trans (bt h4)
   refine ad 4 ?_
   exact rz (rs:=[.tmp 4]) (congrArg (fun x=>[Re.c (.int .i64 x)]) hM)
  ·
   have hM:=hM.trans (bf h4)
   refine ad 12 ?_
   have hg6:=Qat (k:=i) hg_p0 om
   refine op (ix (xs:=p0) i om) ?_
   refine ad 5 ?_
   refine cd (fun h7=>?_) (fun h7=>?_)
   ·
    have hM:=hM.trans (bt h7)
    refine ad 4 ?_
    exact rz (rs:=[.tmp 4]) (congrArg (fun x=>[Re.c (.int .i64 x)]) hM)
   ·
    have hM:=hM.trans (bf h7)
    refine ad 12 ?_
    have hg9:=Qat (k:=i) hg_p0 om
    refine op (ix (xs:=p0) i om) ?_
    refine ad 5 ?_
    refine cd (fun h10=>?_) (fun h10=>?_)
    ·
     have hM:=hM.trans (bt h10)
     refine ad 4 ?_
     exact rz (rs:=[.tmp 4]) (congrArg (fun x=>[Re.c (.int .i64 x)]) hM)
    ·
     have hM:=hM.trans (bf h10)
     refine ad 11 ?_
     have hg12:=Qat (k:=i) hg_p0 om
     refine op (ix (xs:=p0) i om) ?_
     refine ad 3 ?_
     refine op (cl (Qyj ((nth p0 i).Steps) (i64.wrap ((i64.wrap ((i64.wrap (v1+1))+1))+1))) Ytk) ?_
     refine ad 8 ?_
     refine cd (fun h13=>?_) (fun h13=>?_)
     ·
      have hM:=hM.trans (bt h13)
      refine ad 4 ?_
      exact rz (rs:=[.tmp 4]) (congrArg (fun x=>[Re.c (.int .i64 x)]) hM)
     ·
      have hM:=hM.trans (bf h13)
      refine ad 5 ?_
      have hg15:=Qat (k:=i) hg_p0 om
      refine op (ix (xs:=p0) i om) ?_
      refine ad 3 ?_
      refine op (cl (Qqq ((nth p0 i).Answers) (Qdp ((nth p0 i).Steps) (i64.wrap ((i64.wrap ((i64.wrap (v1+1))+1))+1)))) Ytj) ?_
      refine ad 8 ?_
      refine cd (fun h16=>?_) (fun h16=>?_)
      ·
       have hM:=hM.trans (bt h16)
       refine ad 4 ?_
       exact rz (rs:=[.tmp 4]) (congrArg (fun x=>[Re.c (.int .i64 x)]) hM)
      ·
       have hM:=hM.trans (bf h16)
       refine ad 6 ?_
       have hg18:=Qat (k:=i) hg_p0 om
       refine op (ix (xs:=p0) i om) ?_
       refine ad 5 ?_
       refine cd (fun h19=>?_) (fun h19=>?_)
       ·
        have hM:=hM.trans (bt h19)
        refine ad 4 ?_
        exact rz (rs:=[.tmp 4]) (congrArg (fun x=>[Re.c (.int .i64 x)]) hM)
       ·
        have hM:=hM.trans (bf h19)
        refine ad 12 ?_
        have hg21:=Qat (k:=i) hg_p0 om
        refine op (ix (xs:=p0) i om) ?_
        refine ad 5 ?_
        refine cd (fun h22=>?_) (fun h22=>?_)
        ·
         have hM:=hM.trans (bt h22)
         refine ad 4 ?_
         exact rz (rs:=[.tmp 4]) (congrArg (fun x=>[Re.c (.int .i64 x)]) hM)
        ·
         have hM:=hM.trans (bf h22)
         refine ad 12 ?_
         have hg24:=Qat (k:=i) hg_p0 om
         refine op (ix (xs:=p0) i om) ?_
         refine ad 3 ?_
         refine op (rm) ?_
         refine ad 3 ?_
         refine cd (fun h25=>?_) (fun h25=>?_)
         ·
          have hM:=hM.trans (bt h25)
          refine ad 4 ?_
          exact rz (rs:=[.tmp 4]) (congrArg (fun x=>[Re.c (.int .i64 x)]) hM)
         ·
          have hM:=hM.trans (bf h25)
          refine ad 10 ?_
          rw[Qd7 (i:=i) om]
          refine ad 2 ?_
          exact Run.again (i64.wrap ((i64.wrap ((i64.wrap ((Qdq ((nth p0 i).Answers) (Qdp ((nth p0 i).Steps) (i64.wrap ((i64.wrap ((i64.wrap (v1+1))+1))+1))))+1))+1))+1),(i+1)) [0] [24] ⟨by first | omega | exact trivial | (dsimp only;omega) | (refine⟨by omega,?_⟩;simp_all;try omega),hM⟩ rfl lv1 su (by decide)
 ·
  have h1l: ¬ (i<p0.length):=by have:=of_decide_eq_false h1;omega
  have hM:=hE.trans ((congrArg (fun n=>Qdg p0 p1 n v1 i) (show p0.length - i=0 by omega)).trans (Qdg.eq_1 _ _ _ _))
  refine ad 6 ?_
  exact rz (rs:=[.tmp 4]) (congrArg (fun x=>[Re.c (.int .i64 x)]) hM)
end
section
theorem Ypo:FnOk Tryz.prog 31:=⟨_,Tryz.func31,rfl,by kernel_rfl⟩
theorem Yt5:FnOk Tryz.prog 32:=⟨_,Tryz.func32,rfl,by kernel_rfl⟩
theorem Yt4:FnOk Tryz.prog 33:=⟨_,Tryz.func33,rfl,by kernel_rfl⟩
theorem Yt3:FnOk Tryz.prog 34:=⟨_,Tryz.func34,rfl,by kernel_rfl⟩
theorem Ynw:FnOk Tryz.prog 35:=⟨_,Tryz.func35,rfl,by kernel_rfl⟩
theorem Yti:FnOk Tryz.prog 74:=⟨_,Tryz.func74,rfl,by kernel_rfl⟩
theorem Yth:FnOk Tryz.prog 75:=⟨_,Tryz.func75,rfl,by kernel_rfl⟩
theorem Ytg:FnOk Tryz.prog 76:=⟨_,Tryz.func76,rfl,by kernel_rfl⟩
theorem Ytf:FnOk Tryz.prog 77:=⟨_,Tryz.func77,rfl,by kernel_rfl⟩
theorem Yte:FnOk Tryz.prog 78:=⟨_,Tryz.func78,rfl,by kernel_rfl⟩
theorem Yq2:FnOk Tryz.prog 140:=⟨_,Tryz.func140,rfl,by kernel_rfl⟩
theorem Ymz:FnOk Tryz.prog 141:=⟨_,Tryz.func141,rfl,by kernel_rfl⟩
theorem Yq1:FnOk Tryz.prog 142:=⟨_,Tryz.func142,rfl,by kernel_rfl⟩
theorem Yq0:FnOk Tryz.prog 143:=⟨_,Tryz.func143,rfl,by kernel_rfl⟩
theorem Yqz:FnOk Tryz.prog 144:=⟨_,Tryz.func144,rfl,by kernel_rfl⟩
theorem Yqy:FnOk Tryz.prog 145:=⟨_,Tryz.func145,rfl,by kernel_rfl⟩
theorem Ymq:FnOk Tryz.prog 206:=⟨_,Tryz.func206,rfl,by kernel_rfl⟩
theorem Yqa:FnOk Tryz.prog 207:=⟨_,Tryz.func207,rfl,by kernel_rfl⟩
theorem Yp9:FnOk Tryz.prog 208:=⟨_,Tryz.func208,rfl,by kernel_rfl⟩
def Qf4 (p0:Cell) (p1:Int):Int:=bif decide ((i64.wrap (p1 - (p0.Key.size:Int)))<0) then(-1) else(bif decide ((i64.wrap ((i64.wrap (p1 - (p0.Key.size:Int))) - (p0.Val.size:Int)))<0) then(-1) else(i64.wrap ((i64.wrap (p1 - (p0.Key.size:Int))) - (p0.Val.size:Int))))
theorem Q8q (p0:Cell) (p1:Int):CTs 74 [.o (.st Cell _ inferInstance p0),.o (.c (.int .i64 p1))] [Re.c (.int .i64 (Qf4 p0 p1))]:=by
 refine en Tryz.func74 Tryz.ntmps74 fun w hG hgd=>?_
 obtain⟨hg_p0,_⟩:=hgd
 have hM:=Qf4.eq_1 p0 p1
 refine ad 20 ?_
 refine cd (fun h1=>?_) (fun h1=>?_)
 ·
  have hM:=hM.trans (bt h1)
  refine ad 4 ?_
  exact rz (rs:=[.tmp 4]) (congrArg (fun x=>[Re.c (.int .i64 x)]) hM)
 ·
  have hM:=hM.trans (bf h1)
  refine ad 16 ?_
  refine cd (fun h2=>?_) (fun h2=>?_)
  ·
   have hM:=hM.trans (bt h2)
   refine ad 4 ?_
   exact rz (rs:=[.tmp 4]) (congrArg (fun x=>[Re.c (.int .i64 x)]) hM)
  ·
   have hM:=hM.trans (bf h2)
   refine ad 6 ?_
   exact rz (rs:=[.tmp 4]) (congrArg (fun x=>[Re.c (.int .i64 x)]) hM)
def Qex (p0:List Cell) (p1:Int):Nat→Int→Nat→Int
 | 0,v1,i=>v1
 | n+1,v1,i=>bif decide ((Qf4 (nth p0 i) v1)<0) then(-1) else(Qex p0 p1 n (Qf4 (nth p0 i) v1) (i+1))
def Qbi (p0:List Cell) (p1:Int):Int:=bif decide ((i64.wrap (p1 - (p0.length:Int)))<0) then(-1) else(Qex p0 p1 (p0.length - 0) (i64.wrap (p1 - (p0.length:Int))) 0)
theorem Qoe (p0:List Cell) (p1:Int):CTs 31 [.o (.sl Cell instDatCell p0),.o (.c (.int .i64 p1))] [Re.c (.int .i64 (Qbi p0 p1))]:=by
 refine en Tryz.func31 Tryz.ntmps31 fun w hG hgd=>?_
 obtain⟨hg_p0,_⟩:=hgd
 have hl_p0:p0.length≤9223372036854775807:=hg_p0.1
 have hM:=Qbi.eq_1 p0 p1
 refine ad 18 ?_
 refine cd (fun h1=>?_) (fun h1=>?_)
 ·
  have hM:=hM.trans (bt h1)
  refine ad 4 ?_
  exact rz (rs:=[.tmp 4]) (congrArg (fun x=>[Re.c (.int .i64 x)]) hM)
 ·
  have hM:=hM.trans (bf h1)
  refine ad 7 ?_
  refine Run.loopM (ι:=Int×Nat) (fun s=>Qex p0 p1 (p0.length - s.2) s.1 s.2) (fun s=>⟨27,1,[(0,.sl 0 p0.length),(1,.v (.int .i64 s.1)),(5,.v (.int .i64 (s.2:Int)))],[(0,.ros Cell instDatCell p0)]⟩) (fun s=>s.2≤p0.length) (fun s=>p0.length - s.2) (i64.wrap (p1 - (p0.length:Int)),0) [0] [0] hM lv0 su (by decide) ?_
  rintro ⟨v1,i⟩ hv hE
  try dsimp only at hE
  have hi:=hv
  try dsimp only at hi
  refine ad 8 ?_
  refine cd (fun h2=>?_) (fun h2=>?_)
  ·
   have h2l:i<p0.length:=by have:=of_decide_eq_true h2;omega
   have hM:=hE.trans ((congrArg (fun n=>Qex p0 p1 n v1 i) (show p0.length - i=(p0.length - (i+1))+1 by omega)).trans (Qex.eq_2 _ _ _ _ _))
   refine ad 7 ?_
   have hg4:=Qat (k:=i) hg_p0 om
   refine op (ix (xs:=p0) i om) ?_
   refine ad 2 ?_
   have hg5:Dat.good (nth p0 i:Cell):=hg4
   refine op (cl (Q8q (nth p0 i) v1) Yti) ?_
   refine ad 7 ?_
   refine cd (fun h6=>?_) (fun h6=>?_)
   ·
    have hM:=hM.trans (bt h6)
    refine ad 4 ?_
    exact rz (rs:=[.tmp 4]) (congrArg (fun x=>[Re.c (.int .i64 x)]) hM)
   ·
    have hM:=hM.trans (bf h6)
    refine ad 5 ?_
    rw[Qd7 (i:=i) om]
    refine ad 2 ?_
    exact Run.again ((Qf4 (nth p0 i) v1),(i+1)) [0] [1] ⟨by first | omega | exact trivial | (dsimp only;omega) | (refine⟨by omega,?_⟩;simp_all;try omega),hM⟩ rfl lv1 su (by decide)
  ·
   have h2l: ¬ (i<p0.length):=by have:=of_decide_eq_false h2;omega
   have hM:=hE.trans ((congrArg (fun n=>Qex p0 p1 n v1 i) (show p0.length - i=0 by omega)).trans (Qex.eq_1 _ _ _ _))
   refine ad 6 ?_
   exact rz (rs:=[.tmp 4]) (congrArg (fun x=>[Re.c (.int .i64 x)]) hM)
def Qez (p0:Call) (p1:Int):Int:=bif decide ((i64.wrap (p1 - (p0.Name.size:Int)))<0) then(-1) else(bif decide ((i64.wrap ((i64.wrap (p1 - (p0.Name.size:Int))) - (p0.To.size:Int)))<0) then(-1) else(bif decide ((i64.wrap ((i64.wrap ((i64.wrap (p1 - (p0.Name.size:Int))) - (p0.To.size:Int))) - (p0.Text.size:Int)))<0) then(-1) else(i64.wrap ((i64.wrap ((i64.wrap (p1 - (p0.Name.size:Int))) - (p0.To.size:Int))) - (p0.Text.size:Int)))))
theorem Qqp (p0:Call) (p1:Int):CTs 206 [.o (.st Call _ inferInstance p0),.o (.c (.int .i64 p1))] [Re.c (.int .i64 (Qez p0 p1))]:=by
 refine en Tryz.func206 Tryz.ntmps206 fun w hG hgd=>?_
 obtain⟨hg_p0,_⟩:=hgd
 have hM:=Qez.eq_1 p0 p1
 refine ad 20 ?_
 refine cd (fun h1=>?_) (fun h1=>?_)
 ·
  have hM:=hM.trans (bt h1)
  refine ad 4 ?_
  exact rz (rs:=[.tmp 4]) (congrArg (fun x=>[Re.c (.int .i64 x)]) hM)
 ·
  have hM:=hM.trans (bf h1)
  refine ad 16 ?_
  refine cd (fun h2=>?_) (fun h2=>?_)
  ·
   have hM:=hM.trans (bt h2)
   refine ad 4 ?_
   exact rz (rs:=[.tmp 4]) (congrArg (fun x=>[Re.c (.int .i64 x)]) hM)
  ·
   have hM:=hM.trans (bf h2)
   refine ad 16 ?_
   refine cd (fun h3=>?_) (fun h3=>?_)
   ·
    have hM:=hM.trans (bt h3)
    refine ad 4 ?_
    exact rz (rs:=[.tmp 4]) (congrArg (fun x=>[Re.c (.int .i64 x)]) hM)
   ·
    have hM:=hM.trans (bf h3)
    refine ad 6 ?_
    exact rz (rs:=[.tmp 4]) (congrArg (fun x=>[Re.c (.int .i64 x)]) hM)
def Qey (p0:List Call) (p1:Int):Nat→Int→Nat→Int
 | 0,v1,i=>v1
 | n+1,v1,i=>bif decide ((Qez (nth p0 i) v1)<0) then(-1) else(Qey p0 p1 n (Qez (nth p0 i) v1) (i+1))
def Qb6 (p0:List Call) (p1:Int):Int:=bif decide ((i64.wrap (p1 - (p0.length:Int)))<0) then(-1) else(Qey p0 p1 (p0.length - 0) (i64.wrap (p1 - (p0.length:Int))) 0)
theorem Q1l (p0:List Call) (p1:Int):CTs 140 [.o (.sl Call instDatCall p0),.o (.c (.int .i64 p1))] [Re.c (.int .i64 (Qb6 p0 p1))]:=by
 refine en Tryz.func140 Tryz.ntmps140 fun w hG hgd=>?_
 obtain⟨hg_p0,_⟩:=hgd
 have hl_p0:p0.length≤9223372036854775807:=hg_p0.1
 have hM:=Qb6.eq_1 p0 p1
 refine ad 18 ?_
 refine cd (fun h1=>?_) (fun h1=>?_)
 ·
  have hM:=hM.trans (bt h1)
  refine ad 4 ?_
  exact rz (rs:=[.tmp 4]) (congrArg (fun x=>[Re.c (.int .i64 x)]) hM)
 ·
  have hM:=hM.trans (bf h1)
  refine ad 7 ?_
  refine Run.loopM (ι:=Int×Nat) (fun s=>Qey p0 p1 (p0.length - s.2) s.1 s.2) (fun s=>⟨27,1,[(0,.sl 0 p0.length),(1,.v (.int .i64 s.1)),(5,.v (.int .i64 (s.2:Int)))],[(0,.ros Call instDatCall p0)]⟩) (fun s=>s.2≤p0.length) (fun s=>p0.length - s.2) (i64.wrap (p1 - (p0.length:Int)),0) [0] [0] hM lv0 su (by decide) ?_
  rintro ⟨v1,i⟩ hv hE
  try dsimp only at hE
  have hi:=hv
  try dsimp only at hi
  refine ad 8 ?_
  refine cd (fun h2=>?_) (fun h2=>?_)
  ·
   have h2l:i<p0.length:=by have:=of_decide_eq_true h2;omega
   have hM:=hE.trans ((congrArg (fun n=>Qey p0 p1 n v1 i) (show p0.length - i=(p0.length - (i+1))+1 by omega)).trans (Qey.eq_2 _ _ _ _ _))
   refine ad 7 ?_
   have hg4:=Qat (k:=i) hg_p0 om
   refine op (ix (xs:=p0) i om) ?_
   refine ad 2 ?_
   have hg5:Dat.good (nth p0 i:Call):=hg4
   refine op (cl (Qqp (nth p0 i) v1) Ymq) ?_
   refine ad 7 ?_
   refine cd (fun h6=>?_) (fun h6=>?_)
   ·
    have hM:=hM.trans (bt h6)
    refine ad 4 ?_
    exact rz (rs:=[.tmp 4]) (congrArg (fun x=>[Re.c (.int .i64 x)]) hM)
   ·
    have hM:=hM.trans (bf h6)
    refine ad 5 ?_
    rw[Qd7 (i:=i) om]
    refine ad 2 ?_
    exact Run.again ((Qez (nth p0 i) v1),(i+1)) [0] [1] ⟨by first | omega | exact trivial | (dsimp only;omega) | (refine⟨by omega,?_⟩;simp_all;try omega),hM⟩ rfl lv1 su (by decide)
  ·
   have h2l: ¬ (i<p0.length):=by have:=of_decide_eq_false h2;omega
   have hM:=hE.trans ((congrArg (fun n=>Qey p0 p1 n v1 i) (show p0.length - i=0 by omega)).trans (Qey.eq_1 _ _ _ _))
   refine ad 6 ?_
   exact rz (rs:=[.tmp 4]) (congrArg (fun x=>[Re.c (.int .i64 x)]) hM)
def Qe0 (p0:Answer) (p1:Int):Int:=bif decide ((i64.wrap (p1 - (p0.Text.size:Int)))<0) then(-1) else(i64.wrap (p1 - (p0.Text.size:Int)))
theorem Qz9 (p0:Answer) (p1:Int):CTs 207 [.o (.st Answer _ inferInstance p0),.o (.c (.int .i64 p1))] [Re.c (.int .i64 (Qe0 p0 p1))]:=by
 refine en Tryz.func207 Tryz.ntmps207 fun w hG hgd=>?_
 obtain⟨hg_p0,_⟩:=hgd
 have hM:=Qe0.eq_1 p0 p1
 refine ad 20 ?_
 refine cd (fun h1=>?_) (fun h1=>?_)
 ·
  have hM:=hM.trans (bt h1)
  refine ad 4 ?_
  exact rz (rs:=[.tmp 4]) (congrArg (fun x=>[Re.c (.int .i64 x)]) hM)
 ·
  have hM:=hM.trans (bf h1)
  refine ad 6 ?_
  exact rz (rs:=[.tmp 4]) (congrArg (fun x=>[Re.c (.int .i64 x)]) hM)
def Qdx (p0:List Answer) (p1:Int):Nat→Int→Nat→Int
 | 0,v1,i=>v1
 | n+1,v1,i=>bif decide ((Qe0 (nth p0 i) v1)<0) then(-1) else(Qdx p0 p1 n (Qe0 (nth p0 i) v1) (i+1))
def Qbr (p0:List Answer) (p1:Int):Int:=bif decide ((i64.wrap (p1 - (p0.length:Int)))<0) then(-1) else(Qdx p0 p1 (p0.length - 0) (i64.wrap (p1 - (p0.length:Int))) 0)
theorem Qmk (p0:List Answer) (p1:Int):CTs 141 [.o (.sl Answer instDatAnswer p0),.o (.c (.int .i64 p1))] [Re.c (.int .i64 (Qbr p0 p1))]:=by
 refine en Tryz.func141 Tryz.ntmps141 fun w hG hgd=>?_
 obtain⟨hg_p0,_⟩:=hgd
 have hl_p0:p0.length≤9223372036854775807:=hg_p0.1
 have hM:=Qbr.eq_1 p0 p1
 refine ad 18 ?_
 refine cd (fun h1=>?_) (fun h1=>?_)
 ·
  have hM:=hM.trans (bt h1)
  refine ad 4 ?_
  exact rz (rs:=[.tmp 4]) (congrArg (fun x=>[Re.c (.int .i64 x)]) hM)
 ·
  have hM:=hM.trans (bf h1)
  refine ad 7 ?_
  refine Run.loopM (ι:=Int×Nat) (fun s=>Qdx p0 p1 (p0.length - s.2) s.1 s.2) (fun s=>⟨27,1,[(0,.sl 0 p0.length),(1,.v (.int .i64 s.1)),(5,.v (.int .i64 (s.2:Int)))],[(0,.ros Answer instDatAnswer p0)]⟩) (fun s=>s.2≤p0.length) (fun s=>p0.length - s.2) (i64.wrap (p1 - (p0.length:Int)),0) [0] [0] hM lv0 su (by decide) ?_
  rintro ⟨v1,i⟩ hv hE
  try dsimp only at hE
  have hi:=hv
  try dsimp only at hi
  refine ad 8 ?_
  refine cd (fun h2=>?_) (fun h2=>?_)
  ·
   have h2l:i<p0.length:=by have:=of_decide_eq_true h2;omega
   have hM:=hE.trans ((congrArg (fun n=>Qdx p0 p1 n v1 i) (show p0.length - i=(p0.length - (i+1))+1 by omega)).trans (Qdx.eq_2 _ _ _ _ _))
   refine ad 7 ?_
   have hg4:=Qat (k:=i) hg_p0 om
   refine op (ix (xs:=p0) i om) ?_
   refine ad 2 ?_
   have hg5:Dat.good (nth p0 i:Answer):=hg4
   refine op (cl (Qz9 (nth p0 i) v1) Yqa) ?_
   refine ad 7 ?_
   refine cd (fun h6=>?_) (fun h6=>?_)
   ·
    have hM:=hM.trans (bt h6)
    refine ad 4 ?_
    exact rz (rs:=[.tmp 4]) (congrArg (fun x=>[Re.c (.int .i64 x)]) hM)
   ·
    have hM:=hM.trans (bf h6)
    refine ad 5 ?_
    rw[Qd7 (i:=i) om]
    refine ad 2 ?_
    exact Run.again ((Qe0 (nth p0 i) v1),(i+1)) [0] [1] ⟨by first | omega | exact trivial | (dsimp only;omega) | (refine⟨by omega,?_⟩;simp_all;try omega),hM⟩ rfl lv1 su (by decide)
  ·
   have h2l: ¬ (i<p0.length):=by have:=of_decide_eq_false h2;omega
   have hM:=hE.trans ((congrArg (fun n=>Qdx p0 p1 n v1 i) (show p0.length - i=0 by omega)).trans (Qdx.eq_1 _ _ _ _))
   refine ad 6 ?_
   exact rz (rs:=[.tmp 4]) (congrArg (fun x=>[Re.c (.int .i64 x)]) hM)
def Qdv (p0:List ByteArray) (p1:Int):Nat→Int→Nat→Int
 | 0,v1,i=>v1
 | n+1,v1,i=>bif decide ((i64.wrap (v1 - ((nth p0 i).size:Int)))<0) then(-1) else(Qdv p0 p1 n (i64.wrap (v1 - ((nth p0 i).size:Int))) (i+1))
def Qbv (p0:List ByteArray) (p1:Int):Int:=bif decide ((i64.wrap (p1 - (p0.length:Int)))<0) then(-1) else(Qdv p0 p1 (p0.length - 0) (i64.wrap (p1 - (p0.length:Int))) 0)
theorem Qjo (p0:List ByteArray) (p1:Int):CTs 35 [.o (.sl ByteArray instDatByteArray p0),.o (.c (.int .i64 p1))] [Re.c (.int .i64 (Qbv p0 p1))]:=by
 refine en Tryz.func35 Tryz.ntmps35 fun w hG hgd=>?_
 obtain⟨hg_p0,_⟩:=hgd
 have hl_p0:p0.length≤9223372036854775807:=hg_p0.1
 have hM:=Qbv.eq_1 p0 p1
 refine ad 18 ?_
 refine cd (fun h1=>?_) (fun h1=>?_)
 ·
  have hM:=hM.trans (bt h1)
  refine ad 4 ?_
  exact rz (rs:=[.tmp 4]) (congrArg (fun x=>[Re.c (.int .i64 x)]) hM)
 ·
  have hM:=hM.trans (bf h1)
  refine ad 7 ?_
  refine Run.loopM (ι:=Int×Nat) (fun s=>Qdv p0 p1 (p0.length - s.2) s.1 s.2) (fun s=>⟨28,1,[(0,.sl 0 p0.length),(1,.v (.int .i64 s.1)),(5,.v (.int .i64 (s.2:Int)))],[(0,.ros ByteArray instDatByteArray p0)]⟩) (fun s=>s.2≤p0.length) (fun s=>p0.length - s.2) (i64.wrap (p1 - (p0.length:Int)),0) [0] [0] hM lv0 su (by decide) ?_
  rintro ⟨v1,i⟩ hv hE
  try dsimp only at hE
  have hi:=hv
  try dsimp only at hi
  refine ad 8 ?_
  refine cd (fun h2=>?_) (fun h2=>?_)
  ·
   have h2l:i<p0.length:=by have:=of_decide_eq_true h2;omega
   have hM:=hE.trans ((congrArg (fun n=>Qdv p0 p1 n v1 i) (show p0.length - i=(p0.length - (i+1))+1 by omega)).trans (Qdv.eq_2 _ _ _ _ _))
   refine ad 8 ?_
   have hg4:=Qat (k:=i) hg_p0 om
   refine op (ix (xs:=p0) i om) ?_
   refine ad 10 ?_
   refine cd (fun h5=>?_) (fun h5=>?_)
   ·
    have hM:=hM.trans (bt h5)
    refine ad 4 ?_
    exact rz (rs:=[.tmp 4]) (congrArg (fun x=>[Re.c (.int .i64 x)]) hM)
   ·
    have hM:=hM.trans (bf h5)
    refine ad 5 ?_
    rw[Qd7 (i:=i) om]
    refine ad 2 ?_
    exact Run.again (i64.wrap (v1 - ((nth p0 i).size:Int)),(i+1)) [0] [1] ⟨by first | omega | exact trivial | (dsimp only;omega) | (refine⟨by omega,?_⟩;simp_all;try omega),hM⟩ rfl lv1 su (by decide)
  ·
   have h2l: ¬ (i<p0.length):=by have:=of_decide_eq_false h2;omega
   have hM:=hE.trans ((congrArg (fun n=>Qdv p0 p1 n v1 i) (show p0.length - i=0 by omega)).trans (Qdv.eq_1 _ _ _ _))
   refine ad 6 ?_
   exact rz (rs:=[.tmp 4]) (congrArg (fun x=>[Re.c (.int .i64 x)]) hM)
def Qek (p0:Touch) (p1:Int):Int:=bif decide ((Qbv p0.Reads p1)<0) then(-1) else(bif decide ((Qbv p0.Writes (Qbv p0.Reads p1))<0) then(-1) else(Qbv p0.Writes (Qbv p0.Reads p1)))
theorem Q1h (p0:Touch) (p1:Int):CTs 142 [.o (.st Touch _ inferInstance p0),.o (.c (.int .i64 p1))] [Re.c (.int .i64 (Qek p0 p1))]:=by
 refine en Tryz.func142 Tryz.ntmps142 fun w hG hgd=>?_
 obtain⟨hg_p0,_⟩:=hgd
 have hM:=Qek.eq_1 p0 p1
 refine ad 10 ?_
 refine op (cl (Qjo p0.Reads p1) Ynw) ?_
 refine ad 8 ?_
 refine cd (fun h1=>?_) (fun h1=>?_)
 ·
  have hM:=hM.trans (bt h1)
  refine ad 4 ?_
  exact rz (rs:=[.tmp 4]) (congrArg (fun x=>[Re.c (.int .i64 x)]) hM)
 ·
  have hM:=hM.trans (bf h1)
  refine ad 6 ?_
  refine op (cl (Qjo p0.Writes (Qbv p0.Reads p1)) Ynw) ?_
  refine ad 8 ?_
  refine cd (fun h2=>?_) (fun h2=>?_)
  ·
   have hM:=hM.trans (bt h2)
   refine ad 4 ?_
   exact rz (rs:=[.tmp 4]) (congrArg (fun x=>[Re.c (.int .i64 x)]) hM)
  ·
   have hM:=hM.trans (bf h2)
   refine ad 6 ?_
   exact rz (rs:=[.tmp 4]) (congrArg (fun x=>[Re.c (.int .i64 x)]) hM)
def Qgy (p0:List Int) (p1:Int):Int:=bif decide ((i64.wrap (p1 - (p0.length:Int)))<0) then(-1) else(i64.wrap (p1 - (p0.length:Int)))
theorem Q8o (p0:List Int) (p1:Int):CTs 143 [.o (.sl Int instDatInt p0),.o (.c (.int .i64 p1))] [Re.c (.int .i64 (Qgy p0 p1))]:=by
 refine en Tryz.func143 Tryz.ntmps143 fun w hG hgd=>?_
 obtain⟨hg_p0,_⟩:=hgd
 have hl_p0:p0.length≤9223372036854775807:=hg_p0.1
 have hM:=Qgy.eq_1 p0 p1
 refine ad 18 ?_
 refine cd (fun h1=>?_) (fun h1=>?_)
 ·
  have hM:=hM.trans (bt h1)
  refine ad 4 ?_
  exact rz (rs:=[.tmp 4]) (congrArg (fun x=>[Re.c (.int .i64 x)]) hM)
 ·
  have hM:=hM.trans (bf h1)
  refine ad 6 ?_
  exact rz (rs:=[.tmp 4]) (congrArg (fun x=>[Re.c (.int .i64 x)]) hM)
def Qhd (p0:Tx) (p1:Int):Int:=bif decide ((Qb6 p0.Calls p1)<0) then(-1) else(bif decide ((Qbr p0.Answers (Qb6 p0.Calls p1))<0) then(-1) else(bif decide ((Qek p0.Touch (Qbr p0.Answers (Qb6 p0.Calls p1)))<0) then(-1) else(bif decide ((Qgy p0.Marks (Qek p0.Touch (Qbr p0.Answers (Qb6 p0.Calls p1))))<0) then(-1) else(Qgy p0.Marks (Qek p0.Touch (Qbr p0.Answers (Qb6 p0.Calls p1)))))))
theorem Ydp (p0:Tx) (p1:Int):CTs 75 [.o (.st Tx _ inferInstance p0),.o (.c (.int .i64 p1))] [Re.c (.int .i64 (Qhd p0 p1))]:=by
 refine en Tryz.func75 Tryz.ntmps75 fun w hG hgd=>?_
 obtain⟨hg_p0,_⟩:=hgd
 have hM:=Qhd.eq_1 p0 p1
 refine ad 10 ?_
 refine op (cl (Q1l p0.Calls p1) Yq2) ?_
 refine ad 8 ?_
 refine cd (fun h1=>?_) (fun h1=>?_)
 ·
  have hM:=hM.trans (bt h1)
  refine ad 4 ?_
  exact rz (rs:=[.tmp 4]) (congrArg (fun x=>[Re.c (.int .i64 x)]) hM)
 ·
  have hM:=hM.trans (bf h1)
  refine ad 6 ?_
  refine op (cl (Qmk p0.Answers (Qb6 p0.Calls p1)) Ymz) ?_
  refine ad 8 ?_
  refine cd (fun h2=>?_) (fun h2=>?_)
  ·
   have hM:=hM.trans (bt h2)
   refine ad 4 ?_
   exact rz (rs:=[.tmp 4]) (congrArg (fun x=>[Re.c (.int .i64 x)]) hM)
  ·
   have hM:=hM.trans (bf h2)
   refine ad 6 ?_
   have hg3:Dat.good (p0.Touch:Touch):=hg_p0.2.2.2.2.2.2.1
   refine op (cl (Q1h p0.Touch (Qbr p0.Answers (Qb6 p0.Calls p1))) Yq1) ?_
   refine ad 8 ?_
   refine cd (fun h4=>?_) (fun h4=>?_)
   ·
    have hM:=hM.trans (bt h4)
    refine ad 4 ?_
    exact rz (rs:=[.tmp 4]) (congrArg (fun x=>[Re.c (.int .i64 x)]) hM)
   ·
    have hM:=hM.trans (bf h4)
    refine ad 6 ?_
    refine op (cl (Q8o p0.Marks (Qek p0.Touch (Qbr p0.Answers (Qb6 p0.Calls p1)))) Yq0) ?_
    refine ad 8 ?_
    refine cd (fun h5=>?_) (fun h5=>?_)
    ·
     have hM:=hM.trans (bt h5)
     refine ad 4 ?_
     exact rz (rs:=[.tmp 4]) (congrArg (fun x=>[Re.c (.int .i64 x)]) hM)
    ·
     have hM:=hM.trans (bf h5)
     refine ad 6 ?_
     exact rz (rs:=[.tmp 4]) (congrArg (fun x=>[Re.c (.int .i64 x)]) hM)
def Qfs (p0:List Tx) (p1:Int):Nat→Int→Nat→Int
 | 0,v1,i=>v1
 | n+1,v1,i=>bif decide ((Qhd (nth p0 i) v1)<0) then(-1) else(Qfs p0 p1 n (Qhd (nth p0 i) v1) (i+1))
def Qda (p0:List Tx) (p1:Int):Int:=bif decide ((i64.wrap (p1 - (p0.length:Int)))<0) then(-1) else(Qfs p0 p1 (p0.length - 0) (i64.wrap (p1 - (p0.length:Int))) 0)
theorem Ycj (p0:List Tx) (p1:Int):CTs 32 [.o (.sl Tx instDatTx p0),.o (.c (.int .i64 p1))] [Re.c (.int .i64 (Qda p0 p1))]:=by
 refine en Tryz.func32 Tryz.ntmps32 fun w hG hgd=>?_
 obtain⟨hg_p0,_⟩:=hgd
 have hl_p0:p0.length≤9223372036854775807:=hg_p0.1
 have hM:=Qda.eq_1 p0 p1
 refine ad 18 ?_
 refine cd (fun h1=>?_) (fun h1=>?_)
 ·
  have hM:=hM.trans (bt h1)
  refine ad 4 ?_
  exact rz (rs:=[.tmp 4]) (congrArg (fun x=>[Re.c (.int .i64 x)]) hM)
 ·
  have hM:=hM.trans (bf h1)
  refine ad 7 ?_
  refine Run.loopM (ι:=Int×Nat) (fun s=>Qfs p0 p1 (p0.length - s.2) s.1 s.2) (fun s=>⟨27,1,[(0,.sl 0 p0.length),(1,.v (.int .i64 s.1)),(5,.v (.int .i64 (s.2:Int)))],[(0,.ros Tx instDatTx p0)]⟩) (fun s=>s.2≤p0.length) (fun s=>p0.length - s.2) (i64.wrap (p1 - (p0.length:Int)),0) [0] [0] hM lv0 su (by decide) ?_
  rintro ⟨v1,i⟩ hv hE
  try dsimp only at hE
  have hi:=hv
  try dsimp only at hi
  refine ad 8 ?_
  refine cd (fun h2=>?_) (fun h2=>?_)
  ·
   have h2l:i<p0.length:=by have:=of_decide_eq_true h2;omega
   have hM:=hE.trans ((congrArg (fun n=>Qfs p0 p1 n v1 i) (show p0.length - i=(p0.length - (i+1))+1 by omega)).trans (Qfs.eq_2 _ _ _ _ _))
   refine ad 7 ?_
   have hg4:=Qat (k:=i) hg_p0 om
   refine op (ix (xs:=p0) i om) ?_
   refine ad 2 ?_
   have hg5:Dat.good (nth p0 i:Tx):=hg4
   refine op (cl (Ydp (nth p0 i) v1) Yth) ?_
   refine ad 7 ?_
   refine cd (fun h6=>?_) (fun h6=>?_)
   ·
    have hM:=hM.trans (bt h6)
    refine ad 4 ?_
    exact rz (rs:=[.tmp 4]) (congrArg (fun x=>[Re.c (.int .i64 x)]) hM)
   ·
    have hM:=hM.trans (bf h6)
    refine ad 5 ?_
    rw[Qd7 (i:=i) om]
    refine ad 2 ?_
    exact Run.again ((Qhd (nth p0 i) v1),(i+1)) [0] [6] ⟨by first | omega | exact trivial | (dsimp only;omega) | (refine⟨by omega,?_⟩;simp_all;try omega),hM⟩ rfl lv1 su (by decide)
  ·
   have h2l: ¬ (i<p0.length):=by have:=of_decide_eq_false h2;omega
   have hM:=hE.trans ((congrArg (fun n=>Qfs p0 p1 n v1 i) (show p0.length - i=0 by omega)).trans (Qfs.eq_1 _ _ _ _))
   refine ad 6 ?_
   exact rz (rs:=[.tmp 4]) (congrArg (fun x=>[Re.c (.int .i64 x)]) hM)
def Qf3 (p0:Slot) (p1:Int):Int:=bif decide ((Qbi p0.Cells p1)<0) then(-1) else(Qbi p0.Cells p1)
theorem Q8n (p0:Slot) (p1:Int):CTs 144 [.o (.st Slot _ inferInstance p0),.o (.c (.int .i64 p1))] [Re.c (.int .i64 (Qf3 p0 p1))]:=by
 refine en Tryz.func144 Tryz.ntmps144 fun w hG hgd=>?_
 obtain⟨hg_p0,_⟩:=hgd
 have hM:=Qf3.eq_1 p0 p1
 refine ad 10 ?_
 refine op (cl (Qoe p0.Cells p1) Ypo) ?_
 refine ad 8 ?_
 refine cd (fun h1=>?_) (fun h1=>?_)
 ·
  have hM:=hM.trans (bt h1)
  refine ad 4 ?_
  exact rz (rs:=[.tmp 4]) (congrArg (fun x=>[Re.c (.int .i64 x)]) hM)
 ·
  have hM:=hM.trans (bf h1)
  refine ad 6 ?_
  exact rz (rs:=[.tmp 4]) (congrArg (fun x=>[Re.c (.int .i64 x)]) hM)
def Qew (p0:List Slot) (p1:Int):Nat→Int→Nat→Int
 | 0,v1,i=>v1
 | n+1,v1,i=>bif decide ((Qf3 (nth p0 i) v1)<0) then(-1) else(Qew p0 p1 n (Qf3 (nth p0 i) v1) (i+1))
def Qem (p0:List Slot) (p1:Int):Int:=bif decide ((i64.wrap (p1 - (p0.length:Int)))<0) then(-1) else(Qew p0 p1 (p0.length - 0) (i64.wrap (p1 - (p0.length:Int))) 0)
theorem Q1j (p0:List Slot) (p1:Int):CTs 76 [.o (.sl Slot instDatSlot p0),.o (.c (.int .i64 p1))] [Re.c (.int .i64 (Qem p0 p1))]:=by
 refine en Tryz.func76 Tryz.ntmps76 fun w hG hgd=>?_
 obtain⟨hg_p0,_⟩:=hgd
 have hl_p0:p0.length≤9223372036854775807:=hg_p0.1
 have hM:=Qem.eq_1 p0 p1
 refine ad 18 ?_
 refine cd (fun h1=>?_) (fun h1=>?_)
 ·
  have hM:=hM.trans (bt h1)
  refine ad 4 ?_
  exact rz (rs:=[.tmp 4]) (congrArg (fun x=>[Re.c (.int .i64 x)]) hM)
 ·
  have hM:=hM.trans (bf h1)
  refine ad 7 ?_
  refine Run.loopM (ι:=Int×Nat) (fun s=>Qew p0 p1 (p0.length - s.2) s.1 s.2) (fun s=>⟨27,1,[(0,.sl 0 p0.length),(1,.v (.int .i64 s.1)),(5,.v (.int .i64 (s.2:Int)))],[(0,.ros Slot instDatSlot p0)]⟩) (fun s=>s.2≤p0.length) (fun s=>p0.length - s.2) (i64.wrap (p1 - (p0.length:Int)),0) [0] [0] hM lv0 su (by decide) ?_
  rintro ⟨v1,i⟩ hv hE
  try dsimp only at hE
  have hi:=hv
  try dsimp only at hi
  refine ad 8 ?_
  refine cd (fun h2=>?_) (fun h2=>?_)
  ·
   have h2l:i<p0.length:=by have:=of_decide_eq_true h2;omega
   have hM:=hE.trans ((congrArg (fun n=>Qew p0 p1 n v1 i) (show p0.length - i=(p0.length - (i+1))+1 by omega)).trans (Qew.eq_2 _ _ _ _ _))
   refine ad 7 ?_
   have hg4:=Qat (k:=i) hg_p0 om
   refine op (ix (xs:=p0) i om) ?_
   refine ad 2 ?_
   have hg5:Dat.good (nth p0 i:Slot):=hg4
   refine op (cl (Q8n (nth p0 i) v1) Yqz) ?_
   refine ad 7 ?_
   refine cd (fun h6=>?_) (fun h6=>?_)
   ·
    have hM:=hM.trans (bt h6)
    refine ad 4 ?_
    exact rz (rs:=[.tmp 4]) (congrArg (fun x=>[Re.c (.int .i64 x)]) hM)
   ·
    have hM:=hM.trans (bf h6)
    refine ad 5 ?_
    rw[Qd7 (i:=i) om]
    refine ad 2 ?_
    exact Run.again ((Qf3 (nth p0 i) v1),(i+1)) [0] [2] ⟨by first | omega | exact trivial | (dsimp only;omega) | (refine⟨by omega,?_⟩;simp_all;try omega),hM⟩ rfl lv1 su (by decide)
  ·
   have h2l: ¬ (i<p0.length):=by have:=of_decide_eq_false h2;omega
   have hM:=hE.trans ((congrArg (fun n=>Qew p0 p1 n v1 i) (show p0.length - i=0 by omega)).trans (Qew.eq_1 _ _ _ _))
   refine ad 6 ?_
   exact rz (rs:=[.tmp 4]) (congrArg (fun x=>[Re.c (.int .i64 x)]) hM)
def Qfd (p0:Journal) (p1:Int):Int:=bif decide ((i64.wrap (p1 - (p0.Text.size:Int)))<0) then(-1) else(i64.wrap (p1 - (p0.Text.size:Int)))
theorem Qyf (p0:Journal) (p1:Int):CTs 77 [.o (.st Journal _ inferInstance p0),.o (.c (.int .i64 p1))] [Re.c (.int .i64 (Qfd p0 p1))]:=by
 refine en Tryz.func77 Tryz.ntmps77 fun w hG hgd=>?_
 obtain⟨hg_p0,_⟩:=hgd
 have hM:=Qfd.eq_1 p0 p1
 refine ad 20 ?_
 refine cd (fun h1=>?_) (fun h1=>?_)
 ·
  have hM:=hM.trans (bt h1)
  refine ad 4 ?_
  exact rz (rs:=[.tmp 4]) (congrArg (fun x=>[Re.c (.int .i64 x)]) hM)
 ·
  have hM:=hM.trans (bf h1)
  refine ad 6 ?_
  exact rz (rs:=[.tmp 4]) (congrArg (fun x=>[Re.c (.int .i64 x)]) hM)
def Qdi (p0:Disk) (p1:Int):Int:=bif decide ((Qem p0.Slots p1)<0) then(-1) else(bif decide ((Qfd p0.Journal (Qem p0.Slots p1))<0) then(-1) else(Qfd p0.Journal (Qem p0.Slots p1)))
theorem Q8p (p0:Disk) (p1:Int):CTs 33 [.o (.st Disk _ inferInstance p0),.o (.c (.int .i64 p1))] [Re.c (.int .i64 (Qdi p0 p1))]:=by
 refine en Tryz.func33 Tryz.ntmps33 fun w hG hgd=>?_
 obtain⟨hg_p0,_⟩:=hgd
 have hM:=Qdi.eq_1 p0 p1
 refine ad 10 ?_
 refine op (cl (Q1j p0.Slots p1) Ytg) ?_
 refine ad 8 ?_
 refine cd (fun h1=>?_) (fun h1=>?_)
 ·
  have hM:=hM.trans (bt h1)
  refine ad 4 ?_
  exact rz (rs:=[.tmp 4]) (congrArg (fun x=>[Re.c (.int .i64 x)]) hM)
 ·
  have hM:=hM.trans (bf h1)
  refine ad 6 ?_
  have hg2:Dat.good (p0.Journal:Journal):=hg_p0.2
  refine op (cl (Qyf p0.Journal (Qem p0.Slots p1)) Ytf) ?_
  refine ad 8 ?_
  refine cd (fun h3=>?_) (fun h3=>?_)
  ·
   have hM:=hM.trans (bt h3)
   refine ad 4 ?_
   exact rz (rs:=[.tmp 4]) (congrArg (fun x=>[Re.c (.int .i64 x)]) hM)
  ·
   have hM:=hM.trans (bf h3)
   refine ad 6 ?_
   exact rz (rs:=[.tmp 4]) (congrArg (fun x=>[Re.c (.int .i64 x)]) hM)
def Qf2 (p0:Step) (p1:Int):Int:=bif decide ((Qez p0.Call p1)<0) then(-1) else(Qez p0.Call p1)
theorem Q8m (p0:Step) (p1:Int):CTs 208 [.o (.st Step _ inferInstance p0),.o (.c (.int .i64 p1))] [Re.c (.int .i64 (Qf2 p0 p1))]:=by
 refine en Tryz.func208 Tryz.ntmps208 fun w hG hgd=>?_
 obtain⟨hg_p0,_⟩:=hgd
 have hM:=Qf2.eq_1 p0 p1
 refine ad 10 ?_
 have hg1:Dat.good (p0.Call:Call):=hg_p0.2
 refine op (cl (Qqp p0.Call p1) Ymq) ?_
 refine ad 8 ?_
 refine cd (fun h2=>?_) (fun h2=>?_)
 ·
  have hM:=hM.trans (bt h2)
  refine ad 4 ?_
  exact rz (rs:=[.tmp 4]) (congrArg (fun x=>[Re.c (.int .i64 x)]) hM)
 ·
  have hM:=hM.trans (bf h2)
  refine ad 6 ?_
  exact rz (rs:=[.tmp 4]) (congrArg (fun x=>[Re.c (.int .i64 x)]) hM)
def Qev (p0:List Step) (p1:Int):Nat→Int→Nat→Int
 | 0,v1,i=>v1
 | n+1,v1,i=>bif decide ((Qf2 (nth p0 i) v1)<0) then(-1) else(Qev p0 p1 n (Qf2 (nth p0 i) v1) (i+1))
def Qel (p0:List Step) (p1:Int):Int:=bif decide ((i64.wrap (p1 - (p0.length:Int)))<0) then(-1) else(Qev p0 p1 (p0.length - 0) (i64.wrap (p1 - (p0.length:Int))) 0)
theorem Q1i (p0:List Step) (p1:Int):CTs 145 [.o (.sl Step instDatStep p0),.o (.c (.int .i64 p1))] [Re.c (.int .i64 (Qel p0 p1))]:=by
 refine en Tryz.func145 Tryz.ntmps145 fun w hG hgd=>?_
 obtain⟨hg_p0,_⟩:=hgd
 have hl_p0:p0.length≤9223372036854775807:=hg_p0.1
 have hM:=Qel.eq_1 p0 p1
 refine ad 18 ?_
 refine cd (fun h1=>?_) (fun h1=>?_)
 ·
  have hM:=hM.trans (bt h1)
  refine ad 4 ?_
  exact rz (rs:=[.tmp 4]) (congrArg (fun x=>[Re.c (.int .i64 x)]) hM)
 ·
  have hM:=hM.trans (bf h1)
  refine ad 7 ?_
  refine Run.loopM (ι:=Int×Nat) (fun s=>Qev p0 p1 (p0.length - s.2) s.1 s.2) (fun s=>⟨27,1,[(0,.sl 0 p0.length),(1,.v (.int .i64 s.1)),(5,.v (.int .i64 (s.2:Int)))],[(0,.ros Step instDatStep p0)]⟩) (fun s=>s.2≤p0.length) (fun s=>p0.length - s.2) (i64.wrap (p1 - (p0.length:Int)),0) [0] [0] hM lv0 su (by decide) ?_
  rintro ⟨v1,i⟩ hv hE
  try dsimp only at hE
  have hi:=hv
  try dsimp only at hi
  refine ad 8 ?_
  refine cd (fun h2=>?_) (fun h2=>?_)
  ·
   have h2l:i<p0.length:=by have:=of_decide_eq_true h2;omega
   have hM:=hE.trans ((congrArg (fun n=>Qev p0 p1 n v1 i) (show p0.length - i=(p0.length - (i+1))+1 by omega)).trans (Qev.eq_2 _ _ _ _ _))
   refine ad 7 ?_
   have hg4:=Qat (k:=i) hg_p0 om
   refine op (ix (xs:=p0) i om) ?_
   refine ad 2 ?_
   have hg5:Dat.good (nth p0 i:Step):=hg4
   refine op (cl (Q8m (nth p0 i) v1) Yp9) ?_
   refine ad 7 ?_
   refine cd (fun h6=>?_) (fun h6=>?_)
   ·
    have hM:=hM.trans (bt h6)
    refine ad 4 ?_
    exact rz (rs:=[.tmp 4]) (congrArg (fun x=>[Re.c (.int .i64 x)]) hM)
   ·
    have hM:=hM.trans (bf h6)
    refine ad 5 ?_
    rw[Qd7 (i:=i) om]
    refine ad 2 ?_
    exact Run.again ((Qf2 (nth p0 i) v1),(i+1)) [0] [1] ⟨by first | omega | exact trivial | (dsimp only;omega) | (refine⟨by omega,?_⟩;simp_all;try omega),hM⟩ rfl lv1 su (by decide)
  ·
   have h2l: ¬ (i<p0.length):=by have:=of_decide_eq_false h2;omega
   have hM:=hE.trans ((congrArg (fun n=>Qev p0 p1 n v1 i) (show p0.length - i=0 by omega)).trans (Qev.eq_1 _ _ _ _))
   refine ad 6 ?_
   exact rz (rs:=[.tmp 4]) (congrArg (fun x=>[Re.c (.int .i64 x)]) hM)
def Qfg (p0:Entry) (p1:Int):Int:=bif decide ((Qel p0.Steps p1)<0) then(-1) else(bif decide ((Qbr p0.Answers (Qel p0.Steps p1))<0) then(-1) else(Qbr p0.Answers (Qel p0.Steps p1)))
theorem Q1k (p0:Entry) (p1:Int):CTs 78 [.o (.st Entry _ inferInstance p0),.o (.c (.int .i64 p1))] [Re.c (.int .i64 (Qfg p0 p1))]:=by
 refine en Tryz.func78 Tryz.ntmps78 fun w hG hgd=>?_
 obtain⟨hg_p0,_⟩:=hgd
 have hM:=Qfg.eq_1 p0 p1
 refine ad 10 ?_
 refine op (cl (Q1i p0.Steps p1) Yqy) ?_
 refine ad 8 ?_
 refine cd (fun h1=>?_) (fun h1=>?_)
 ·
  have hM:=hM.trans (bt h1)
  refine ad 4 ?_
  exact rz (rs:=[.tmp 4]) (congrArg (fun x=>[Re.c (.int .i64 x)]) hM)
 ·
  have hM:=hM.trans (bf h1)
  refine ad 6 ?_
  refine op (cl (Qmk p0.Answers (Qel p0.Steps p1)) Ymz) ?_
  refine ad 8 ?_
  refine cd (fun h2=>?_) (fun h2=>?_)
  ·
   have hM:=hM.trans (bt h2)
   refine ad 4 ?_
   exact rz (rs:=[.tmp 4]) (congrArg (fun x=>[Re.c (.int .i64 x)]) hM)
  ·
   have hM:=hM.trans (bf h2)
   refine ad 6 ?_
   exact rz (rs:=[.tmp 4]) (congrArg (fun x=>[Re.c (.int .i64 x)]) hM)
def Qeg (p0:List Entry) (p1:Int):Nat→Int→Nat→Int
 | 0,v1,i=>v1
 | n+1,v1,i=>bif decide ((Qfg (nth p0 i) v1)<0) then(-1) else(Qeg p0 p1 n (Qfg (nth p0 i) v1) (i+1))
def Qdw (p0:List Entry) (p1:Int):Int:=bif decide ((i64.wrap (p1 - (p0.length:Int)))<0) then(-1) else(Qeg p0 p1 (p0.length - 0) (i64.wrap (p1 - (p0.length:Int))) 0)
theorem Qz8 (p0:List Entry) (p1:Int):CTs 34 [.o (.sl Entry instDatEntry p0),.o (.c (.int .i64 p1))] [Re.c (.int .i64 (Qdw p0 p1))]:=by
 refine en Tryz.func34 Tryz.ntmps34 fun w hG hgd=>?_
 obtain⟨hg_p0,_⟩:=hgd
 have hl_p0:p0.length≤9223372036854775807:=hg_p0.1
 have hM:=Qdw.eq_1 p0 p1
 refine ad 18 ?_
 refine cd (fun h1=>?_) (fun h1=>?_)
 ·
  have hM:=hM.trans (bt h1)
  refine ad 4 ?_
  exact rz (rs:=[.tmp 4]) (congrArg (fun x=>[Re.c (.int .i64 x)]) hM)
 ·
  have hM:=hM.trans (bf h1)
  refine ad 7 ?_
  refine Run.loopM (ι:=Int×Nat) (fun s=>Qeg p0 p1 (p0.length - s.2) s.1 s.2) (fun s=>⟨27,1,[(0,.sl 0 p0.length),(1,.v (.int .i64 s.1)),(5,.v (.int .i64 (s.2:Int)))],[(0,.ros Entry instDatEntry p0)]⟩) (fun s=>s.2≤p0.length) (fun s=>p0.length - s.2) (i64.wrap (p1 - (p0.length:Int)),0) [0] [0] hM lv0 su (by decide) ?_
  rintro ⟨v1,i⟩ hv hE
  try dsimp only at hE
  have hi:=hv
  try dsimp only at hi
  refine ad 8 ?_
  refine cd (fun h2=>?_) (fun h2=>?_)
  ·
   have h2l:i<p0.length:=by have:=of_decide_eq_true h2;omega
   have hM:=hE.trans ((congrArg (fun n=>Qeg p0 p1 n v1 i) (show p0.length - i=(p0.length - (i+1))+1 by omega)).trans (Qeg.eq_2 _ _ _ _ _))
   refine ad 7 ?_
   have hg4:=Qat (k:=i) hg_p0 om
   refine op (ix (xs:=p0) i om) ?_
   refine ad 2 ?_
   have hg5:Dat.good (nth p0 i:Entry):=hg4
   refine op (cl (Q1k (nth p0 i) v1) Yte) ?_
   refine ad 7 ?_
   refine cd (fun h6=>?_) (fun h6=>?_)
   ·
    have hM:=hM.trans (bt h6)
    refine ad 4 ?_
    exact rz (rs:=[.tmp 4]) (congrArg (fun x=>[Re.c (.int .i64 x)]) hM)
   ·
    have hM:=hM.trans (bf h6)
    refine ad 5 ?_
    rw[Qd7 (i:=i) om]
    refine ad 2 ?_
    exact Run.again ((Qfg (nth p0 i) v1),(i+1)) [0] [3] ⟨by first | omega | exact trivial | (dsimp only;omega) | (refine⟨by omega,?_⟩;simp_all;try omega),hM⟩ rfl lv1 su (by decide)
  ·
   have h2l: ¬ (i<p0.length):=by have:=of_decide_eq_false h2;omega
   have hM:=hE.trans ((congrArg (fun n=>Qeg p0 p1 n v1 i) (show p0.length - i=0 by omega)).trans (Qeg.eq_1 _ _ _ _))
   refine ad 6 ?_
   exact rz (rs:=[.tmp 4]) (congrArg (fun x=>[Re.c (.int .i64 x)]) hM)
def Qgd (p0:Kernel) (p1:Int):Int:=bif decide ((Qbi p0.Store p1)<0) then(-1) else(bif decide ((Qda p0.Txs (Qbi p0.Store p1))<0) then(-1) else(bif decide ((Qdi p0.Disk (Qda p0.Txs (Qbi p0.Store p1)))<0) then(-1) else(bif decide ((Qdw p0.History (Qdi p0.Disk (Qda p0.Txs (Qbi p0.Store p1))))<0) then(-1) else(bif decide ((Qbv p0.Seen (Qdw p0.History (Qdi p0.Disk (Qda p0.Txs (Qbi p0.Store p1)))))<0) then(-1) else(Qbv p0.Seen (Qdw p0.History (Qdi p0.Disk (Qda p0.Txs (Qbi p0.Store p1)))))))))
theorem Qz7 (p0:Kernel) (p1:Int):CTs 9 [.o (.st Kernel _ inferInstance p0),.o (.c (.int .i64 p1))] [Re.c (.int .i64 (Qgd p0 p1))]:=by
 refine en Tryz.func9 Tryz.ntmps9 fun w hG hgd=>?_
 obtain⟨hg_p0,_⟩:=hgd
 have hM:=Qgd.eq_1 p0 p1
 refine ad 10 ?_
 refine op (cl (Qoe p0.Store p1) Ypo) ?_
 refine ad 8 ?_
 refine cd (fun h1=>?_) (fun h1=>?_)
 ·
  have hM:=hM.trans (bt h1)
  refine ad 4 ?_
  exact rz (rs:=[.tmp 4]) (congrArg (fun x=>[Re.c (.int .i64 x)]) hM)
 ·
  have hM:=hM.trans (bf h1)
  refine ad 6 ?_
  refine op (cl (Ycj p0.Txs (Qbi p0.Store p1)) Yt5) ?_
  refine ad 8 ?_
  refine cd (fun h2=>?_) (fun h2=>?_)
  ·
   have hM:=hM.trans (bt h2)
   refine ad 4 ?_
   exact rz (rs:=[.tmp 4]) (congrArg (fun x=>[Re.c (.int .i64 x)]) hM)
  ·
   have hM:=hM.trans (bf h2)
   refine ad 6 ?_
   have hg3:Dat.good (p0.Disk:Disk):=hg_p0.2.2.1
   refine op (cl (Q8p p0.Disk (Qda p0.Txs (Qbi p0.Store p1))) Yt4) ?_
   refine ad 8 ?_
   refine cd (fun h4=>?_) (fun h4=>?_)
   ·
    have hM:=hM.trans (bt h4)
    refine ad 4 ?_
    exact rz (rs:=[.tmp 4]) (congrArg (fun x=>[Re.c (.int .i64 x)]) hM)
   ·
    have hM:=hM.trans (bf h4)
    refine ad 6 ?_
    refine op (cl (Qz8 p0.History (Qdi p0.Disk (Qda p0.Txs (Qbi p0.Store p1)))) Yt3) ?_
    refine ad 8 ?_
    refine cd (fun h5=>?_) (fun h5=>?_)
    ·
     have hM:=hM.trans (bt h5)
     refine ad 4 ?_
     exact rz (rs:=[.tmp 4]) (congrArg (fun x=>[Re.c (.int .i64 x)]) hM)
    ·
     have hM:=hM.trans (bf h5)
     refine ad 6 ?_
     refine op (cl (Qjo p0.Seen (Qdw p0.History (Qdi p0.Disk (Qda p0.Txs (Qbi p0.Store p1))))) Ynw) ?_
     refine ad 8 ?_
     refine cd (fun h6=>?_) (fun h6=>?_)
     ·
      have hM:=hM.trans (bt h6)
      refine ad 4 ?_
      exact rz (rs:=[.tmp 4]) (congrArg (fun x=>[Re.c (.int .i64 x)]) hM)
     ·
      have hM:=hM.trans (bf h6)
      refine ad 6 ?_
      exact rz (rs:=[.tmp 4]) (congrArg (fun x=>[Re.c (.int .i64 x)]) hM)
end
section
theorem Ymd {α:Type} [Inhabited α] {xs:List α} {i:Nat} {x:α} (h:xs[i]?=some x):nth xs i=x:=by
 simp[nth,List.getD_eq_getElem?_getD,h]
def szL {α:Type} [Inhabited α] (f:α→Int→Int) (xs:List α):Nat→Int→Nat→Int
 | 0,s,_=>s
 | n+1,s,i=>bif decide (f (nth xs i) s<0) then(-1) else szL f xs n (f (nth xs i) s) (i+1)
theorem Qi5 {α:Type} [Inhabited α] [Dat α] {f:α→Int→Int} {xs:List α} (hf: ∀ x s,0≤s→s≤1048576→Dat.good x→ ¬ f x s<0→Dat.small 1048576 x∧0≤f x s∧f x s≤1048576) (hg: ∀ x∈xs,Dat.good x):
  ∀ (n:Nat) (s:Int) (i:Nat),n=xs.length - i→0≤s→s≤1048576→ ¬ szL f xs n s i<0→(∀ j x,i≤j→xs[j]?=some x→Dat.small 1048576 x)∧0≤szL f xs n s i∧szL f xs n s i≤1048576:=by
 intro n
 induction n with
 | zero =>
  intro s i hn h0 h1 _
  refine⟨fun j x hj hx=>?_,h0,h1⟩
  have:=(List.getElem?_eq_some_iff.1 hx).1
  omega
 | succ n ih =>
  intro s i hn h0 h1 h
  unfold szL at h ⊢
  by_cases hc:f (nth xs i) s<0
  ·rw[decide_eq_true hc] at h
   exact absurd (show((-1:Int))<0 by decide) h
  ·rw[decide_eq_false hc] at h ⊢
   have hi:i<xs.length:=by omega
   have hx:xs[i]?=some xs[i]:=List.getElem?_eq_getElem hi
   have hgi:Dat.good (nth xs i):=by rw[Ymd hx];exact hg _ (List.getElem_mem hi)
   obtain⟨h2,h3,h4⟩:=hf _ _ h0 h1 hgi hc
   obtain⟨h5,h6,h7⟩:=ih _ (i+1) (by omega) h3 h4 h
   refine⟨fun j x hj hjx=>?_,h6,h7⟩
   by_cases e:j=i
   ·subst e
    rw[←Ymd hjx]
    exact h2
   ·exact h5 j x (by omega) hjx
theorem Qkw {s:ByteArray} (h:Dat.good s):s.size≤9223372036854775807:=by
 have h':s.size≤maxLen:=h
 unfold maxLen at h'
 omega
theorem Qf9 {a:Int} {n:Nat} (h0:0≤a) (h1:a≤1048576) (hn:n≤9223372036854775807):i64.wrap (a - (n:Int))=a - n:=IntWalk.i64_in _ (by omega)
def Qho (x:ByteArray) (s:Int):Int:=i64.wrap (s - (x.size:Int))
theorem Qou (p0:ByteArray) (p1:Int) (h0:0≤p1) (h1:p1≤1048576) (hg:Dat.good p0) (h: ¬ Qho p0 p1<0):Dat.small 1048576 p0∧0≤Qho p0 p1∧Qho p0 p1≤1048576:=by
 unfold Qho at h ⊢
 rw[Qf9 h0 h1 (Qkw hg)] at h ⊢
 have e:p0.size≤1048576:=by omega
 exact⟨e,by omega,by omega⟩
theorem Qfm {a:Int} {x:Int} (h: ¬ (bif decide (a<0) then(-1:Int) else x)<0): ¬ a<0:=fun hc=>h (by rw[decide_eq_true hc];show(-1:Int)<0;decide)
theorem Qrf (p0:Cell) (p1:Int) (h0:0≤p1) (h1:p1≤1048576) (hg:Dat.good p0) (h: ¬ Qf4 p0 p1<0):Dat.small 1048576 p0∧0≤Qf4 p0 p1∧Qf4 p0 p1≤1048576:=by
 unfold Qf4 at h ⊢
 obtain⟨g0,g1⟩:=hg
 rw[Qf9 (a:=p1) h0 h1 (n:=p0.Key.size) (Qkw g0)] at h ⊢
 have c1: ¬ (p1 - (p0.Key.size:Int))<0:=Qfm h
 rw[decide_eq_false c1,cond_false] at h ⊢
 have b1:0≤(p1 - (p0.Key.size:Int)):=by omega
 have e1:(p1 - (p0.Key.size:Int))≤1048576:=by omega
 have s0:p0.Key.size≤1048576:=by omega
 rw[Qf9 (a:=(p1 - (p0.Key.size:Int))) b1 e1 (n:=p0.Val.size) (Qkw g1)] at h ⊢
 have c2: ¬ ((p1 - (p0.Key.size:Int)) - (p0.Val.size:Int))<0:=Qfm h
 rw[decide_eq_false c2,cond_false] at h ⊢
 have b2:0≤((p1 - (p0.Key.size:Int)) - (p0.Val.size:Int)):=by omega
 have e2:((p1 - (p0.Key.size:Int)) - (p0.Val.size:Int))≤1048576:=by omega
 have s1:p0.Val.size≤1048576:=by omega
 exact⟨⟨s0,s1⟩,b2,e2⟩
theorem Qpz (p0:List Cell) (p1:Int): ∀ n s i,Qex p0 p1 n s i=szL Qf4 p0 n s i:=by
 intro n
 induction n with
 | zero=>intro s i;rfl
 | succ n ih=>intro s i;rw[Qex,szL,ih]
theorem Qks (p0:List Cell) (p1:Int) (h0:0≤p1) (h1:p1≤1048576) (hg:Dat.good p0) (h: ¬ Qbi p0 p1<0):Dat.small 1048576 p0∧0≤Qbi p0 p1∧Qbi p0 p1≤1048576:=by
 unfold Qbi at h ⊢
 rw[Qf9 h0 h1 hg.1] at h ⊢
 have hc:=Qfm h
 rw[decide_eq_false hc,cond_false,Qpz] at h ⊢
 obtain⟨h2,h3,h4⟩:=Qi5 (f:=Qf4) (xs:=p0) Qrf hg.2 _ _ 0 rfl (by omega) (by omega) h
 refine⟨⟨by omega,fun x hx=>?_⟩,h3,h4⟩
 obtain⟨j,hj⟩:=List.getElem?_of_mem hx
 exact h2 j x (Nat.zero_le _) hj
theorem Qll (p0:Call) (p1:Int) (h0:0≤p1) (h1:p1≤1048576) (hg:Dat.good p0) (h: ¬ Qez p0 p1<0):Dat.small 1048576 p0∧0≤Qez p0 p1∧Qez p0 p1≤1048576:=by
 unfold Qez at h ⊢
 obtain⟨g0,g1,g2,g3,g4,g5⟩:=hg
 rw[Qf9 (a:=p1) h0 h1 (n:=p0.Name.size) (Qkw g1)] at h ⊢
 have c1: ¬ (p1 - (p0.Name.size:Int))<0:=Qfm h
 rw[decide_eq_false c1,cond_false] at h ⊢
 have b1:0≤(p1 - (p0.Name.size:Int)):=by omega
 have e1:(p1 - (p0.Name.size:Int))≤1048576:=by omega
 have s1:p0.Name.size≤1048576:=by omega
 rw[Qf9 (a:=(p1 - (p0.Name.size:Int))) b1 e1 (n:=p0.To.size) (Qkw g2)] at h ⊢
 have c2: ¬ ((p1 - (p0.Name.size:Int)) - (p0.To.size:Int))<0:=Qfm h
 rw[decide_eq_false c2,cond_false] at h ⊢
 have b2:0≤((p1 - (p0.Name.size:Int)) - (p0.To.size:Int)):=by omega
 have e2:((p1 - (p0.Name.size:Int)) - (p0.To.size:Int))≤1048576:=by omega
 have s2:p0.To.size≤1048576:=by omega
 rw[Qf9 (a:=((p1 - (p0.Name.size:Int)) - (p0.To.size:Int))) b2 e2 (n:=p0.Text.size) (Qkw g5)] at h ⊢
 have c3: ¬ (((p1 - (p0.Name.size:Int)) - (p0.To.size:Int)) - (p0.Text.size:Int))<0:=Qfm h
 rw[decide_eq_false c3,cond_false] at h ⊢
 have b3:0≤(((p1 - (p0.Name.size:Int)) - (p0.To.size:Int)) - (p0.Text.size:Int)):=by omega
 have e3:(((p1 - (p0.Name.size:Int)) - (p0.To.size:Int)) - (p0.Text.size:Int))≤1048576:=by omega
 have s5:p0.Text.size≤1048576:=by omega
 exact⟨⟨trivial,s1,s2,trivial,trivial,s5⟩,b3,e3⟩
theorem Qp1 (p0:List Call) (p1:Int): ∀ n s i,Qey p0 p1 n s i=szL Qez p0 n s i:=by
 intro n
 induction n with
 | zero=>intro s i;rfl
 | succ n ih=>intro s i;rw[Qey,szL,ih]
theorem Qp0 (p0:List Call) (p1:Int) (h0:0≤p1) (h1:p1≤1048576) (hg:Dat.good p0) (h: ¬ Qb6 p0 p1<0):Dat.small 1048576 p0∧0≤Qb6 p0 p1∧Qb6 p0 p1≤1048576:=by
 unfold Qb6 at h ⊢
 rw[Qf9 h0 h1 hg.1] at h ⊢
 have hc:=Qfm h
 rw[decide_eq_false hc,cond_false,Qp1] at h ⊢
 obtain⟨h2,h3,h4⟩:=Qi5 (f:=Qez) (xs:=p0) Qll hg.2 _ _ 0 rfl (by omega) (by omega) h
 refine⟨⟨by omega,fun x hx=>?_⟩,h3,h4⟩
 obtain⟨j,hj⟩:=List.getElem?_of_mem hx
 exact h2 j x (Nat.zero_le _) hj
theorem Qox (p0:Answer) (p1:Int) (h0:0≤p1) (h1:p1≤1048576) (hg:Dat.good p0) (h: ¬ Qe0 p0 p1<0):Dat.small 1048576 p0∧0≤Qe0 p0 p1∧Qe0 p0 p1≤1048576:=by
 unfold Qe0 at h ⊢
 obtain⟨g0,g1,g2⟩:=hg
 rw[Qf9 (a:=p1) h0 h1 (n:=p0.Text.size) (Qkw g2)] at h ⊢
 have c1: ¬ (p1 - (p0.Text.size:Int))<0:=Qfm h
 rw[decide_eq_false c1,cond_false] at h ⊢
 have b1:0≤(p1 - (p0.Text.size:Int)):=by omega
 have e1:(p1 - (p0.Text.size:Int))≤1048576:=by omega
 have s2:p0.Text.size≤1048576:=by omega
 exact⟨⟨trivial,trivial,s2⟩,b1,e1⟩
theorem Qny (p0:List Answer) (p1:Int): ∀ n s i,Qdx p0 p1 n s i=szL Qe0 p0 n s i:=by
 intro n
 induction n with
 | zero=>intro s i;rfl
 | succ n ih=>intro s i;rw[Qdx,szL,ih]
theorem Qjr (p0:List Answer) (p1:Int) (h0:0≤p1) (h1:p1≤1048576) (hg:Dat.good p0) (h: ¬ Qbr p0 p1<0):Dat.small 1048576 p0∧0≤Qbr p0 p1∧Qbr p0 p1≤1048576:=by
 unfold Qbr at h ⊢
 rw[Qf9 h0 h1 hg.1] at h ⊢
 have hc:=Qfm h
 rw[decide_eq_false hc,cond_false,Qny] at h ⊢
 obtain⟨h2,h3,h4⟩:=Qi5 (f:=Qe0) (xs:=p0) Qox hg.2 _ _ 0 rfl (by omega) (by omega) h
 refine⟨⟨by omega,fun x hx=>?_⟩,h3,h4⟩
 obtain⟨j,hj⟩:=List.getElem?_of_mem hx
 exact h2 j x (Nat.zero_le _) hj
theorem Qnw (p0:List ByteArray) (p1:Int): ∀ n s i,Qdv p0 p1 n s i=szL Qho p0 n s i:=by
 intro n
 induction n with
 | zero=>intro s i;rfl
 | succ n ih=>intro s i;rw[Qdv,szL,ih];rfl
theorem Qhs (p0:List ByteArray) (p1:Int) (h0:0≤p1) (h1:p1≤1048576) (hg:Dat.good p0) (h: ¬ Qbv p0 p1<0):Dat.small 1048576 p0∧0≤Qbv p0 p1∧Qbv p0 p1≤1048576:=by
 unfold Qbv at h ⊢
 rw[Qf9 h0 h1 hg.1] at h ⊢
 have hc:=Qfm h
 rw[decide_eq_false hc,cond_false,Qnw] at h ⊢
 obtain⟨h2,h3,h4⟩:=Qi5 (f:=Qho) (xs:=p0) Qou hg.2 _ _ 0 rfl (by omega) (by omega) h
 refine⟨⟨by omega,fun x hx=>?_⟩,h3,h4⟩
 obtain⟨j,hj⟩:=List.getElem?_of_mem hx
 exact h2 j x (Nat.zero_le _) hj
theorem Qpt (p0:Touch) (p1:Int) (h0:0≤p1) (h1:p1≤1048576) (hg:Dat.good p0) (h: ¬ Qek p0 p1<0):Dat.small 1048576 p0∧0≤Qek p0 p1∧Qek p0 p1≤1048576:=by
 unfold Qek at h ⊢
 obtain⟨g0,g1⟩:=hg
 have c1: ¬ (Qbv p0.Reads p1)<0:=Qfm h
 rw[decide_eq_false c1,cond_false] at h ⊢
 obtain⟨s0,b1,e1⟩:=Qhs p0.Reads p1 h0 h1 g0 c1
 have c2: ¬ (Qbv p0.Writes (Qbv p0.Reads p1))<0:=Qfm h
 rw[decide_eq_false c2,cond_false] at h ⊢
 obtain⟨s1,b2,e2⟩:=Qhs p0.Writes (Qbv p0.Reads p1) b1 e1 g1 c2
 exact⟨⟨s0,s1⟩,b2,e2⟩
theorem Qrd (p0:List Int) (p1:Int) (h0:0≤p1) (h1:p1≤1048576) (hg:Dat.good p0) (h: ¬ Qgy p0 p1<0):Dat.small 1048576 p0∧0≤Qgy p0 p1∧Qgy p0 p1≤1048576:=by
 unfold Qgy at h ⊢
 rw[Qf9 h0 h1 hg.1] at h ⊢
 have hc:=Qfm h
 rw[decide_eq_false hc] at h ⊢
 exact⟨⟨by omega,fun _ _=>trivial⟩,by show 0≤p1 - (p0.length:Int);omega,by show p1 - (p0.length:Int)≤1048576;omega⟩
theorem Qzk (p0:Tx) (p1:Int) (h0:0≤p1) (h1:p1≤1048576) (hg:Dat.good p0) (h: ¬ Qhd p0 p1<0):Dat.small 1048576 p0∧0≤Qhd p0 p1∧Qhd p0 p1≤1048576:=by
 unfold Qhd at h ⊢
 obtain⟨g0,g1,g2,g3,g4,g5,g6,g7,g8⟩:=hg
 have c1: ¬ (Qb6 p0.Calls p1)<0:=Qfm h
 rw[decide_eq_false c1,cond_false] at h ⊢
 obtain⟨s4,b1,e1⟩:=Qp0 p0.Calls p1 h0 h1 g4 c1
 have c2: ¬ (Qbr p0.Answers (Qb6 p0.Calls p1))<0:=Qfm h
 rw[decide_eq_false c2,cond_false] at h ⊢
 obtain⟨s5,b2,e2⟩:=Qjr p0.Answers (Qb6 p0.Calls p1) b1 e1 g5 c2
 have c3: ¬ (Qek p0.Touch (Qbr p0.Answers (Qb6 p0.Calls p1)))<0:=Qfm h
 rw[decide_eq_false c3,cond_false] at h ⊢
 obtain⟨s6,b3,e3⟩:=Qpt p0.Touch (Qbr p0.Answers (Qb6 p0.Calls p1)) b2 e2 g6 c3
 have c4: ¬ (Qgy p0.Marks (Qek p0.Touch (Qbr p0.Answers (Qb6 p0.Calls p1))))<0:=Qfm h
 rw[decide_eq_false c4,cond_false] at h ⊢
 obtain⟨s7,b4,e4⟩:=Qrd p0.Marks (Qek p0.Touch (Qbr p0.Answers (Qb6 p0.Calls p1))) b3 e3 g7 c4
 exact⟨⟨trivial,trivial,trivial,trivial,s4,s5,s6,s7,trivial⟩,b4,e4⟩
theorem Qx1 (p0:List Tx) (p1:Int): ∀ n s i,Qfs p0 p1 n s i=szL Qhd p0 n s i:=by
 intro n
 induction n with
 | zero=>intro s i;rfl
 | succ n ih=>intro s i;rw[Qfs,szL,ih]
theorem Qx0 (p0:List Tx) (p1:Int) (h0:0≤p1) (h1:p1≤1048576) (hg:Dat.good p0) (h: ¬ Qda p0 p1<0):Dat.small 1048576 p0∧0≤Qda p0 p1∧Qda p0 p1≤1048576:=by
 unfold Qda at h ⊢
 rw[Qf9 h0 h1 hg.1] at h ⊢
 have hc:=Qfm h
 rw[decide_eq_false hc,cond_false,Qx1] at h ⊢
 obtain⟨h2,h3,h4⟩:=Qi5 (f:=Qhd) (xs:=p0) Qzk hg.2 _ _ 0 rfl (by omega) (by omega) h
 refine⟨⟨by omega,fun x hx=>?_⟩,h3,h4⟩
 obtain⟨j,hj⟩:=List.getElem?_of_mem hx
 exact h2 j x (Nat.zero_le _) hj
theorem Qrc (p0:Slot) (p1:Int) (h0:0≤p1) (h1:p1≤1048576) (hg:Dat.good p0) (h: ¬ Qf3 p0 p1<0):Dat.small 1048576 p0∧0≤Qf3 p0 p1∧Qf3 p0 p1≤1048576:=by
 unfold Qf3 at h ⊢
 obtain⟨g0,g1,g2⟩:=hg
 have c1: ¬ (Qbi p0.Cells p1)<0:=Qfm h
 rw[decide_eq_false c1,cond_false] at h ⊢
 obtain⟨s1,b1,e1⟩:=Qks p0.Cells p1 h0 h1 g1 c1
 exact⟨⟨trivial,s1,trivial⟩,b1,e1⟩
theorem Qpx (p0:List Slot) (p1:Int): ∀ n s i,Qew p0 p1 n s i=szL Qf3 p0 n s i:=by
 intro n
 induction n with
 | zero=>intro s i;rfl
 | succ n ih=>intro s i;rw[Qew,szL,ih]
theorem Qpw (p0:List Slot) (p1:Int) (h0:0≤p1) (h1:p1≤1048576) (hg:Dat.good p0) (h: ¬ Qem p0 p1<0):Dat.small 1048576 p0∧0≤Qem p0 p1∧Qem p0 p1≤1048576:=by
 unfold Qem at h ⊢
 rw[Qf9 h0 h1 hg.1] at h ⊢
 have hc:=Qfm h
 rw[decide_eq_false hc,cond_false,Qpx] at h ⊢
 obtain⟨h2,h3,h4⟩:=Qi5 (f:=Qf3) (xs:=p0) Qrc hg.2 _ _ 0 rfl (by omega) (by omega) h
 refine⟨⟨by omega,fun x hx=>?_⟩,h3,h4⟩
 obtain⟨j,hj⟩:=List.getElem?_of_mem hx
 exact h2 j x (Nat.zero_le _) hj
theorem Qnx (p0:Journal) (p1:Int) (h0:0≤p1) (h1:p1≤1048576) (hg:Dat.good p0) (h: ¬ Qfd p0 p1<0):Dat.small 1048576 p0∧0≤Qfd p0 p1∧Qfd p0 p1≤1048576:=by
 unfold Qfd at h ⊢
 obtain⟨g0,g1⟩:=hg
 rw[Qf9 (a:=p1) h0 h1 (n:=p0.Text.size) (Qkw g0)] at h ⊢
 have c1: ¬ (p1 - (p0.Text.size:Int))<0:=Qfm h
 rw[decide_eq_false c1,cond_false] at h ⊢
 have b1:0≤(p1 - (p0.Text.size:Int)):=by omega
 have e1:(p1 - (p0.Text.size:Int))≤1048576:=by omega
 have s0:p0.Text.size≤1048576:=by omega
 exact⟨⟨s0,trivial⟩,b1,e1⟩
theorem Qre (p0:Disk) (p1:Int) (h0:0≤p1) (h1:p1≤1048576) (hg:Dat.good p0) (h: ¬ Qdi p0 p1<0):Dat.small 1048576 p0∧0≤Qdi p0 p1∧Qdi p0 p1≤1048576:=by
 unfold Qdi at h ⊢
 obtain⟨g0,g1⟩:=hg
 have c1: ¬ (Qem p0.Slots p1)<0:=Qfm h
 rw[decide_eq_false c1,cond_false] at h ⊢
 obtain⟨s0,b1,e1⟩:=Qpw p0.Slots p1 h0 h1 g0 c1
 have c2: ¬ (Qfd p0.Journal (Qem p0.Slots p1))<0:=Qfm h
 rw[decide_eq_false c2,cond_false] at h ⊢
 obtain⟨s1,b2,e2⟩:=Qnx p0.Journal (Qem p0.Slots p1) b1 e1 g1 c2
 exact⟨⟨s0,s1⟩,b2,e2⟩
theorem Qrb (p0:Step) (p1:Int) (h0:0≤p1) (h1:p1≤1048576) (hg:Dat.good p0) (h: ¬ Qf2 p0 p1<0):Dat.small 1048576 p0∧0≤Qf2 p0 p1∧Qf2 p0 p1≤1048576:=by
 unfold Qf2 at h ⊢
 obtain⟨g0,g1⟩:=hg
 have c1: ¬ (Qez p0.Call p1)<0:=Qfm h
 rw[decide_eq_false c1,cond_false] at h ⊢
 obtain⟨s1,b1,e1⟩:=Qll p0.Call p1 h0 h1 g1 c1
 exact⟨⟨trivial,s1⟩,b1,e1⟩
theorem Qpv (p0:List Step) (p1:Int): ∀ n s i,Qev p0 p1 n s i=szL Qf2 p0 n s i:=by
 intro n
 induction n with
 | zero=>intro s i;rfl
 | succ n ih=>intro s i;rw[Qev,szL,ih]
theorem Qpu (p0:List Step) (p1:Int) (h0:0≤p1) (h1:p1≤1048576) (hg:Dat.good p0) (h: ¬ Qel p0 p1<0):Dat.small 1048576 p0∧0≤Qel p0 p1∧Qel p0 p1≤1048576:=by
 unfold Qel at h ⊢
 rw[Qf9 h0 h1 hg.1] at h ⊢
 have hc:=Qfm h
 rw[decide_eq_false hc,cond_false,Qpv] at h ⊢
 obtain⟨h2,h3,h4⟩:=Qi5 (f:=Qf2) (xs:=p0) Qrb hg.2 _ _ 0 rfl (by omega) (by omega) h
 refine⟨⟨by omega,fun x hx=>?_⟩,h3,h4⟩
 obtain⟨j,hj⟩:=List.getElem?_of_mem hx
 exact h2 j x (Nat.zero_le _) hj
theorem Qpy (p0:Entry) (p1:Int) (h0:0≤p1) (h1:p1≤1048576) (hg:Dat.good p0) (h: ¬ Qfg p0 p1<0):Dat.small 1048576 p0∧0≤Qfg p0 p1∧Qfg p0 p1≤1048576:=by
 unfold Qfg at h ⊢
 obtain⟨g0,g1,g2,g3,g4,g5,g6,g7⟩:=hg
 have c1: ¬ (Qel p0.Steps p1)<0:=Qfm h
 rw[decide_eq_false c1,cond_false] at h ⊢
 obtain⟨s3,b1,e1⟩:=Qpu p0.Steps p1 h0 h1 g3 c1
 have c2: ¬ (Qbr p0.Answers (Qel p0.Steps p1))<0:=Qfm h
 rw[decide_eq_false c2,cond_false] at h ⊢
 obtain⟨s4,b2,e2⟩:=Qjr p0.Answers (Qel p0.Steps p1) b1 e1 g4 c2
 exact⟨⟨trivial,trivial,trivial,s3,s4,trivial,trivial,trivial⟩,b2,e2⟩
theorem Qow (p0:List Entry) (p1:Int): ∀ n s i,Qeg p0 p1 n s i=szL Qfg p0 n s i:=by
 intro n
 induction n with
 | zero=>intro s i;rfl
 | succ n ih=>intro s i;rw[Qeg,szL,ih]
theorem Qov (p0:List Entry) (p1:Int) (h0:0≤p1) (h1:p1≤1048576) (hg:Dat.good p0) (h: ¬ Qdw p0 p1<0):Dat.small 1048576 p0∧0≤Qdw p0 p1∧Qdw p0 p1≤1048576:=by
 unfold Qdw at h ⊢
 rw[Qf9 h0 h1 hg.1] at h ⊢
 have hc:=Qfm h
 rw[decide_eq_false hc,cond_false,Qow] at h ⊢
 obtain⟨h2,h3,h4⟩:=Qi5 (f:=Qfg) (xs:=p0) Qpy hg.2 _ _ 0 rfl (by omega) (by omega) h
 refine⟨⟨by omega,fun x hx=>?_⟩,h3,h4⟩
 obtain⟨j,hj⟩:=List.getElem?_of_mem hx
 exact h2 j x (Nat.zero_le _) hj
theorem Qj9 (p0:Kernel) (p1:Int) (h0:0≤p1) (h1:p1≤1048576) (hg:Dat.good p0) (h: ¬ Qgd p0 p1<0):Dat.small 1048576 p0∧0≤Qgd p0 p1∧Qgd p0 p1≤1048576:=by
 unfold Qgd at h ⊢
 obtain⟨g0,g1,g2,g3,g4,g5,g6,g7,g8⟩:=hg
 have c1: ¬ (Qbi p0.Store p1)<0:=Qfm h
 rw[decide_eq_false c1,cond_false] at h ⊢
 obtain⟨s0,b1,e1⟩:=Qks p0.Store p1 h0 h1 g0 c1
 have c2: ¬ (Qda p0.Txs (Qbi p0.Store p1))<0:=Qfm h
 rw[decide_eq_false c2,cond_false] at h ⊢
 obtain⟨s1,b2,e2⟩:=Qx0 p0.Txs (Qbi p0.Store p1) b1 e1 g1 c2
 have c3: ¬ (Qdi p0.Disk (Qda p0.Txs (Qbi p0.Store p1)))<0:=Qfm h
 rw[decide_eq_false c3,cond_false] at h ⊢
 obtain⟨s2,b3,e3⟩:=Qre p0.Disk (Qda p0.Txs (Qbi p0.Store p1)) b2 e2 g2 c3
 have c4: ¬ (Qdw p0.History (Qdi p0.Disk (Qda p0.Txs (Qbi p0.Store p1))))<0:=Qfm h
 rw[decide_eq_false c4,cond_false] at h ⊢
 obtain⟨s6,b4,e4⟩:=Qov p0.History (Qdi p0.Disk (Qda p0.Txs (Qbi p0.Store p1))) b3 e3 g6 c4
 have c5: ¬ (Qbv p0.Seen (Qdw p0.History (Qdi p0.Disk (Qda p0.Txs (Qbi p0.Store p1)))))<0:=Qfm h
 rw[decide_eq_false c5,cond_false] at h ⊢
 obtain⟨s7,b5,e5⟩:=Qhs p0.Seen (Qdw p0.History (Qdi p0.Disk (Qda p0.Txs (Qbi p0.Store p1)))) b4 e4 g7 c5
 exact⟨⟨s0,s1,s2,trivial,trivial,trivial,s6,s7,trivial⟩,b5,e5⟩
end
end Go.Proofs.YtppialklomgajaaGreatDoor.Fw
