/-
  The texts M1, M3, BM, VM, HZ, HP, HT of this proof, one behind the other: what each proves stands at its head. No condition.
-/
import Derived.Test.YtppialklomgajaaGreatDoorSUA
import Derived.Test.YtppialklomgajaaGreatDoorSUB
import Derived.Test.YtppialklomgajaaGreatDoorSUC
import Derived.Test.YtppialklomgajaaGreatDoorSUD
set_option linter.unusedVariables false
set_option linter.unusedSimpArgs false
set_option maxRecDepth 100000
namespace Go.Proofs.YtppialklomgajaaGreatDoor.Fw
section
open IntKind (i64)
open Go.RowKit
theorem Yo5:Qb5 Tryz.prog 114 0 0=true:=by kernel_rfl
theorem Yo4:Qb5 Tryz.prog 114 1 1=true:=by kernel_rfl
theorem Ykb:Qb5 Tryz.prog 149 0 0=true:=by kernel_rfl
theorem Yka:Qb5 Tryz.prog 149 1 1=true:=by kernel_rfl
theorem Yj9:Qb5 Tryz.prog 149 2 2=true:=by kernel_rfl
theorem Yj8:Qb5 Tryz.prog 149 3 3=true:=by kernel_rfl
theorem Yj7:Qb5 Tryz.prog 149 4 4=true:=by kernel_rfl
theorem Yj6:Qb5 Tryz.prog 149 5 5=true:=by kernel_rfl
theorem Yos:Qb5 Tryz.prog 154 0 0=true:=by kernel_rfl
theorem Yor:Qb5 Tryz.prog 154 1 1=true:=by kernel_rfl
theorem Yoq:Qb5 Tryz.prog 154 2 2=true:=by kernel_rfl
theorem fb57:Tryz.f57.body.isNone=false:=rfl
theorem fn57:(Tryz.f57.name == "runtime.NumGoroutine")=false:=by kernel_rfl
theorem one3:Qhh Tryz.prog 3=true:=by kernel_rfl
theorem one9:Qhh Tryz.prog 9=true:=by kernel_rfl
theorem Ydi:Qcq Tryz.prog 116 149 6 72=true:=by kernel_rfl
theorem sl30:Qcq Tryz.prog 30 9 1 16=true:=by kernel_rfl
theorem sl35:Qcq Tryz.prog 35 114 2 32=true:=by kernel_rfl
theorem sl78:Qcq Tryz.prog 78 154 3 32=true:=by kernel_rfl
theorem sl87:Qcq Tryz.prog 87 3 1 8=true:=by kernel_rfl
def Qeh (p0:List ByteArray) (p1:Int):Nat→Nat→Int→List ByteArray→List ByteArray×Int
 | 0,i1,s1_1,y1_m0=>(y1_m0,s1_1)
 | fu1+1,i1,s1_1,y1_m0=>Qeh p0 p1 fu1 (i1+1) (i64.wrap (s1_1+1)) (y1_m0.set i1 (Qae s1_1))
def Qad (p0:List ByteArray) (p1:Int):List ByteArray×Int:=Qeh p0 p1 (p0.length - 0) 0 p1 p0
theorem Qiq {v0:Value} (p0:List ByteArray) {F0:List Nat} (p1:Int) {w:World} (hMu0:SH (Off [Ck.own (α:=List ByteArray) [v0] p0 F0] w) w w [Ck.own (α:=List ByteArray) [v0] p0 F0]) (hi1:I64 p1):
  Calls Tryz.prog 20 [v0,.int .i64 p1].toArray w (fun e w'=>e= .returned (.int .i64 (Qad p0 p1).2)∧I64 (Qad p0 p1).2∧ ∃ F',SH (Off [Ck.own (α:=List ByteArray) [v0] p0 F0] w) w w' [Ck.own (α:=List ByteArray) [v0] (Qad p0 p1).1 F']):=by
 obtain⟨A0,cap0,rfl,hx0⟩:=(hMu0.slO (k:=0) rfl).form
 refine enter Tryz.func20 rfl Tryz.ntmps20 (Nat.le_of_ble_eq_true rfl) ?_
 intro a0 hE0
 have hS0:=hMu0
 have hM:=Qad.eq_1 p0 p1
 have hij1: -9223372036854775808≤p1∧p1≤9223372036854775807:=hi1
 refine wp_seq (wp_region_lit ?_)
 refine Qaa hE0 (Qam hE0 rfl) rfl fun a1 hE1=>wpList_nil ?_
 refine Qab ?_
 refine wp_seq (wp_seq (wp_region_lit ?_))
 refine Qaa hE1 (Qam hE1 rfl) rfl fun a2 hE2=>wpList_nil ?_
 refine Qab ?_
 refine wp_block (wp_loop_ghost (fun fu1 a w2=> ∃ (i1:Nat) (s1_1:Int) (y1_m0:List ByteArray) (Fy1_m0:List Nat),0≤i1∧fu1=p0.length - i1∧(i1≤p0.length∨i1=0)∧I64 s1_1∧Qad p0 p1=Qeh p0 p1 fu1 i1 s1_1 y1_m0∧Env 20 [(0,.slice A0 p0.length cap0),(1,.int .i64 s1_1),(5,.int .i64 (i1:Int))] a∧SH (Off [Ck.own (α:=List ByteArray) [.slice A0 p0.length cap0] p0 F0] w) w w2 [Ck.own (α:=List ByteArray) [.slice A0 p0.length cap0] y1_m0 Fy1_m0]) (p0.length - 0) ⟨0,p1,p0,F0,Nat.le_refl _,rfl,.inr rfl,hi1,hM,hE2.weaken ⟨rfl,rfl,rfl,trivial⟩,hS0⟩ ?_)
 rintro fu1 a3 w3 ⟨i1,s1_1,y1_m0,Fy1_m0,hi1,hfu1,hup1,hgis1_1,hM,hE3,hS3⟩
 have hlry1_m0:=hS3.lenrow (k:=0) rfl
 refine wp_seq (wp_seq (wp_region_lit ?_))
 refine Qaa hE3 (Qah hE3 rfl) rfl fun a4 hE4=>Qaa hE4 (Qah hE4 rfl) rfl fun a5 hE5=>Qaa hE5 (Qfq hE5 rfl sl30) rfl fun a6 hE6=>Qaa hE6 (Qom hE6 rfl rfl) rfl fun a7 hE7=>wpList_nil ?_
 refine Qab ?_
 refine Qc7 hE7 rfl (fun hb8=>?_) (fun hb8=>?_)
 ·
  have hlt1:i1<p0.length:=by have:=of_decide_eq_true hb8;omega
  obtain⟨fu1,rfl⟩: ∃ m,fu1=m+1:=⟨fu1 - 1,by omega⟩
  have hM:=hM.trans (Qeh.eq_2 _ _ _ _ _ _)
  refine wp_skip ?_
  refine Qab ?_
  refine wp_seq (wp_block (wp_seq (wp_region_lit ?_)))
  refine Qaa hE7 (Qah hE7 rfl) rfl fun a9 hE9=>Qaa hE9 (Qah hE9 rfl) rfl fun a10 hE10=>Qaa hE10 (Qah hE10 rfl) rfl fun a11 hE11=>Qhk hE11 hS3 Tryz.func57 fb57 fn57 (Qdg s1_1 hgis1_1) rfl rfl fun w12 hS12 a13 hE13=>?_
  have hlr14:=hS12.lenrow (k:=0) rfl
  obtain⟨g14,ce14,Fo14,G14,hA14,hn14,hF14⟩:=SH.focus (L:=[]) hS12 (i:=i1) (by omega)
  obtain⟨⟨rfl,hg14⟩,rfl⟩:=(show Dat.own w12 ce14 (nth y1_m0 i1) G14 from hF14.get (k:=0) rfl)
  have hS15:=hF14.drop (k:=1)
  refine Qaa hE13 (Qax (A:=⟨g14,0,none⟩) hE13 (congrArg (fun A=>some (Value.slice A p0.length cap0)) hA14) rfl (by omega) (by omega) sl30) rfl fun a16 hE16=>Qb6 (α:=ByteArray) (k:=0) hE16 hS15 [.string (Qae s1_1)] rfl rfl rfl (by rw[Int.toNat_natCast];rfl) rfl (Qbf one9) rfl rfl rfl rfl fun w17 (hS17:SH (Off [Ck.own (α:=List ByteArray) [.slice A0 p0.length cap0] p0 F0] w) w w17 [Ck.elem (α:=ByteArray) g14 i1 cap0 [.string (Qae s1_1)] y1_m0 Fo14]) a18 hE18=>wpList_nil ?_
  refine Qab ?_
  refine wp_region_lit ?_
  refine Qaa hE18 (Qah hE18 rfl) rfl fun a19 hE19=>Qaa hE19 (Qg4 hE19 rfl rfl) rfl fun a20 hE20=>Qaa hE20 (Qam hE20 rfl) rfl fun a21 hE21=>wpList_nil ?_
  refine Qfo ?_
  refine Qab ?_
  refine wp_region_lit ?_
  refine Qaa hE21 (Qah hE21 rfl) rfl fun a22 hE22=>Qaa hE22 (Qhj hE22 rfl rfl (m:=((i1+1:Nat):Int)) (by omega) (by omega) (by omega)) rfl fun a23 hE23=>Qaa hE23 (Qam hE23 rfl) rfl fun a24 hE24=>wpList_nil ?_
  have hJ25:=SH.flat (L:=[Ck.elem (α:=ByteArray) g14 i1 cap0 [.string (Qae s1_1)] y1_m0 Fo14]) (α:=ByteArray) (cs:=[.string (Qae s1_1)]) (x:=(Qae s1_1)) hS17 (fun _=>⟨⟨rfl,(Qcv (by first | assumption | exact Qbi _))⟩,rfl⟩)
  obtain⟨F25,hS25⟩:=SH.unfocus (α:=ByteArray) (L:=[]) hJ25 hA14 hn14 (by omega)
  refine Qab ⟨fu1,Nat.lt_succ_self _,(i1+1),i64.wrap (s1_1+1),(y1_m0.set i1 (Qae s1_1)),F25,by omega,by omega,.inl (by omega),(Qbi _),hM,hE24.weaken ⟨rfl,rfl,rfl,trivial⟩,hS25⟩
 ·
  have hge1: ¬ i1<p0.length:=by have:=of_decide_eq_false hb8;omega
  obtain rfl:fu1=0:=by omega
  have hM:=hM.trans (Qeh.eq_1 _ _ _ _ _)
  refine wp_exit ?_
  refine Qcx ?_
  refine Qcx ?_
  refine Qhs ?_
  refine Qab ?_
  refine wp_seq (wp_region_lit ?_)
  refine Qaa hE7 (Qah hE7 rfl) rfl fun a26 hE26=>Qaa hE26 (Qam hE26 rfl) rfl fun a27 hE27=>wpList_nil ?_
  refine Qab ?_
  refine wp_ret ?_
  refine fin1 hE27 rfl rfl ?_
  rw[hM]
  exact⟨rfl,hgis1_1,Fy1_m0,hS3⟩
def Qei (p0:List ByteArray) (p1:Int):Nat→Nat→Int→Int
 | 0,i1,s1_1=>s1_1
 | fu1+1,i1,s1_1=>(if(!decide ((nth p0 i1)=(Qae s1_1)))=true then(-1) else Qei p0 p1 fu1 (i1+1) (i64.wrap (s1_1+1)))
def Qdm (p0:List ByteArray) (p1:Int):Int:=Qei p0 p1 (p0.length - 0) 0 p1
theorem Qqq {v0:Value} (p0:List ByteArray) (p1:Int) {w:World} (hp0:SlR (Old w) w v0 p0) (hi1:I64 p1):
  Calls Tryz.prog 21 [v0,.int .i64 p1].toArray w (fun e w'=>e= .returned (.int .i64 (Qdm p0 p1))∧Below w.heap.size w w'):=by
 obtain⟨A0,cap0,rfl,hx0⟩:=hp0.form
 refine enter Tryz.func21 rfl Tryz.ntmps21 (Nat.le_of_ble_eq_true rfl) ?_
 intro a0 hE0
 have hS0:=SH.start w
 have hM:=Qdm.eq_1 p0 p1
 have hij1: -9223372036854775808≤p1∧p1≤9223372036854775807:=hi1
 refine wp_seq (wp_region_lit ?_)
 refine Qaa hE0 (Qam hE0 rfl) rfl fun a1 hE1=>wpList_nil ?_
 refine Qab ?_
 refine wp_seq (wp_seq (wp_region_lit ?_))
 refine Qaa hE1 (Qam hE1 rfl) rfl fun a2 hE2=>wpList_nil ?_
 refine Qab ?_
 refine wp_block (wp_loop_ghost (fun fu1 a w2=> ∃ (i1:Nat) (s1_1:Int),0≤i1∧fu1=p0.length - i1∧I64 s1_1∧Qdm p0 p1=Qei p0 p1 fu1 i1 s1_1∧Env 22 [(0,.slice A0 p0.length cap0),(1,.int .i64 s1_1),(5,.int .i64 (i1:Int))] a∧SH (Old w) w w2 []) (p0.length - 0) ⟨0,p1,Nat.le_refl _,rfl,hi1,hM,hE2.weaken ⟨rfl,rfl,rfl,trivial⟩,hS0⟩ ?_)
 rintro fu1 a3 w3 ⟨i1,s1_1,hi1,hfu1,hgis1_1,hM,hE3,hS3⟩
 refine wp_seq (wp_seq (wp_region_lit ?_))
 refine Qaa hE3 (Qah hE3 rfl) rfl fun a4 hE4=>Qaa hE4 (Qah hE4 rfl) rfl fun a5 hE5=>Qaa hE5 (Qfq hE5 rfl sl30) rfl fun a6 hE6=>Qaa hE6 (Qom hE6 rfl rfl) rfl fun a7 hE7=>wpList_nil ?_
 refine Qab ?_
 refine Qc7 hE7 rfl (fun hb8=>?_) (fun hb8=>?_)
 ·
  have hlt1:i1<p0.length:=by have:=of_decide_eq_true hb8;omega
  obtain⟨fu1,rfl⟩: ∃ m,fu1=m+1:=⟨fu1 - 1,by omega⟩
  have hM:=hM.trans (Qei.eq_2 _ _ _ _ _)
  refine wp_skip ?_
  refine Qab ?_
  refine wp_seq (wp_block (wp_seq (wp_seq (Yjc mixed (by kernel_rfl) hS3 ?_))))
  refine Yh7 hE7 (fun w3 hS3=>Qah hE7 rfl) rfl fun a9 hE9=>Yh7 hE9 (fun w3 hS3=>Qah hE9 rfl) rfl fun a10 hE10=>Yoc hE10 hp0 rfl rfl rfl (by omega) sl30 rfl fun ad11 cs11 hr11 hc11 hl11 a12 hE12=>?_
  obtain⟨rfl,hg11⟩:=hr11
  refine Yh7 hE12 (fun w3 hS3=>Qf5 hE12 rfl (hS3.upc hc11 hl11) rfl one9) rfl fun a13 hE13=>Yh7 hE13 (fun w3 hS3=>Qah hE13 rfl) rfl fun a14 hE14=>Ypy hE14 Tryz.func57 fb57 fn57 (fun w3 hS3=>(Qdg s1_1 hgis1_1)) rfl rfl fun a15 hE15=>Yh7 hE15 (fun w3 hS3=>Qr2 hE15 rfl rfl) rfl fun a16 hE16=>?_
  refine Yto fun w17 hS17=>?_
  refine Qab ?_
  refine Qc7 hE16 rfl (fun hb18=>?_) (fun hb18=>?_)
  ·
   have hM:=hM.trans (if_t hb18)
   refine wp_seq (wp_region_lit ?_)
   refine Qaa hE16 (Qam hE16 rfl) rfl fun a19 hE19=>wpList_nil ?_
   refine Qab ?_
   refine wp_ret ?_
   refine Qkv ?_
   refine Yko ?_
   refine Qkv ?_
   refine Qkv ?_
   refine Yko ?_
   refine Qkv ?_
   exact fin1 hE19 rfl rfl ⟨by rw[hM],hS17.below⟩
  ·
   have hM:=hM.trans (if_f hb18)
   refine wp_skip ?_
   refine Qab ?_
   refine wp_region_lit ?_
   refine Qaa hE16 (Qah hE16 rfl) rfl fun a20 hE20=>Qaa hE20 (Qg4 hE20 rfl rfl) rfl fun a21 hE21=>Qaa hE21 (Qam hE21 rfl) rfl fun a22 hE22=>wpList_nil ?_
   refine Qfo ?_
   refine Qab ?_
   refine wp_region_lit ?_
   refine Qaa hE22 (Qah hE22 rfl) rfl fun a23 hE23=>Qaa hE23 (Qhj hE23 rfl rfl (m:=((i1+1:Nat):Int)) (by omega) (by omega) (by omega)) rfl fun a24 hE24=>Qaa hE24 (Qam hE24 rfl) rfl fun a25 hE25=>wpList_nil ?_
   refine Qab ⟨fu1,Nat.lt_succ_self _,(i1+1),i64.wrap (s1_1+1),by omega,by omega,(Qbi _),hM,hE25.weaken ⟨rfl,rfl,rfl,trivial⟩,hS17⟩
 ·
  have hge1: ¬ i1<p0.length:=by have:=of_decide_eq_false hb8;omega
  obtain rfl:fu1=0:=by omega
  have hM:=hM.trans (Qei.eq_1 _ _ _ _)
  refine wp_exit ?_
  refine Qcx ?_
  refine Qcx ?_
  refine Qhs ?_
  refine Qab ?_
  refine wp_seq (wp_region_lit ?_)
  refine Qaa hE7 (Qah hE7 rfl) rfl fun a26 hE26=>Qaa hE26 (Qam hE26 rfl) rfl fun a27 hE27=>wpList_nil ?_
  refine Qab ?_
  refine wp_ret ?_
  exact fin1 hE27 rfl rfl ⟨by rw[hM],hS3.below⟩
def Qcy (p0:List Answer) (p1:Int):Nat→Nat→Int→List Answer→List Answer×Int
 | 0,i1,s1_1,y1_m0=>(y1_m0,s1_1)
 | fu1+1,i1,s1_1,y1_m0=>Qcy p0 p1 fu1 (i1+1) (i64.wrap (i64.wrap (i64.wrap (s1_1+1)+1)+1)) (y1_m0.set i1 (Answer.mk s1_1 (i64.wrap (s1_1+1)) (Qae (i64.wrap (i64.wrap (s1_1+1)+1)))))
def Qac (p0:List Answer) (p1:Int):List Answer×Int:=Qcy p0 p1 (p0.length - 0) 0 p1 p0
theorem Qk3 {v0:Value} (p0:List Answer) {F0:List Nat} (p1:Int) {w:World} (hMu0:SH (Off [Ck.own (α:=List Answer) [v0] p0 F0] w) w w [Ck.own (α:=List Answer) [v0] p0 F0]) (hi1:I64 p1):
  Calls Tryz.prog 65 [v0,.int .i64 p1].toArray w (fun e w'=>e= .returned (.int .i64 (Qac p0 p1).2)∧I64 (Qac p0 p1).2∧ ∃ F',SH (Off [Ck.own (α:=List Answer) [v0] p0 F0] w) w w' [Ck.own (α:=List Answer) [v0] (Qac p0 p1).1 F']):=by
 obtain⟨A0,cap0,rfl,hx0⟩:=(hMu0.slO (k:=0) rfl).form
 refine enter Tryz.func65 rfl Tryz.ntmps65 (Nat.le_of_ble_eq_true rfl) ?_
 intro a0 hE0
 have hS0:=hMu0
 have hM:=Qac.eq_1 p0 p1
 have hij1: -9223372036854775808≤p1∧p1≤9223372036854775807:=hi1
 refine wp_seq (wp_region_lit ?_)
 refine Qaa hE0 (Qam hE0 rfl) rfl fun a1 hE1=>wpList_nil ?_
 refine Qab ?_
 refine wp_seq (wp_seq (wp_region_lit ?_))
 refine Qaa hE1 (Qam hE1 rfl) rfl fun a2 hE2=>wpList_nil ?_
 refine Qab ?_
 refine wp_block (wp_loop_ghost (fun fu1 a w2=> ∃ (i1:Nat) (s1_1:Int) (y1_m0:List Answer) (Fy1_m0:List Nat),0≤i1∧fu1=p0.length - i1∧(i1≤p0.length∨i1=0)∧I64 s1_1∧Qac p0 p1=Qcy p0 p1 fu1 i1 s1_1 y1_m0∧Env 35 [(0,.slice A0 p0.length cap0),(1,.int .i64 s1_1),(5,.int .i64 (i1:Int))] a∧SH (Off [Ck.own (α:=List Answer) [.slice A0 p0.length cap0] p0 F0] w) w w2 [Ck.own (α:=List Answer) [.slice A0 p0.length cap0] y1_m0 Fy1_m0]) (p0.length - 0) ⟨0,p1,p0,F0,Nat.le_refl _,rfl,.inr rfl,hi1,hM,hE2.weaken ⟨rfl,rfl,rfl,trivial⟩,hS0⟩ ?_)
 rintro fu1 a3 w3 ⟨i1,s1_1,y1_m0,Fy1_m0,hi1,hfu1,hup1,hgis1_1,hM,hE3,hS3⟩
 have hlry1_m0:=hS3.lenrow (k:=0) rfl
 refine wp_seq (wp_seq (wp_region_lit ?_))
 refine Qaa hE3 (Qah hE3 rfl) rfl fun a4 hE4=>Qaa hE4 (Qah hE4 rfl) rfl fun a5 hE5=>Qaa hE5 (Qfq hE5 rfl sl78) rfl fun a6 hE6=>Qaa hE6 (Qom hE6 rfl rfl) rfl fun a7 hE7=>wpList_nil ?_
 refine Qab ?_
 refine Qc7 hE7 rfl (fun hb8=>?_) (fun hb8=>?_)
 ·
  have hlt1:i1<p0.length:=by have:=of_decide_eq_true hb8;omega
  obtain⟨fu1,rfl⟩: ∃ m,fu1=m+1:=⟨fu1 - 1,by omega⟩
  have hM:=hM.trans (Qcy.eq_2 _ _ _ _ _ _)
  refine wp_skip ?_
  refine Qab ?_
  refine wp_seq (wp_block (wp_seq (wp_region_lit ?_)))
  refine Qaa hE7 (Qah hE7 rfl) rfl fun a9 hE9=>Qaa hE9 (Qah hE9 rfl) rfl fun a10 hE10=>Qaa hE10 (Qah hE10 rfl) rfl fun a11 hE11=>?_
  have hlr12:=hS3.lenrow (k:=0) rfl
  obtain⟨g12,ce12,Fo12,G12,hA12,hn12,hF12⟩:=SH.focus (L:=[]) hS3 (i:=i1) (by omega)
  obtain⟨rfl,rfl,hg12_0,hg12_1,hg12_2,_⟩:=Ydb (show Dat.own w3 ce12 (nth y1_m0 i1) G12 from hF12.get (k:=0) rfl)
  have hS13:=hF12.drop (k:=1)
  refine Qaa hE11 (Qax (A:=⟨g12,0,none⟩) hE11 (congrArg (fun A=>some (Value.slice A p0.length cap0)) hA12) rfl (by omega) (by omega) sl78) rfl fun a14 hE14=>Qaa hE14 (Qat hE14 rfl Yos rfl) rfl fun a15 hE15=>Qb6 (α:=Answer) (k:=0) hE15 hS13 [.int .i64 s1_1,.int .i64 ((nth y1_m0 i1).N),.string ((nth y1_m0 i1).Text)] rfl rfl rfl (by rw[Int.toNat_natCast];rfl) rfl (Qbf one3) rfl rfl rfl rfl fun w16 (hS16:SH (Off [Ck.own (α:=List Answer) [.slice A0 p0.length cap0] p0 F0] w) w w16 [Ck.elem (α:=Answer) g12 i1 cap0 [.int .i64 s1_1,.int .i64 ((nth y1_m0 i1).N),.string ((nth y1_m0 i1).Text)] y1_m0 Fo12]) a17 hE17=>wpList_nil ?_
  refine Qab ?_
  refine wp_seq (wp_region_lit ?_)
  refine Qaa hE17 (Qah hE17 rfl) rfl fun a18 hE18=>Qaa hE18 (Qg4 hE18 rfl rfl) rfl fun a19 hE19=>Qaa hE19 (Qam hE19 rfl) rfl fun a20 hE20=>wpList_nil ?_
  refine Qab ?_
  refine wp_seq (wp_region_lit ?_)
  refine Qaa hE20 (Qah hE20 rfl) rfl fun a21 hE21=>Qaa hE21 (Qah hE21 rfl) rfl fun a22 hE22=>Qaa hE22 (Qah hE22 rfl) rfl fun a23 hE23=>?_
  refine Qaa hE23 (Qax (A:=⟨g12,0,none⟩) hE23 (congrArg (fun A=>some (Value.slice A p0.length cap0)) hA12) rfl (by omega) (by omega) sl78) rfl fun a24 hE24=>Qaa hE24 (Qat hE24 rfl Yor rfl) rfl fun a25 hE25=>Qb6 (α:=Answer) (k:=0) hE25 hS16 [.int .i64 s1_1,.int .i64 (i64.wrap (s1_1+1)),.string ((nth y1_m0 i1).Text)] rfl rfl rfl (by rw[Int.toNat_natCast];rfl) rfl (Qbf one3) rfl rfl rfl rfl fun w26 (hS26:SH (Off [Ck.own (α:=List Answer) [.slice A0 p0.length cap0] p0 F0] w) w w26 [Ck.elem (α:=Answer) g12 i1 cap0 [.int .i64 s1_1,.int .i64 (i64.wrap (s1_1+1)),.string ((nth y1_m0 i1).Text)] y1_m0 Fo12]) a27 hE27=>wpList_nil ?_
  refine Qab ?_
  refine wp_seq (wp_region_lit ?_)
  refine Qaa hE27 (Qah hE27 rfl) rfl fun a28 hE28=>Qaa hE28 (Qg4 hE28 rfl rfl) rfl fun a29 hE29=>Qaa hE29 (Qam hE29 rfl) rfl fun a30 hE30=>wpList_nil ?_
  refine Qab ?_
  refine wp_seq (wp_region_lit ?_)
  refine Qaa hE30 (Qah hE30 rfl) rfl fun a31 hE31=>Qaa hE31 (Qah hE31 rfl) rfl fun a32 hE32=>Qaa hE32 (Qah hE32 rfl) rfl fun a33 hE33=>Qhk hE33 hS26 Tryz.func57 fb57 fn57 (Qdg (i64.wrap (i64.wrap (s1_1+1)+1)) (Qbi _)) rfl rfl fun w34 hS34 a35 hE35=>?_
  refine Qaa hE35 (Qax (A:=⟨g12,0,none⟩) hE35 (congrArg (fun A=>some (Value.slice A p0.length cap0)) hA12) rfl (by omega) (by omega) sl78) rfl fun a36 hE36=>Qaa hE36 (Qat hE36 rfl Yoq rfl) rfl fun a37 hE37=>Qb6 (α:=Answer) (k:=0) hE37 hS34 [.int .i64 s1_1,.int .i64 (i64.wrap (s1_1+1)),.string (Qae (i64.wrap (i64.wrap (s1_1+1)+1)))] rfl rfl rfl (by rw[Int.toNat_natCast];rfl) rfl (Qbf one9) rfl rfl rfl rfl fun w38 (hS38:SH (Off [Ck.own (α:=List Answer) [.slice A0 p0.length cap0] p0 F0] w) w w38 [Ck.elem (α:=Answer) g12 i1 cap0 [.int .i64 s1_1,.int .i64 (i64.wrap (s1_1+1)),.string (Qae (i64.wrap (i64.wrap (s1_1+1)+1)))] y1_m0 Fo12]) a39 hE39=>wpList_nil ?_
  refine Qab ?_
  refine wp_region_lit ?_
  refine Qaa hE39 (Qah hE39 rfl) rfl fun a40 hE40=>Qaa hE40 (Qg4 hE40 rfl rfl) rfl fun a41 hE41=>Qaa hE41 (Qam hE41 rfl) rfl fun a42 hE42=>wpList_nil ?_
  refine Qfo ?_
  refine Qab ?_
  refine wp_region_lit ?_
  refine Qaa hE42 (Qah hE42 rfl) rfl fun a43 hE43=>Qaa hE43 (Qhj hE43 rfl rfl (m:=((i1+1:Nat):Int)) (by omega) (by omega) (by omega)) rfl fun a44 hE44=>Qaa hE44 (Qam hE44 rfl) rfl fun a45 hE45=>wpList_nil ?_
  have hJ46:=SH.flat (L:=[Ck.elem (α:=Answer) g12 i1 cap0 [.int .i64 s1_1,.int .i64 (i64.wrap (s1_1+1)),.string (Qae (i64.wrap (i64.wrap (s1_1+1)+1)))] y1_m0 Fo12]) (α:=Answer) (cs:=[.int .i64 s1_1,.int .i64 (i64.wrap (s1_1+1)),.string (Qae (i64.wrap (i64.wrap (s1_1+1)+1)))]) (x:=(Answer.mk s1_1 (i64.wrap (s1_1+1)) (Qae (i64.wrap (i64.wrap (s1_1+1)+1))))) hS38 (fun _=>Yix (x:=(Answer.mk s1_1 (i64.wrap (s1_1+1)) (Qae (i64.wrap (i64.wrap (s1_1+1)+1))))) hgis1_1 (Qbi _) (Qcv (by first | assumption | exact Qbi _)))
  obtain⟨F46,hS46⟩:=SH.unfocus (α:=Answer) (L:=[]) hJ46 hA12 hn12 (by omega)
  refine Qab ⟨fu1,Nat.lt_succ_self _,(i1+1),i64.wrap (i64.wrap (i64.wrap (s1_1+1)+1)+1),(y1_m0.set i1 (Answer.mk s1_1 (i64.wrap (s1_1+1)) (Qae (i64.wrap (i64.wrap (s1_1+1)+1))))),F46,by omega,by omega,.inl (by omega),(Qbi _),hM,hE45.weaken ⟨rfl,rfl,rfl,trivial⟩,hS46⟩
 ·
  have hge1: ¬ i1<p0.length:=by have:=of_decide_eq_false hb8;omega
  obtain rfl:fu1=0:=by omega
  have hM:=hM.trans (Qcy.eq_1 _ _ _ _ _)
  refine wp_exit ?_
  refine Qcx ?_
  refine Qcx ?_
  refine Qhs ?_
  refine Qab ?_
  refine wp_seq (wp_region_lit ?_)
  refine Qaa hE7 (Qah hE7 rfl) rfl fun a47 hE47=>Qaa hE47 (Qam hE47 rfl) rfl fun a48 hE48=>wpList_nil ?_
  refine Qab ?_
  refine wp_ret ?_
  refine fin1 hE48 rfl rfl ?_
  rw[hM]
  exact⟨rfl,hgis1_1,Fy1_m0,hS3⟩
def Qdw (p0:List Cell) (p1:Int):Nat→Nat→Int→List Cell→List Cell×Int
 | 0,i1,s1_1,y1_m0=>(y1_m0,s1_1)
 | fu1+1,i1,s1_1,y1_m0=>Qdw p0 p1 fu1 (i1+1) (i64.wrap (i64.wrap (s1_1+1)+1)) (y1_m0.set i1 (Cell.mk (Qae s1_1) (Qae (i64.wrap (s1_1+1)))))
def Qas (p0:List Cell) (p1:Int):List Cell×Int:=Qdw p0 p1 (p0.length - 0) 0 p1 p0
theorem Qmp {v0:Value} (p0:List Cell) {F0:List Nat} (p1:Int) {w:World} (hMu0:SH (Off [Ck.own (α:=List Cell) [v0] p0 F0] w) w w [Ck.own (α:=List Cell) [v0] p0 F0]) (hi1:I64 p1):
  Calls Tryz.prog 54 [v0,.int .i64 p1].toArray w (fun e w'=>e= .returned (.int .i64 (Qas p0 p1).2)∧I64 (Qas p0 p1).2∧ ∃ F',SH (Off [Ck.own (α:=List Cell) [v0] p0 F0] w) w w' [Ck.own (α:=List Cell) [v0] (Qas p0 p1).1 F']):=by
 obtain⟨A0,cap0,rfl,hx0⟩:=(hMu0.slO (k:=0) rfl).form
 refine enter Tryz.func54 rfl Tryz.ntmps54 (Nat.le_of_ble_eq_true rfl) ?_
 intro a0 hE0
 have hS0:=hMu0
 have hM:=Qas.eq_1 p0 p1
 have hij1: -9223372036854775808≤p1∧p1≤9223372036854775807:=hi1
 refine wp_seq (wp_region_lit ?_)
 refine Qaa hE0 (Qam hE0 rfl) rfl fun a1 hE1=>wpList_nil ?_
 refine Qab ?_
 refine wp_seq (wp_seq (wp_region_lit ?_))
 refine Qaa hE1 (Qam hE1 rfl) rfl fun a2 hE2=>wpList_nil ?_
 refine Qab ?_
 refine wp_block (wp_loop_ghost (fun fu1 a w2=> ∃ (i1:Nat) (s1_1:Int) (y1_m0:List Cell) (Fy1_m0:List Nat),0≤i1∧fu1=p0.length - i1∧(i1≤p0.length∨i1=0)∧I64 s1_1∧Qas p0 p1=Qdw p0 p1 fu1 i1 s1_1 y1_m0∧Env 29 [(0,.slice A0 p0.length cap0),(1,.int .i64 s1_1),(5,.int .i64 (i1:Int))] a∧SH (Off [Ck.own (α:=List Cell) [.slice A0 p0.length cap0] p0 F0] w) w w2 [Ck.own (α:=List Cell) [.slice A0 p0.length cap0] y1_m0 Fy1_m0]) (p0.length - 0) ⟨0,p1,p0,F0,Nat.le_refl _,rfl,.inr rfl,hi1,hM,hE2.weaken ⟨rfl,rfl,rfl,trivial⟩,hS0⟩ ?_)
 rintro fu1 a3 w3 ⟨i1,s1_1,y1_m0,Fy1_m0,hi1,hfu1,hup1,hgis1_1,hM,hE3,hS3⟩
 have hlry1_m0:=hS3.lenrow (k:=0) rfl
 refine wp_seq (wp_seq (wp_region_lit ?_))
 refine Qaa hE3 (Qah hE3 rfl) rfl fun a4 hE4=>Qaa hE4 (Qah hE4 rfl) rfl fun a5 hE5=>Qaa hE5 (Qfq hE5 rfl sl35) rfl fun a6 hE6=>Qaa hE6 (Qom hE6 rfl rfl) rfl fun a7 hE7=>wpList_nil ?_
 refine Qab ?_
 refine Qc7 hE7 rfl (fun hb8=>?_) (fun hb8=>?_)
 ·
  have hlt1:i1<p0.length:=by have:=of_decide_eq_true hb8;omega
  obtain⟨fu1,rfl⟩: ∃ m,fu1=m+1:=⟨fu1 - 1,by omega⟩
  have hM:=hM.trans (Qdw.eq_2 _ _ _ _ _ _)
  refine wp_skip ?_
  refine Qab ?_
  refine wp_seq (wp_block (wp_seq (wp_region_lit ?_)))
  refine Qaa hE7 (Qah hE7 rfl) rfl fun a9 hE9=>Qaa hE9 (Qah hE9 rfl) rfl fun a10 hE10=>Qaa hE10 (Qah hE10 rfl) rfl fun a11 hE11=>Qhk hE11 hS3 Tryz.func57 fb57 fn57 (Qdg s1_1 hgis1_1) rfl rfl fun w12 hS12 a13 hE13=>?_
  have hlr14:=hS12.lenrow (k:=0) rfl
  obtain⟨g14,ce14,Fo14,G14,hA14,hn14,hF14⟩:=SH.focus (L:=[]) hS12 (i:=i1) (by omega)
  obtain⟨rfl,rfl,hg14_0,hg14_1,_⟩:=Yiv (show Dat.own w12 ce14 (nth y1_m0 i1) G14 from hF14.get (k:=0) rfl)
  have hS15:=hF14.drop (k:=1)
  refine Qaa hE13 (Qax (A:=⟨g14,0,none⟩) hE13 (congrArg (fun A=>some (Value.slice A p0.length cap0)) hA14) rfl (by omega) (by omega) sl35) rfl fun a16 hE16=>Qaa hE16 (Qat hE16 rfl Yo5 rfl) rfl fun a17 hE17=>Qb6 (α:=Cell) (k:=0) hE17 hS15 [.string (Qae s1_1),.string ((nth y1_m0 i1).Val)] rfl rfl rfl (by rw[Int.toNat_natCast];rfl) rfl (Qbf one9) rfl rfl rfl rfl fun w18 (hS18:SH (Off [Ck.own (α:=List Cell) [.slice A0 p0.length cap0] p0 F0] w) w w18 [Ck.elem (α:=Cell) g14 i1 cap0 [.string (Qae s1_1),.string ((nth y1_m0 i1).Val)] y1_m0 Fo14]) a19 hE19=>wpList_nil ?_
  refine Qab ?_
  refine wp_seq (wp_region_lit ?_)
  refine Qaa hE19 (Qah hE19 rfl) rfl fun a20 hE20=>Qaa hE20 (Qg4 hE20 rfl rfl) rfl fun a21 hE21=>Qaa hE21 (Qam hE21 rfl) rfl fun a22 hE22=>wpList_nil ?_
  refine Qab ?_
  refine wp_seq (wp_region_lit ?_)
  refine Qaa hE22 (Qah hE22 rfl) rfl fun a23 hE23=>Qaa hE23 (Qah hE23 rfl) rfl fun a24 hE24=>Qaa hE24 (Qah hE24 rfl) rfl fun a25 hE25=>Qhk hE25 hS18 Tryz.func57 fb57 fn57 (Qdg (i64.wrap (s1_1+1)) (Qbi _)) rfl rfl fun w26 hS26 a27 hE27=>?_
  refine Qaa hE27 (Qax (A:=⟨g14,0,none⟩) hE27 (congrArg (fun A=>some (Value.slice A p0.length cap0)) hA14) rfl (by omega) (by omega) sl35) rfl fun a28 hE28=>Qaa hE28 (Qat hE28 rfl Yo4 rfl) rfl fun a29 hE29=>Qb6 (α:=Cell) (k:=0) hE29 hS26 [.string (Qae s1_1),.string (Qae (i64.wrap (s1_1+1)))] rfl rfl rfl (by rw[Int.toNat_natCast];rfl) rfl (Qbf one9) rfl rfl rfl rfl fun w30 (hS30:SH (Off [Ck.own (α:=List Cell) [.slice A0 p0.length cap0] p0 F0] w) w w30 [Ck.elem (α:=Cell) g14 i1 cap0 [.string (Qae s1_1),.string (Qae (i64.wrap (s1_1+1)))] y1_m0 Fo14]) a31 hE31=>wpList_nil ?_
  refine Qab ?_
  refine wp_region_lit ?_
  refine Qaa hE31 (Qah hE31 rfl) rfl fun a32 hE32=>Qaa hE32 (Qg4 hE32 rfl rfl) rfl fun a33 hE33=>Qaa hE33 (Qam hE33 rfl) rfl fun a34 hE34=>wpList_nil ?_
  refine Qfo ?_
  refine Qab ?_
  refine wp_region_lit ?_
  refine Qaa hE34 (Qah hE34 rfl) rfl fun a35 hE35=>Qaa hE35 (Qhj hE35 rfl rfl (m:=((i1+1:Nat):Int)) (by omega) (by omega) (by omega)) rfl fun a36 hE36=>Qaa hE36 (Qam hE36 rfl) rfl fun a37 hE37=>wpList_nil ?_
  have hJ38:=SH.flat (L:=[Ck.elem (α:=Cell) g14 i1 cap0 [.string (Qae s1_1),.string (Qae (i64.wrap (s1_1+1)))] y1_m0 Fo14]) (α:=Cell) (cs:=[.string (Qae s1_1),.string (Qae (i64.wrap (s1_1+1)))]) (x:=(Cell.mk (Qae s1_1) (Qae (i64.wrap (s1_1+1))))) hS30 (fun _=>Ymq (x:=(Cell.mk (Qae s1_1) (Qae (i64.wrap (s1_1+1))))) (Qcv (by first | assumption | exact Qbi _)) (Qcv (by first | assumption | exact Qbi _)))
  obtain⟨F38,hS38⟩:=SH.unfocus (α:=Cell) (L:=[]) hJ38 hA14 hn14 (by omega)
  refine Qab ⟨fu1,Nat.lt_succ_self _,(i1+1),i64.wrap (i64.wrap (s1_1+1)+1),(y1_m0.set i1 (Cell.mk (Qae s1_1) (Qae (i64.wrap (s1_1+1))))),F38,by omega,by omega,.inl (by omega),(Qbi _),hM,hE37.weaken ⟨rfl,rfl,rfl,trivial⟩,hS38⟩
 ·
  have hge1: ¬ i1<p0.length:=by have:=of_decide_eq_false hb8;omega
  obtain rfl:fu1=0:=by omega
  have hM:=hM.trans (Qdw.eq_1 _ _ _ _ _)
  refine wp_exit ?_
  refine Qcx ?_
  refine Qcx ?_
  refine Qhs ?_
  refine Qab ?_
  refine wp_seq (wp_region_lit ?_)
  refine Qaa hE7 (Qah hE7 rfl) rfl fun a39 hE39=>Qaa hE39 (Qam hE39 rfl) rfl fun a40 hE40=>wpList_nil ?_
  refine Qab ?_
  refine wp_ret ?_
  refine fin1 hE40 rfl rfl ?_
  rw[hM]
  exact⟨rfl,hgis1_1,Fy1_m0,hS3⟩
def Qdx (p0:List Call) (p1:Int):Nat→Nat→Int→List Call→List Call×Int
 | 0,i1,s1_1,y1_m0=>(y1_m0,s1_1)
 | fu1+1,i1,s1_1,y1_m0=>Qdx p0 p1 fu1 (i1+1) (i64.wrap (i64.wrap (i64.wrap (i64.wrap (i64.wrap (i64.wrap (s1_1+1)+1)+1)+1)+1)+1)) (y1_m0.set i1 (Call.mk s1_1 (Qae (i64.wrap (s1_1+1))) (Qae (i64.wrap (i64.wrap (s1_1+1)+1))) (i64.wrap (i64.wrap (i64.wrap (s1_1+1)+1)+1)) (i64.wrap (i64.wrap (i64.wrap (i64.wrap (s1_1+1)+1)+1)+1)) (Qae (i64.wrap (i64.wrap (i64.wrap (i64.wrap (i64.wrap (s1_1+1)+1)+1)+1)+1)))))
def Qaf (p0:List Call) (p1:Int):List Call×Int:=Qdx p0 p1 (p0.length - 0) 0 p1 p0
theorem Qye {v0:Value} (p0:List Call) {F0:List Nat} (p1:Int) {w:World} (hMu0:SH (Off [Ck.own (α:=List Call) [v0] p0 F0] w) w w [Ck.own (α:=List Call) [v0] p0 F0]) (hi1:I64 p1):
  Calls Tryz.prog 113 [v0,.int .i64 p1].toArray w (fun e w'=>e= .returned (.int .i64 (Qaf p0 p1).2)∧I64 (Qaf p0 p1).2∧ ∃ F',SH (Off [Ck.own (α:=List Call) [v0] p0 F0] w) w w' [Ck.own (α:=List Call) [v0] (Qaf p0 p1).1 F']):=by
 obtain⟨A0,cap0,rfl,hx0⟩:=(hMu0.slO (k:=0) rfl).form
 refine enter Tryz.func113 rfl Tryz.ntmps113 (Nat.le_of_ble_eq_true rfl) ?_
 intro a0 hE0
 have hS0:=hMu0
 have hM:=Qaf.eq_1 p0 p1
 have hij1: -9223372036854775808≤p1∧p1≤9223372036854775807:=hi1
 refine wp_seq (wp_region_lit ?_)
 refine Qaa hE0 (Qam hE0 rfl) rfl fun a1 hE1=>wpList_nil ?_
 refine Qab ?_
 refine wp_seq (wp_seq (wp_region_lit ?_))
 refine Qaa hE1 (Qam hE1 rfl) rfl fun a2 hE2=>wpList_nil ?_
 refine Qab ?_
 refine wp_block (wp_loop_ghost (fun fu1 a w2=> ∃ (i1:Nat) (s1_1:Int) (y1_m0:List Call) (Fy1_m0:List Nat),0≤i1∧fu1=p0.length - i1∧(i1≤p0.length∨i1=0)∧I64 s1_1∧Qaf p0 p1=Qdx p0 p1 fu1 i1 s1_1 y1_m0∧Env 58 [(0,.slice A0 p0.length cap0),(1,.int .i64 s1_1),(5,.int .i64 (i1:Int))] a∧SH (Off [Ck.own (α:=List Call) [.slice A0 p0.length cap0] p0 F0] w) w w2 [Ck.own (α:=List Call) [.slice A0 p0.length cap0] y1_m0 Fy1_m0]) (p0.length - 0) ⟨0,p1,p0,F0,Nat.le_refl _,rfl,.inr rfl,hi1,hM,hE2.weaken ⟨rfl,rfl,rfl,trivial⟩,hS0⟩ ?_)
 rintro fu1 a3 w3 ⟨i1,s1_1,y1_m0,Fy1_m0,hi1,hfu1,hup1,hgis1_1,hM,hE3,hS3⟩
 have hlry1_m0:=hS3.lenrow (k:=0) rfl
 refine wp_seq (wp_seq (wp_region_lit ?_))
 refine Qaa hE3 (Qah hE3 rfl) rfl fun a4 hE4=>Qaa hE4 (Qah hE4 rfl) rfl fun a5 hE5=>Qaa hE5 (Qfq hE5 rfl Ydi) rfl fun a6 hE6=>Qaa hE6 (Qom hE6 rfl rfl) rfl fun a7 hE7=>wpList_nil ?_
 refine Qab ?_
 refine Qc7 hE7 rfl (fun hb8=>?_) (fun hb8=>?_)
 ·
  have hlt1:i1<p0.length:=by have:=of_decide_eq_true hb8;omega
  obtain⟨fu1,rfl⟩: ∃ m,fu1=m+1:=⟨fu1 - 1,by omega⟩
  have hM:=hM.trans (Qdx.eq_2 _ _ _ _ _ _)
  refine wp_skip ?_
  refine Qab ?_
  refine wp_seq (wp_block (wp_seq (wp_region_lit ?_)))
  refine Qaa hE7 (Qah hE7 rfl) rfl fun a9 hE9=>Qaa hE9 (Qah hE9 rfl) rfl fun a10 hE10=>Qaa hE10 (Qah hE10 rfl) rfl fun a11 hE11=>?_
  have hlr12:=hS3.lenrow (k:=0) rfl
  obtain⟨g12,ce12,Fo12,G12,hA12,hn12,hF12⟩:=SH.focus (L:=[]) hS3 (i:=i1) (by omega)
  obtain⟨rfl,rfl,hg12_0,hg12_1,hg12_2,hg12_3,hg12_4,hg12_5,_⟩:=Q7s (show Dat.own w3 ce12 (nth y1_m0 i1) G12 from hF12.get (k:=0) rfl)
  have hS13:=hF12.drop (k:=1)
  refine Qaa hE11 (Qax (A:=⟨g12,0,none⟩) hE11 (congrArg (fun A=>some (Value.slice A p0.length cap0)) hA12) rfl (by omega) (by omega) Ydi) rfl fun a14 hE14=>Qaa hE14 (Qat hE14 rfl Ykb rfl) rfl fun a15 hE15=>Qb6 (α:=Call) (k:=0) hE15 hS13 [.int .i64 s1_1,.string ((nth y1_m0 i1).Name),.string ((nth y1_m0 i1).To),.int .i64 ((nth y1_m0 i1).A),.int .i64 ((nth y1_m0 i1).B),.string ((nth y1_m0 i1).Text)] rfl rfl rfl (by rw[Int.toNat_natCast];rfl) rfl (Qbf one3) rfl rfl rfl rfl fun w16 (hS16:SH (Off [Ck.own (α:=List Call) [.slice A0 p0.length cap0] p0 F0] w) w w16 [Ck.elem (α:=Call) g12 i1 cap0 [.int .i64 s1_1,.string ((nth y1_m0 i1).Name),.string ((nth y1_m0 i1).To),.int .i64 ((nth y1_m0 i1).A),.int .i64 ((nth y1_m0 i1).B),.string ((nth y1_m0 i1).Text)] y1_m0 Fo12]) a17 hE17=>wpList_nil ?_
  refine Qab ?_
  refine wp_seq (wp_region_lit ?_)
  refine Qaa hE17 (Qah hE17 rfl) rfl fun a18 hE18=>Qaa hE18 (Qg4 hE18 rfl rfl) rfl fun a19 hE19=>Qaa hE19 (Qam hE19 rfl) rfl fun a20 hE20=>wpList_nil ?_
  refine Qab ?_
  refine wp_seq (wp_region_lit ?_)
  refine Qaa hE20 (Qah hE20 rfl) rfl fun a21 hE21=>Qaa hE21 (Qah hE21 rfl) rfl fun a22 hE22=>Qaa hE22 (Qah hE22 rfl) rfl fun a23 hE23=>Qhk hE23 hS16 Tryz.func57 fb57 fn57 (Qdg (i64.wrap (s1_1+1)) (Qbi _)) rfl rfl fun w24 hS24 a25 hE25=>?_
  refine Qaa hE25 (Qax (A:=⟨g12,0,none⟩) hE25 (congrArg (fun A=>some (Value.slice A p0.length cap0)) hA12) rfl (by omega) (by omega) Ydi) rfl fun a26 hE26=>Qaa hE26 (Qat hE26 rfl Yka rfl) rfl fun a27 hE27=>Qb6 (α:=Call) (k:=0) hE27 hS24 [.int .i64 s1_1,.string (Qae (i64.wrap (s1_1+1))),.string ((nth y1_m0 i1).To),.int .i64 ((nth y1_m0 i1).A),.int .i64 ((nth y1_m0 i1).B),.string ((nth y1_m0 i1).Text)] rfl rfl rfl (by rw[Int.toNat_natCast];rfl) rfl (Qbf one9) rfl rfl rfl rfl fun w28 (hS28:SH (Off [Ck.own (α:=List Call) [.slice A0 p0.length cap0] p0 F0] w) w w28 [Ck.elem (α:=Call) g12 i1 cap0 [.int .i64 s1_1,.string (Qae (i64.wrap (s1_1+1))),.string ((nth y1_m0 i1).To),.int .i64 ((nth y1_m0 i1).A),.int .i64 ((nth y1_m0 i1).B),.string ((nth y1_m0 i1).Text)] y1_m0 Fo12]) a29 hE29=>wpList_nil ?_
  refine Qab ?_
  refine wp_seq (wp_region_lit ?_)
  refine Qaa hE29 (Qah hE29 rfl) rfl fun a30 hE30=>Qaa hE30 (Qg4 hE30 rfl rfl) rfl fun a31 hE31=>Qaa hE31 (Qam hE31 rfl) rfl fun a32 hE32=>wpList_nil ?_
  refine Qab ?_
  refine wp_seq (wp_region_lit ?_)
  refine Qaa hE32 (Qah hE32 rfl) rfl fun a33 hE33=>Qaa hE33 (Qah hE33 rfl) rfl fun a34 hE34=>Qaa hE34 (Qah hE34 rfl) rfl fun a35 hE35=>Qhk hE35 hS28 Tryz.func57 fb57 fn57 (Qdg (i64.wrap (i64.wrap (s1_1+1)+1)) (Qbi _)) rfl rfl fun w36 hS36 a37 hE37=>?_
  refine Qaa hE37 (Qax (A:=⟨g12,0,none⟩) hE37 (congrArg (fun A=>some (Value.slice A p0.length cap0)) hA12) rfl (by omega) (by omega) Ydi) rfl fun a38 hE38=>Qaa hE38 (Qat hE38 rfl Yj9 rfl) rfl fun a39 hE39=>Qb6 (α:=Call) (k:=0) hE39 hS36 [.int .i64 s1_1,.string (Qae (i64.wrap (s1_1+1))),.string (Qae (i64.wrap (i64.wrap (s1_1+1)+1))),.int .i64 ((nth y1_m0 i1).A),.int .i64 ((nth y1_m0 i1).B),.string ((nth y1_m0 i1).Text)] rfl rfl rfl (by rw[Int.toNat_natCast];rfl) rfl (Qbf one9) rfl rfl rfl rfl fun w40 (hS40:SH (Off [Ck.own (α:=List Call) [.slice A0 p0.length cap0] p0 F0] w) w w40 [Ck.elem (α:=Call) g12 i1 cap0 [.int .i64 s1_1,.string (Qae (i64.wrap (s1_1+1))),.string (Qae (i64.wrap (i64.wrap (s1_1+1)+1))),.int .i64 ((nth y1_m0 i1).A),.int .i64 ((nth y1_m0 i1).B),.string ((nth y1_m0 i1).Text)] y1_m0 Fo12]) a41 hE41=>wpList_nil ?_
  refine Qab ?_
  refine wp_seq (wp_region_lit ?_)
  refine Qaa hE41 (Qah hE41 rfl) rfl fun a42 hE42=>Qaa hE42 (Qg4 hE42 rfl rfl) rfl fun a43 hE43=>Qaa hE43 (Qam hE43 rfl) rfl fun a44 hE44=>wpList_nil ?_
  refine Qab ?_
  refine wp_seq (wp_region_lit ?_)
  refine Qaa hE44 (Qah hE44 rfl) rfl fun a45 hE45=>Qaa hE45 (Qah hE45 rfl) rfl fun a46 hE46=>Qaa hE46 (Qah hE46 rfl) rfl fun a47 hE47=>?_
  refine Qaa hE47 (Qax (A:=⟨g12,0,none⟩) hE47 (congrArg (fun A=>some (Value.slice A p0.length cap0)) hA12) rfl (by omega) (by omega) Ydi) rfl fun a48 hE48=>Qaa hE48 (Qat hE48 rfl Yj8 rfl) rfl fun a49 hE49=>Qb6 (α:=Call) (k:=0) hE49 hS40 [.int .i64 s1_1,.string (Qae (i64.wrap (s1_1+1))),.string (Qae (i64.wrap (i64.wrap (s1_1+1)+1))),.int .i64 (i64.wrap (i64.wrap (i64.wrap (s1_1+1)+1)+1)),.int .i64 ((nth y1_m0 i1).B),.string ((nth y1_m0 i1).Text)] rfl rfl rfl (by rw[Int.toNat_natCast];rfl) rfl (Qbf one3) rfl rfl rfl rfl fun w50 (hS50:SH (Off [Ck.own (α:=List Call) [.slice A0 p0.length cap0] p0 F0] w) w w50 [Ck.elem (α:=Call) g12 i1 cap0 [.int .i64 s1_1,.string (Qae (i64.wrap (s1_1+1))),.string (Qae (i64.wrap (i64.wrap (s1_1+1)+1))),.int .i64 (i64.wrap (i64.wrap (i64.wrap (s1_1+1)+1)+1)),.int .i64 ((nth y1_m0 i1).B),.string ((nth y1_m0 i1).Text)] y1_m0 Fo12]) a51 hE51=>wpList_nil ?_
  refine Qab ?_
  refine wp_seq (wp_region_lit ?_)
  refine Qaa hE51 (Qah hE51 rfl) rfl fun a52 hE52=>Qaa hE52 (Qg4 hE52 rfl rfl) rfl fun a53 hE53=>Qaa hE53 (Qam hE53 rfl) rfl fun a54 hE54=>wpList_nil ?_
  refine Qab ?_
  refine wp_seq (wp_region_lit ?_)
  refine Qaa hE54 (Qah hE54 rfl) rfl fun a55 hE55=>Qaa hE55 (Qah hE55 rfl) rfl fun a56 hE56=>Qaa hE56 (Qah hE56 rfl) rfl fun a57 hE57=>?_
  refine Qaa hE57 (Qax (A:=⟨g12,0,none⟩) hE57 (congrArg (fun A=>some (Value.slice A p0.length cap0)) hA12) rfl (by omega) (by omega) Ydi) rfl fun a58 hE58=>Qaa hE58 (Qat hE58 rfl Yj7 rfl) rfl fun a59 hE59=>Qb6 (α:=Call) (k:=0) hE59 hS50 [.int .i64 s1_1,.string (Qae (i64.wrap (s1_1+1))),.string (Qae (i64.wrap (i64.wrap (s1_1+1)+1))),.int .i64 (i64.wrap (i64.wrap (i64.wrap (s1_1+1)+1)+1)),.int .i64 (i64.wrap (i64.wrap (i64.wrap (i64.wrap (s1_1+1)+1)+1)+1)),.string ((nth y1_m0 i1).Text)] rfl rfl rfl (by rw[Int.toNat_natCast];rfl) rfl (Qbf one3) rfl rfl rfl rfl fun w60 (hS60:SH (Off [Ck.own (α:=List Call) [.slice A0 p0.length cap0] p0 F0] w) w w60 [Ck.elem (α:=Call) g12 i1 cap0 [.int .i64 s1_1,.string (Qae (i64.wrap (s1_1+1))),.string (Qae (i64.wrap (i64.wrap (s1_1+1)+1))),.int .i64 (i64.wrap (i64.wrap (i64.wrap (s1_1+1)+1)+1)),.int .i64 (i64.wrap (i64.wrap (i64.wrap (i64.wrap (s1_1+1)+1)+1)+1)),.string ((nth y1_m0 i1).Text)] y1_m0 Fo12]) a61 hE61=>wpList_nil ?_
  refine Qab ?_
  refine wp_seq (wp_region_lit ?_)
  refine Qaa hE61 (Qah hE61 rfl) rfl fun a62 hE62=>Qaa hE62 (Qg4 hE62 rfl rfl) rfl fun a63 hE63=>Qaa hE63 (Qam hE63 rfl) rfl fun a64 hE64=>wpList_nil ?_
  refine Qab ?_
  refine wp_seq (wp_region_lit ?_)
  refine Qaa hE64 (Qah hE64 rfl) rfl fun a65 hE65=>Qaa hE65 (Qah hE65 rfl) rfl fun a66 hE66=>Qaa hE66 (Qah hE66 rfl) rfl fun a67 hE67=>Qhk hE67 hS60 Tryz.func57 fb57 fn57 (Qdg (i64.wrap (i64.wrap (i64.wrap (i64.wrap (i64.wrap (s1_1+1)+1)+1)+1)+1)) (Qbi _)) rfl rfl fun w68 hS68 a69 hE69=>?_
  refine Qaa hE69 (Qax (A:=⟨g12,0,none⟩) hE69 (congrArg (fun A=>some (Value.slice A p0.length cap0)) hA12) rfl (by omega) (by omega) Ydi) rfl fun a70 hE70=>Qaa hE70 (Qat hE70 rfl Yj6 rfl) rfl fun a71 hE71=>Qb6 (α:=Call) (k:=0) hE71 hS68 [.int .i64 s1_1,.string (Qae (i64.wrap (s1_1+1))),.string (Qae (i64.wrap (i64.wrap (s1_1+1)+1))),.int .i64 (i64.wrap (i64.wrap (i64.wrap (s1_1+1)+1)+1)),.int .i64 (i64.wrap (i64.wrap (i64.wrap (i64.wrap (s1_1+1)+1)+1)+1)),.string (Qae (i64.wrap (i64.wrap (i64.wrap (i64.wrap (i64.wrap (s1_1+1)+1)+1)+1)+1)))] rfl rfl rfl (by rw[Int.toNat_natCast];rfl) rfl (Qbf one9) rfl rfl rfl rfl fun w72 (hS72:SH (Off [Ck.own (α:=List Call) [.slice A0 p0.length cap0] p0 F0] w) w w72 [Ck.elem (α:=Call) g12 i1 cap0 [.int .i64 s1_1,.string (Qae (i64.wrap (s1_1+1))),.string (Qae (i64.wrap (i64.wrap (s1_1+1)+1))),.int .i64 (i64.wrap (i64.wrap (i64.wrap (s1_1+1)+1)+1)),.int .i64 (i64.wrap (i64.wrap (i64.wrap (i64.wrap (s1_1+1)+1)+1)+1)),.string (Qae (i64.wrap (i64.wrap (i64.wrap (i64.wrap (i64.wrap (s1_1+1)+1)+1)+1)+1)))] y1_m0 Fo12]) a73 hE73=>wpList_nil ?_
  refine Qab ?_
  refine wp_region_lit ?_
  refine Qaa hE73 (Qah hE73 rfl) rfl fun a74 hE74=>Qaa hE74 (Qg4 hE74 rfl rfl) rfl fun a75 hE75=>Qaa hE75 (Qam hE75 rfl) rfl fun a76 hE76=>wpList_nil ?_
  refine Qfo ?_
  refine Qab ?_
  refine wp_region_lit ?_
  refine Qaa hE76 (Qah hE76 rfl) rfl fun a77 hE77=>Qaa hE77 (Qhj hE77 rfl rfl (m:=((i1+1:Nat):Int)) (by omega) (by omega) (by omega)) rfl fun a78 hE78=>Qaa hE78 (Qam hE78 rfl) rfl fun a79 hE79=>wpList_nil ?_
  have hJ80:=SH.flat (L:=[Ck.elem (α:=Call) g12 i1 cap0 [.int .i64 s1_1,.string (Qae (i64.wrap (s1_1+1))),.string (Qae (i64.wrap (i64.wrap (s1_1+1)+1))),.int .i64 (i64.wrap (i64.wrap (i64.wrap (s1_1+1)+1)+1)),.int .i64 (i64.wrap (i64.wrap (i64.wrap (i64.wrap (s1_1+1)+1)+1)+1)),.string (Qae (i64.wrap (i64.wrap (i64.wrap (i64.wrap (i64.wrap (s1_1+1)+1)+1)+1)+1)))] y1_m0 Fo12]) (α:=Call) (cs:=[.int .i64 s1_1,.string (Qae (i64.wrap (s1_1+1))),.string (Qae (i64.wrap (i64.wrap (s1_1+1)+1))),.int .i64 (i64.wrap (i64.wrap (i64.wrap (s1_1+1)+1)+1)),.int .i64 (i64.wrap (i64.wrap (i64.wrap (i64.wrap (s1_1+1)+1)+1)+1)),.string (Qae (i64.wrap (i64.wrap (i64.wrap (i64.wrap (i64.wrap (s1_1+1)+1)+1)+1)+1)))]) (x:=(Call.mk s1_1 (Qae (i64.wrap (s1_1+1))) (Qae (i64.wrap (i64.wrap (s1_1+1)+1))) (i64.wrap (i64.wrap (i64.wrap (s1_1+1)+1)+1)) (i64.wrap (i64.wrap (i64.wrap (i64.wrap (s1_1+1)+1)+1)+1)) (Qae (i64.wrap (i64.wrap (i64.wrap (i64.wrap (i64.wrap (s1_1+1)+1)+1)+1)+1))))) hS72 (fun _=>Yfi (x:=(Call.mk s1_1 (Qae (i64.wrap (s1_1+1))) (Qae (i64.wrap (i64.wrap (s1_1+1)+1))) (i64.wrap (i64.wrap (i64.wrap (s1_1+1)+1)+1)) (i64.wrap (i64.wrap (i64.wrap (i64.wrap (s1_1+1)+1)+1)+1)) (Qae (i64.wrap (i64.wrap (i64.wrap (i64.wrap (i64.wrap (s1_1+1)+1)+1)+1)+1))))) hgis1_1 (Qcv (by first | assumption | exact Qbi _)) (Qcv (by first | assumption | exact Qbi _)) (Qbi _) (Qbi _) (Qcv (by first | assumption | exact Qbi _)))
  obtain⟨F80,hS80⟩:=SH.unfocus (α:=Call) (L:=[]) hJ80 hA12 hn12 (by omega)
  refine Qab ⟨fu1,Nat.lt_succ_self _,(i1+1),i64.wrap (i64.wrap (i64.wrap (i64.wrap (i64.wrap (i64.wrap (s1_1+1)+1)+1)+1)+1)+1),(y1_m0.set i1 (Call.mk s1_1 (Qae (i64.wrap (s1_1+1))) (Qae (i64.wrap (i64.wrap (s1_1+1)+1))) (i64.wrap (i64.wrap (i64.wrap (s1_1+1)+1)+1)) (i64.wrap (i64.wrap (i64.wrap (i64.wrap (s1_1+1)+1)+1)+1)) (Qae (i64.wrap (i64.wrap (i64.wrap (i64.wrap (i64.wrap (s1_1+1)+1)+1)+1)+1))))),F80,by omega,by omega,.inl (by omega),(Qbi _),hM,hE79.weaken ⟨rfl,rfl,rfl,trivial⟩,hS80⟩
 ·
  have hge1: ¬ i1<p0.length:=by have:=of_decide_eq_false hb8;omega
  obtain rfl:fu1=0:=by omega
  have hM:=hM.trans (Qdx.eq_1 _ _ _ _ _)
  refine wp_exit ?_
  refine Qcx ?_
  refine Qcx ?_
  refine Qhs ?_
  refine Qab ?_
  refine wp_seq (wp_region_lit ?_)
  refine Qaa hE7 (Qah hE7 rfl) rfl fun a81 hE81=>Qaa hE81 (Qam hE81 rfl) rfl fun a82 hE82=>wpList_nil ?_
  refine Qab ?_
  refine wp_ret ?_
  refine fin1 hE82 rfl rfl ?_
  rw[hM]
  exact⟨rfl,hgis1_1,Fy1_m0,hS3⟩
def Qfr (p0:List Int) (p1:Int):Nat→Nat→Int→List Int→List Int×Int
 | 0,i1,s1_1,y1_m0=>(y1_m0,s1_1)
 | fu1+1,i1,s1_1,y1_m0=>Qfr p0 p1 fu1 (i1+1) (i64.wrap (s1_1+1)) (y1_m0.set i1 s1_1)
def Qbg (p0:List Int) (p1:Int):List Int×Int:=Qfr p0 p1 (p0.length - 0) 0 p1 p0
theorem Qz4 {v0:Value} (p0:List Int) {F0:List Nat} (p1:Int) {w:World} (hMu0:SH (Off [Ck.own (α:=List Int) [v0] p0 F0] w) w w [Ck.own (α:=List Int) [v0] p0 F0]) (hi1:I64 p1):
  Calls Tryz.prog 114 [v0,.int .i64 p1].toArray w (fun e w'=>e= .returned (.int .i64 (Qbg p0 p1).2)∧I64 (Qbg p0 p1).2∧ ∃ F',SH (Off [Ck.own (α:=List Int) [v0] p0 F0] w) w w' [Ck.own (α:=List Int) [v0] (Qbg p0 p1).1 F']):=by
 obtain⟨A0,cap0,rfl,hx0⟩:=(hMu0.slO (k:=0) rfl).form
 refine enter Tryz.func114 rfl Tryz.ntmps114 (Nat.le_of_ble_eq_true rfl) ?_
 intro a0 hE0
 have hS0:=hMu0
 have hM:=Qbg.eq_1 p0 p1
 have hij1: -9223372036854775808≤p1∧p1≤9223372036854775807:=hi1
 refine wp_seq (wp_region_lit ?_)
 refine Qaa hE0 (Qam hE0 rfl) rfl fun a1 hE1=>wpList_nil ?_
 refine Qab ?_
 refine wp_seq (wp_seq (wp_region_lit ?_))
 refine Qaa hE1 (Qam hE1 rfl) rfl fun a2 hE2=>wpList_nil ?_
 refine Qab ?_
 refine wp_block (wp_loop_ghost (fun fu1 a w2=> ∃ (i1:Nat) (s1_1:Int) (y1_m0:List Int) (Fy1_m0:List Nat),0≤i1∧fu1=p0.length - i1∧(i1≤p0.length∨i1=0)∧I64 s1_1∧Qbg p0 p1=Qfr p0 p1 fu1 i1 s1_1 y1_m0∧Env 19 [(0,.slice A0 p0.length cap0),(1,.int .i64 s1_1),(5,.int .i64 (i1:Int))] a∧SH (Off [Ck.own (α:=List Int) [.slice A0 p0.length cap0] p0 F0] w) w w2 [Ck.own (α:=List Int) [.slice A0 p0.length cap0] y1_m0 Fy1_m0]) (p0.length - 0) ⟨0,p1,p0,F0,Nat.le_refl _,rfl,.inr rfl,hi1,hM,hE2.weaken ⟨rfl,rfl,rfl,trivial⟩,hS0⟩ ?_)
 rintro fu1 a3 w3 ⟨i1,s1_1,y1_m0,Fy1_m0,hi1,hfu1,hup1,hgis1_1,hM,hE3,hS3⟩
 have hlry1_m0:=hS3.lenrow (k:=0) rfl
 refine wp_seq (wp_seq (wp_region_lit ?_))
 refine Qaa hE3 (Qah hE3 rfl) rfl fun a4 hE4=>Qaa hE4 (Qah hE4 rfl) rfl fun a5 hE5=>Qaa hE5 (Qfq hE5 rfl sl87) rfl fun a6 hE6=>Qaa hE6 (Qom hE6 rfl rfl) rfl fun a7 hE7=>wpList_nil ?_
 refine Qab ?_
 refine Qc7 hE7 rfl (fun hb8=>?_) (fun hb8=>?_)
 ·
  have hlt1:i1<p0.length:=by have:=of_decide_eq_true hb8;omega
  obtain⟨fu1,rfl⟩: ∃ m,fu1=m+1:=⟨fu1 - 1,by omega⟩
  have hM:=hM.trans (Qfr.eq_2 _ _ _ _ _ _)
  refine wp_skip ?_
  refine Qab ?_
  refine wp_seq (wp_block (wp_seq (wp_region_lit ?_)))
  refine Qaa hE7 (Qah hE7 rfl) rfl fun a9 hE9=>Qaa hE9 (Qah hE9 rfl) rfl fun a10 hE10=>Qaa hE10 (Qah hE10 rfl) rfl fun a11 hE11=>?_
  have hlr12:=hS3.lenrow (k:=0) rfl
  obtain⟨g12,ce12,Fo12,G12,hA12,hn12,hF12⟩:=SH.focus (L:=[]) hS3 (i:=i1) (by omega)
  obtain⟨⟨rfl,hg12⟩,rfl⟩:=(show Dat.own w3 ce12 (nth y1_m0 i1) G12 from hF12.get (k:=0) rfl)
  have hS13:=hF12.drop (k:=1)
  refine Qaa hE11 (Qax (A:=⟨g12,0,none⟩) hE11 (congrArg (fun A=>some (Value.slice A p0.length cap0)) hA12) rfl (by omega) (by omega) sl87) rfl fun a14 hE14=>Qb6 (α:=Int) (k:=0) hE14 hS13 [.int .i64 s1_1] rfl rfl rfl (by rw[Int.toNat_natCast];rfl) rfl (Qbf one3) rfl rfl rfl rfl fun w15 (hS15:SH (Off [Ck.own (α:=List Int) [.slice A0 p0.length cap0] p0 F0] w) w w15 [Ck.elem (α:=Int) g12 i1 cap0 [.int .i64 s1_1] y1_m0 Fo12]) a16 hE16=>wpList_nil ?_
  refine Qab ?_
  refine wp_region_lit ?_
  refine Qaa hE16 (Qah hE16 rfl) rfl fun a17 hE17=>Qaa hE17 (Qg4 hE17 rfl rfl) rfl fun a18 hE18=>Qaa hE18 (Qam hE18 rfl) rfl fun a19 hE19=>wpList_nil ?_
  refine Qfo ?_
  refine Qab ?_
  refine wp_region_lit ?_
  refine Qaa hE19 (Qah hE19 rfl) rfl fun a20 hE20=>Qaa hE20 (Qhj hE20 rfl rfl (m:=((i1+1:Nat):Int)) (by omega) (by omega) (by omega)) rfl fun a21 hE21=>Qaa hE21 (Qam hE21 rfl) rfl fun a22 hE22=>wpList_nil ?_
  have hJ23:=SH.flat (L:=[Ck.elem (α:=Int) g12 i1 cap0 [.int .i64 s1_1] y1_m0 Fo12]) (α:=Int) (cs:=[.int .i64 s1_1]) (x:=s1_1) hS15 (fun _=>⟨⟨rfl,hgis1_1⟩,rfl⟩)
  obtain⟨F23,hS23⟩:=SH.unfocus (α:=Int) (L:=[]) hJ23 hA12 hn12 (by omega)
  refine Qab ⟨fu1,Nat.lt_succ_self _,(i1+1),i64.wrap (s1_1+1),(y1_m0.set i1 s1_1),F23,by omega,by omega,.inl (by omega),(Qbi _),hM,hE22.weaken ⟨rfl,rfl,rfl,trivial⟩,hS23⟩
 ·
  have hge1: ¬ i1<p0.length:=by have:=of_decide_eq_false hb8;omega
  obtain rfl:fu1=0:=by omega
  have hM:=hM.trans (Qfr.eq_1 _ _ _ _ _)
  refine wp_exit ?_
  refine Qcx ?_
  refine Qcx ?_
  refine Qhs ?_
  refine Qab ?_
  refine wp_seq (wp_region_lit ?_)
  refine Qaa hE7 (Qah hE7 rfl) rfl fun a24 hE24=>Qaa hE24 (Qam hE24 rfl) rfl fun a25 hE25=>wpList_nil ?_
  refine Qab ?_
  refine wp_ret ?_
  refine fin1 hE25 rfl rfl ?_
  rw[hM]
  exact⟨rfl,hgis1_1,Fy1_m0,hS3⟩
end
section
open IntKind (i64)
open Go.RowKit
theorem Yo8:Qb5 Tryz.prog 108 0 0=true:=by kernel_rfl
theorem Yo7:Qb5 Tryz.prog 108 1 1=true:=by kernel_rfl
theorem Yo6:Qb5 Tryz.prog 108 2 2=true:=by kernel_rfl
theorem Yo3:Qb5 Tryz.prog 117 0 0=true:=by kernel_rfl
theorem Yo2:Qb5 Tryz.prog 117 1 1=true:=by kernel_rfl
theorem Yo1:Qb5 Tryz.prog 119 0 0=true:=by kernel_rfl
theorem Yo0:Qb5 Tryz.prog 119 1 1=true:=by kernel_rfl
theorem Yoz:Qb5 Tryz.prog 119 2 2=true:=by kernel_rfl
theorem Yoy:Qb5 Tryz.prog 119 3 3=true:=by kernel_rfl
theorem Yox:Qb5 Tryz.prog 119 4 4=true:=by kernel_rfl
theorem Yow:Qb5 Tryz.prog 119 5 5=true:=by kernel_rfl
theorem Ykc:Qb5 Tryz.prog 119 6 6=true:=by kernel_rfl
theorem Yov:Qb5 Tryz.prog 119 7 8=true:=by kernel_rfl
theorem You:Qb5 Tryz.prog 119 8 9=true:=by kernel_rfl
theorem Yot:Qb5 Tryz.prog 151 0 0=true:=by kernel_rfl
theorem Qro:Qb5 Tryz.prog 151 1 1=true:=by kernel_rfl
theorem Ysj:Qb5 Tryz.prog 80 0 0=true:=by kernel_rfl
theorem Ysi:Qb5 Tryz.prog 80 1 1=true:=by kernel_rfl
theorem Ysh:Qb5 Tryz.prog 80 2 2=true:=by kernel_rfl
theorem Ysg:Qb5 Tryz.prog 80 3 3=true:=by kernel_rfl
theorem Ysf:Qb5 Tryz.prog 80 4 4=true:=by kernel_rfl
theorem Yse:Qb5 Tryz.prog 80 5 5=true:=by kernel_rfl
theorem Ysd:Qb5 Tryz.prog 80 6 6=true:=by kernel_rfl
theorem Ysc:Qb5 Tryz.prog 80 7 7=true:=by kernel_rfl
theorem Yu9:Tryz.f113.body.isNone=false:=rfl
theorem Yu8:Tryz.f114.body.isNone=false:=rfl
theorem fb20:Tryz.f20.body.isNone=false:=rfl
theorem fb54:Tryz.f54.body.isNone=false:=rfl
theorem fb64:Tryz.f64.body.isNone=false:=rfl
theorem fb65:Tryz.f65.body.isNone=false:=rfl
theorem Yu6:(Tryz.f113.name == "runtime.NumGoroutine")=false:=by kernel_rfl
theorem Yu5:(Tryz.f114.name == "runtime.NumGoroutine")=false:=by kernel_rfl
theorem fn20:(Tryz.f20.name == "runtime.NumGoroutine")=false:=by kernel_rfl
theorem fn54:(Tryz.f54.name == "runtime.NumGoroutine")=false:=by kernel_rfl
theorem fn64:(Tryz.f64.name == "runtime.NumGoroutine")=false:=by kernel_rfl
theorem fn65:(Tryz.f65.name == "runtime.NumGoroutine")=false:=by kernel_rfl
theorem Yp2:Qhh Tryz.prog 116=true:=by kernel_rfl
theorem Yp1:Qhh Tryz.prog 30=true:=by kernel_rfl
theorem Ytu:Qhh Tryz.prog 35=true:=by kernel_rfl
theorem one4:Qhh Tryz.prog 4=true:=by kernel_rfl
theorem Ytt:Qhh Tryz.prog 77=true:=by kernel_rfl
theorem Yp0:Qhh Tryz.prog 78=true:=by kernel_rfl
theorem Yts:Qhh Tryz.prog 87=true:=by kernel_rfl
theorem sl36:Qcq Tryz.prog 36 119 10 160=true:=by kernel_rfl
theorem sl37:Qcq Tryz.prog 37 108 3 40=true:=by kernel_rfl
theorem sl41:Qcq Tryz.prog 41 80 8 96=true:=by kernel_rfl
theorem sl77:Qcq Tryz.prog 77 151 7 80=true:=by kernel_rfl
def Qfm (p0:List Tx) (p1:Int):Nat→Nat→Int→List Tx→List Tx×Int
 | 0,i1,s1_1,y1_m0=>(y1_m0,s1_1)
 | fu1+1,i1,s1_1,y1_m0=>Qfm p0 p1 fu1 (i1+1) (i64.wrap ((Qbg ((nth y1_m0 i1).Marks) ((Qad ((nth y1_m0 i1).Touch.Writes) ((Qad ((nth y1_m0 i1).Touch.Reads) ((Qac ((nth y1_m0 i1).Answers) ((Qaf ((nth y1_m0 i1).Calls) (i64.wrap (i64.wrap (i64.wrap (i64.wrap (s1_1+1)+1)+1)+1))).2)).2)).2)).2)).2+1)) (y1_m0.set i1 (Tx.mk s1_1 (i64.wrap (s1_1+1)) (i64.wrap (i64.wrap (s1_1+1)+1)) (i64.wrap (i64.wrap (i64.wrap (s1_1+1)+1)+1)) ((Qaf ((nth y1_m0 i1).Calls) (i64.wrap (i64.wrap (i64.wrap (i64.wrap (s1_1+1)+1)+1)+1))).1) ((Qac ((nth y1_m0 i1).Answers) ((Qaf ((nth y1_m0 i1).Calls) (i64.wrap (i64.wrap (i64.wrap (i64.wrap (s1_1+1)+1)+1)+1))).2)).1) (Touch.mk ((Qad ((nth y1_m0 i1).Touch.Reads) ((Qac ((nth y1_m0 i1).Answers) ((Qaf ((nth y1_m0 i1).Calls) (i64.wrap (i64.wrap (i64.wrap (i64.wrap (s1_1+1)+1)+1)+1))).2)).2)).1) ((Qad ((nth y1_m0 i1).Touch.Writes) ((Qad ((nth y1_m0 i1).Touch.Reads) ((Qac ((nth y1_m0 i1).Answers) ((Qaf ((nth y1_m0 i1).Calls) (i64.wrap (i64.wrap (i64.wrap (i64.wrap (s1_1+1)+1)+1)+1))).2)).2)).2)).1)) ((Qbg ((nth y1_m0 i1).Marks) ((Qad ((nth y1_m0 i1).Touch.Writes) ((Qad ((nth y1_m0 i1).Touch.Reads) ((Qac ((nth y1_m0 i1).Answers) ((Qaf ((nth y1_m0 i1).Calls) (i64.wrap (i64.wrap (i64.wrap (i64.wrap (s1_1+1)+1)+1)+1))).2)).2)).2)).2)).1) ((Qbg ((nth y1_m0 i1).Marks) ((Qad ((nth y1_m0 i1).Touch.Writes) ((Qad ((nth y1_m0 i1).Touch.Reads) ((Qac ((nth y1_m0 i1).Answers) ((Qaf ((nth y1_m0 i1).Calls) (i64.wrap (i64.wrap (i64.wrap (i64.wrap (s1_1+1)+1)+1)+1))).2)).2)).2)).2)).2)))
def Qc8 (p0:List Tx) (p1:Int):List Tx×Int:=Qfm p0 p1 (p0.length - 0) 0 p1 p0
theorem Q1i {v0:Value} (p0:List Tx) {F0:List Nat} (p1:Int) {w:World} (hMu0:SH (Off [Ck.own (α:=List Tx) [v0] p0 F0] w) w w [Ck.own (α:=List Tx) [v0] p0 F0]) (hi1:I64 p1):
  Calls Tryz.prog 55 [v0,.int .i64 p1].toArray w (fun e w'=>e= .returned (.int .i64 (Qc8 p0 p1).2)∧I64 (Qc8 p0 p1).2∧ ∃ F',SH (Off [Ck.own (α:=List Tx) [v0] p0 F0] w) w w' [Ck.own (α:=List Tx) [v0] (Qc8 p0 p1).1 F']):=by
 obtain⟨A0,cap0,rfl,hx0⟩:=(hMu0.slO (k:=0) rfl).form
 refine enter Tryz.func55 rfl Tryz.ntmps55 (Nat.le_of_ble_eq_true rfl) ?_
 intro a0 hE0
 have hS0:=hMu0
 have hM:=Qc8.eq_1 p0 p1
 have hij1: -9223372036854775808≤p1∧p1≤9223372036854775807:=hi1
 refine wp_seq (wp_region_lit ?_)
 refine Qaa hE0 (Qam hE0 rfl) rfl fun a1 hE1=>wpList_nil ?_
 refine Qab ?_
 refine wp_seq (wp_seq (wp_region_lit ?_))
 refine Qaa hE1 (Qam hE1 rfl) rfl fun a2 hE2=>wpList_nil ?_
 refine Qab ?_
 refine wp_block (wp_loop_ghost (fun fu1 a w2=> ∃ (i1:Nat) (s1_1:Int) (y1_m0:List Tx) (Fy1_m0:List Nat),0≤i1∧fu1=p0.length - i1∧(i1≤p0.length∨i1=0)∧I64 s1_1∧Qc8 p0 p1=Qfm p0 p1 fu1 i1 s1_1 y1_m0∧Env 85 [(0,.slice A0 p0.length cap0),(1,.int .i64 s1_1),(5,.int .i64 (i1:Int))] a∧SH (Off [Ck.own (α:=List Tx) [.slice A0 p0.length cap0] p0 F0] w) w w2 [Ck.own (α:=List Tx) [.slice A0 p0.length cap0] y1_m0 Fy1_m0]) (p0.length - 0) ⟨0,p1,p0,F0,Nat.le_refl _,rfl,.inr rfl,hi1,hM,hE2.weaken ⟨rfl,rfl,rfl,trivial⟩,hS0⟩ ?_)
 rintro fu1 a3 w3 ⟨i1,s1_1,y1_m0,Fy1_m0,hi1,hfu1,hup1,hgis1_1,hM,hE3,hS3⟩
 have hlry1_m0:=hS3.lenrow (k:=0) rfl
 refine wp_seq (wp_seq (wp_region_lit ?_))
 refine Qaa hE3 (Qah hE3 rfl) rfl fun a4 hE4=>Qaa hE4 (Qah hE4 rfl) rfl fun a5 hE5=>Qaa hE5 (Qfq hE5 rfl sl36) rfl fun a6 hE6=>Qaa hE6 (Qom hE6 rfl rfl) rfl fun a7 hE7=>wpList_nil ?_
 refine Qab ?_
 refine Qc7 hE7 rfl (fun hb8=>?_) (fun hb8=>?_)
 ·
  have hlt1:i1<p0.length:=by have:=of_decide_eq_true hb8;omega
  obtain⟨fu1,rfl⟩: ∃ m,fu1=m+1:=⟨fu1 - 1,by omega⟩
  have hM:=hM.trans (Qfm.eq_2 _ _ _ _ _ _)
  refine wp_skip ?_
  refine Qab ?_
  refine wp_seq (wp_block (wp_seq (wp_region_lit ?_)))
  refine Qaa hE7 (Qah hE7 rfl) rfl fun a9 hE9=>Qaa hE9 (Qah hE9 rfl) rfl fun a10 hE10=>Qaa hE10 (Qah hE10 rfl) rfl fun a11 hE11=>?_
  have hlr12:=hS3.lenrow (k:=0) rfl
  obtain⟨g12,ce12,Fo12,G12,hA12,hn12,hF12⟩:=SH.focus (L:=[]) hS3 (i:=i1) (by omega)
  obtain⟨v12_4,F12_4,v12_5,F12_5,v12_6,F12_6,v12_7,F12_7,v12_8,F12_8,rfl,rfl,hg12_0,hg12_1,hg12_2,hg12_3,ho12_4,ho12_5,ho12_6,ho12_7,ho12_8,hg12_9,_⟩:=Ymk (show Dat.own w3 ce12 (nth y1_m0 i1) G12 from hF12.get (k:=0) rfl)
  obtain⟨A12_4,cp12_4,rfl,hx12_4⟩:=ho12_4.form
  obtain⟨A12_5,cp12_5,rfl,hx12_5⟩:=ho12_5.form
  obtain⟨A12_6,cp12_6,rfl,hx12_6⟩:=ho12_6.form
  obtain⟨A12_7,cp12_7,rfl,hx12_7⟩:=ho12_7.form
  obtain⟨A12_8,cp12_8,rfl,hx12_8⟩:=ho12_8.form
  have hS13:=hF12.split [Ck.own (α:=List Call) [.slice A12_4 ((nth y1_m0 i1).Calls.length) cp12_4] ((nth y1_m0 i1).Calls) F12_4,Ck.own (α:=List Answer) [.slice A12_5 ((nth y1_m0 i1).Answers.length) cp12_5] ((nth y1_m0 i1).Answers) F12_5,Ck.own (α:=List ByteArray) [.slice A12_6 ((nth y1_m0 i1).Touch.Reads.length) cp12_6] ((nth y1_m0 i1).Touch.Reads) F12_6,Ck.own (α:=List ByteArray) [.slice A12_7 ((nth y1_m0 i1).Touch.Writes.length) cp12_7] ((nth y1_m0 i1).Touch.Writes) F12_7,Ck.own (α:=List Int) [.slice A12_8 ((nth y1_m0 i1).Marks.length) cp12_8] ((nth y1_m0 i1).Marks) F12_8] (by simp only[Ck.own,List.flatMap_cons,List.flatMap_nil,List.append_nil,List.append_assoc]) (Qi6 (Q71 ho12_4) (Qi6 (Q71 ho12_5) (Qi6 (Q71 ho12_6) (Qi6 (Q71 ho12_7) (Qi6 (Q71 ho12_8) Q70)))))
  simp only[List.cons_append,List.nil_append] at hS13
  refine Qaa hE11 (Qax (A:=⟨g12,0,none⟩) hE11 (congrArg (fun A=>some (Value.slice A p0.length cap0)) hA12) rfl (by omega) (by omega) sl36) rfl fun a14 hE14=>Qaa hE14 (Qat hE14 rfl Yo1 rfl) rfl fun a15 hE15=>Qb6 (α:=Tx) (k:=5) hE15 hS13 [.int .i64 s1_1,.int .i64 ((nth y1_m0 i1).Age),.int .i64 ((nth y1_m0 i1).Proc),.int .i64 ((nth y1_m0 i1).Began),.slice A12_4 ((nth y1_m0 i1).Calls.length) cp12_4,.slice A12_5 ((nth y1_m0 i1).Answers.length) cp12_5,.slice A12_6 ((nth y1_m0 i1).Touch.Reads.length) cp12_6,.slice A12_7 ((nth y1_m0 i1).Touch.Writes.length) cp12_7,.slice A12_8 ((nth y1_m0 i1).Marks.length) cp12_8,.int .i64 ((nth y1_m0 i1).State)] rfl rfl rfl (by rw[Int.toNat_natCast];rfl) rfl (Qbf one3) rfl rfl rfl rfl fun w16 (hS16:SH (Off [Ck.own (α:=List Tx) [.slice A0 p0.length cap0] p0 F0] w) w w16 [Ck.own (α:=List Call) [.slice A12_4 ((nth y1_m0 i1).Calls.length) cp12_4] ((nth y1_m0 i1).Calls) F12_4,Ck.own (α:=List Answer) [.slice A12_5 ((nth y1_m0 i1).Answers.length) cp12_5] ((nth y1_m0 i1).Answers) F12_5,Ck.own (α:=List ByteArray) [.slice A12_6 ((nth y1_m0 i1).Touch.Reads.length) cp12_6] ((nth y1_m0 i1).Touch.Reads) F12_6,Ck.own (α:=List ByteArray) [.slice A12_7 ((nth y1_m0 i1).Touch.Writes.length) cp12_7] ((nth y1_m0 i1).Touch.Writes) F12_7,Ck.own (α:=List Int) [.slice A12_8 ((nth y1_m0 i1).Marks.length) cp12_8] ((nth y1_m0 i1).Marks) F12_8,Ck.elem (α:=Tx) g12 i1 cap0 [.int .i64 s1_1,.int .i64 ((nth y1_m0 i1).Age),.int .i64 ((nth y1_m0 i1).Proc),.int .i64 ((nth y1_m0 i1).Began),.slice A12_4 ((nth y1_m0 i1).Calls.length) cp12_4,.slice A12_5 ((nth y1_m0 i1).Answers.length) cp12_5,.slice A12_6 ((nth y1_m0 i1).Touch.Reads.length) cp12_6,.slice A12_7 ((nth y1_m0 i1).Touch.Writes.length) cp12_7,.slice A12_8 ((nth y1_m0 i1).Marks.length) cp12_8,.int .i64 ((nth y1_m0 i1).State)] y1_m0 Fo12]) a17 hE17=>wpList_nil ?_
  refine Qab ?_
  refine wp_seq (wp_region_lit ?_)
  refine Qaa hE17 (Qah hE17 rfl) rfl fun a18 hE18=>Qaa hE18 (Qg4 hE18 rfl rfl) rfl fun a19 hE19=>Qaa hE19 (Qam hE19 rfl) rfl fun a20 hE20=>wpList_nil ?_
  refine Qab ?_
  refine wp_seq (wp_region_lit ?_)
  refine Qaa hE20 (Qah hE20 rfl) rfl fun a21 hE21=>Qaa hE21 (Qah hE21 rfl) rfl fun a22 hE22=>Qaa hE22 (Qah hE22 rfl) rfl fun a23 hE23=>?_
  refine Qaa hE23 (Qax (A:=⟨g12,0,none⟩) hE23 (congrArg (fun A=>some (Value.slice A p0.length cap0)) hA12) rfl (by omega) (by omega) sl36) rfl fun a24 hE24=>Qaa hE24 (Qat hE24 rfl Yo0 rfl) rfl fun a25 hE25=>Qb6 (α:=Tx) (k:=5) hE25 hS16 [.int .i64 s1_1,.int .i64 (i64.wrap (s1_1+1)),.int .i64 ((nth y1_m0 i1).Proc),.int .i64 ((nth y1_m0 i1).Began),.slice A12_4 ((nth y1_m0 i1).Calls.length) cp12_4,.slice A12_5 ((nth y1_m0 i1).Answers.length) cp12_5,.slice A12_6 ((nth y1_m0 i1).Touch.Reads.length) cp12_6,.slice A12_7 ((nth y1_m0 i1).Touch.Writes.length) cp12_7,.slice A12_8 ((nth y1_m0 i1).Marks.length) cp12_8,.int .i64 ((nth y1_m0 i1).State)] rfl rfl rfl (by rw[Int.toNat_natCast];rfl) rfl (Qbf one3) rfl rfl rfl rfl fun w26 (hS26:SH (Off [Ck.own (α:=List Tx) [.slice A0 p0.length cap0] p0 F0] w) w w26 [Ck.own (α:=List Call) [.slice A12_4 ((nth y1_m0 i1).Calls.length) cp12_4] ((nth y1_m0 i1).Calls) F12_4,Ck.own (α:=List Answer) [.slice A12_5 ((nth y1_m0 i1).Answers.length) cp12_5] ((nth y1_m0 i1).Answers) F12_5,Ck.own (α:=List ByteArray) [.slice A12_6 ((nth y1_m0 i1).Touch.Reads.length) cp12_6] ((nth y1_m0 i1).Touch.Reads) F12_6,Ck.own (α:=List ByteArray) [.slice A12_7 ((nth y1_m0 i1).Touch.Writes.length) cp12_7] ((nth y1_m0 i1).Touch.Writes) F12_7,Ck.own (α:=List Int) [.slice A12_8 ((nth y1_m0 i1).Marks.length) cp12_8] ((nth y1_m0 i1).Marks) F12_8,Ck.elem (α:=Tx) g12 i1 cap0 [.int .i64 s1_1,.int .i64 (i64.wrap (s1_1+1)),.int .i64 ((nth y1_m0 i1).Proc),.int .i64 ((nth y1_m0 i1).Began),.slice A12_4 ((nth y1_m0 i1).Calls.length) cp12_4,.slice A12_5 ((nth y1_m0 i1).Answers.length) cp12_5,.slice A12_6 ((nth y1_m0 i1).Touch.Reads.length) cp12_6,.slice A12_7 ((nth y1_m0 i1).Touch.Writes.length) cp12_7,.slice A12_8 ((nth y1_m0 i1).Marks.length) cp12_8,.int .i64 ((nth y1_m0 i1).State)] y1_m0 Fo12]) a27 hE27=>wpList_nil ?_
  refine Qab ?_
  refine wp_seq (wp_region_lit ?_)
  refine Qaa hE27 (Qah hE27 rfl) rfl fun a28 hE28=>Qaa hE28 (Qg4 hE28 rfl rfl) rfl fun a29 hE29=>Qaa hE29 (Qam hE29 rfl) rfl fun a30 hE30=>wpList_nil ?_
  refine Qab ?_
  refine wp_seq (wp_region_lit ?_)
  refine Qaa hE30 (Qah hE30 rfl) rfl fun a31 hE31=>Qaa hE31 (Qah hE31 rfl) rfl fun a32 hE32=>Qaa hE32 (Qah hE32 rfl) rfl fun a33 hE33=>?_
  refine Qaa hE33 (Qax (A:=⟨g12,0,none⟩) hE33 (congrArg (fun A=>some (Value.slice A p0.length cap0)) hA12) rfl (by omega) (by omega) sl36) rfl fun a34 hE34=>Qaa hE34 (Qat hE34 rfl Yoz rfl) rfl fun a35 hE35=>Qb6 (α:=Tx) (k:=5) hE35 hS26 [.int .i64 s1_1,.int .i64 (i64.wrap (s1_1+1)),.int .i64 (i64.wrap (i64.wrap (s1_1+1)+1)),.int .i64 ((nth y1_m0 i1).Began),.slice A12_4 ((nth y1_m0 i1).Calls.length) cp12_4,.slice A12_5 ((nth y1_m0 i1).Answers.length) cp12_5,.slice A12_6 ((nth y1_m0 i1).Touch.Reads.length) cp12_6,.slice A12_7 ((nth y1_m0 i1).Touch.Writes.length) cp12_7,.slice A12_8 ((nth y1_m0 i1).Marks.length) cp12_8,.int .i64 ((nth y1_m0 i1).State)] rfl rfl rfl (by rw[Int.toNat_natCast];rfl) rfl (Qbf one3) rfl rfl rfl rfl fun w36 (hS36:SH (Off [Ck.own (α:=List Tx) [.slice A0 p0.length cap0] p0 F0] w) w w36 [Ck.own (α:=List Call) [.slice A12_4 ((nth y1_m0 i1).Calls.length) cp12_4] ((nth y1_m0 i1).Calls) F12_4,Ck.own (α:=List Answer) [.slice A12_5 ((nth y1_m0 i1).Answers.length) cp12_5] ((nth y1_m0 i1).Answers) F12_5,Ck.own (α:=List ByteArray) [.slice A12_6 ((nth y1_m0 i1).Touch.Reads.length) cp12_6] ((nth y1_m0 i1).Touch.Reads) F12_6,Ck.own (α:=List ByteArray) [.slice A12_7 ((nth y1_m0 i1).Touch.Writes.length) cp12_7] ((nth y1_m0 i1).Touch.Writes) F12_7,Ck.own (α:=List Int) [.slice A12_8 ((nth y1_m0 i1).Marks.length) cp12_8] ((nth y1_m0 i1).Marks) F12_8,Ck.elem (α:=Tx) g12 i1 cap0 [.int .i64 s1_1,.int .i64 (i64.wrap (s1_1+1)),.int .i64 (i64.wrap (i64.wrap (s1_1+1)+1)),.int .i64 ((nth y1_m0 i1).Began),.slice A12_4 ((nth y1_m0 i1).Calls.length) cp12_4,.slice A12_5 ((nth y1_m0 i1).Answers.length) cp12_5,.slice A12_6 ((nth y1_m0 i1).Touch.Reads.length) cp12_6,.slice A12_7 ((nth y1_m0 i1).Touch.Writes.length) cp12_7,.slice A12_8 ((nth y1_m0 i1).Marks.length) cp12_8,.int .i64 ((nth y1_m0 i1).State)] y1_m0 Fo12]) a37 hE37=>wpList_nil ?_
  refine Qab ?_
  refine wp_seq (wp_region_lit ?_)
  refine Qaa hE37 (Qah hE37 rfl) rfl fun a38 hE38=>Qaa hE38 (Qg4 hE38 rfl rfl) rfl fun a39 hE39=>Qaa hE39 (Qam hE39 rfl) rfl fun a40 hE40=>wpList_nil ?_
  refine Qab ?_
  refine wp_seq (wp_region_lit ?_)
  refine Qaa hE40 (Qah hE40 rfl) rfl fun a41 hE41=>Qaa hE41 (Qah hE41 rfl) rfl fun a42 hE42=>Qaa hE42 (Qah hE42 rfl) rfl fun a43 hE43=>?_
  refine Qaa hE43 (Qax (A:=⟨g12,0,none⟩) hE43 (congrArg (fun A=>some (Value.slice A p0.length cap0)) hA12) rfl (by omega) (by omega) sl36) rfl fun a44 hE44=>Qaa hE44 (Qat hE44 rfl Yoy rfl) rfl fun a45 hE45=>Qb6 (α:=Tx) (k:=5) hE45 hS36 [.int .i64 s1_1,.int .i64 (i64.wrap (s1_1+1)),.int .i64 (i64.wrap (i64.wrap (s1_1+1)+1)),.int .i64 (i64.wrap (i64.wrap (i64.wrap (s1_1+1)+1)+1)),.slice A12_4 ((nth y1_m0 i1).Calls.length) cp12_4,.slice A12_5 ((nth y1_m0 i1).Answers.length) cp12_5,.slice A12_6 ((nth y1_m0 i1).Touch.Reads.length) cp12_6,.slice A12_7 ((nth y1_m0 i1).Touch.Writes.length) cp12_7,.slice A12_8 ((nth y1_m0 i1).Marks.length) cp12_8,.int .i64 ((nth y1_m0 i1).State)] rfl rfl rfl (by rw[Int.toNat_natCast];rfl) rfl (Qbf one3) rfl rfl rfl rfl fun w46 (hS46:SH (Off [Ck.own (α:=List Tx) [.slice A0 p0.length cap0] p0 F0] w) w w46 [Ck.own (α:=List Call) [.slice A12_4 ((nth y1_m0 i1).Calls.length) cp12_4] ((nth y1_m0 i1).Calls) F12_4,Ck.own (α:=List Answer) [.slice A12_5 ((nth y1_m0 i1).Answers.length) cp12_5] ((nth y1_m0 i1).Answers) F12_5,Ck.own (α:=List ByteArray) [.slice A12_6 ((nth y1_m0 i1).Touch.Reads.length) cp12_6] ((nth y1_m0 i1).Touch.Reads) F12_6,Ck.own (α:=List ByteArray) [.slice A12_7 ((nth y1_m0 i1).Touch.Writes.length) cp12_7] ((nth y1_m0 i1).Touch.Writes) F12_7,Ck.own (α:=List Int) [.slice A12_8 ((nth y1_m0 i1).Marks.length) cp12_8] ((nth y1_m0 i1).Marks) F12_8,Ck.elem (α:=Tx) g12 i1 cap0 [.int .i64 s1_1,.int .i64 (i64.wrap (s1_1+1)),.int .i64 (i64.wrap (i64.wrap (s1_1+1)+1)),.int .i64 (i64.wrap (i64.wrap (i64.wrap (s1_1+1)+1)+1)),.slice A12_4 ((nth y1_m0 i1).Calls.length) cp12_4,.slice A12_5 ((nth y1_m0 i1).Answers.length) cp12_5,.slice A12_6 ((nth y1_m0 i1).Touch.Reads.length) cp12_6,.slice A12_7 ((nth y1_m0 i1).Touch.Writes.length) cp12_7,.slice A12_8 ((nth y1_m0 i1).Marks.length) cp12_8,.int .i64 ((nth y1_m0 i1).State)] y1_m0 Fo12]) a47 hE47=>wpList_nil ?_
  refine Qab ?_
  refine wp_seq (wp_region_lit ?_)
  refine Qaa hE47 (Qah hE47 rfl) rfl fun a48 hE48=>Qaa hE48 (Qg4 hE48 rfl rfl) rfl fun a49 hE49=>Qaa hE49 (Qam hE49 rfl) rfl fun a50 hE50=>wpList_nil ?_
  refine Qab ?_
  refine wp_seq (wp_region_lit ?_)
  refine Qaa hE50 (Qah hE50 rfl) rfl fun a51 hE51=>Qaa hE51 (Qah hE51 rfl) rfl fun a52 hE52=>?_
  refine Qaa hE52 (Qax (A:=⟨g12,0,none⟩) hE52 (congrArg (fun A=>some (Value.slice A p0.length cap0)) hA12) rfl (by omega) (by omega) sl36) rfl fun a53 hE53=>Qaa hE53 (Qat hE53 rfl Yox rfl) rfl fun a54 hE54=>Qaa hE54 (Qf5 hE54 rfl (hS46.elemCells (k:=5) (p:=(((i1:Int)).toNat*10)) rfl (by rw[Int.toNat_natCast];rfl)) rfl Yp2) rfl fun a55 hE55=>Qaa hE55 (Qah hE55 rfl) rfl fun a56 hE56=>?_
  have hP57:SH (Off [Ck.own (α:=List Tx) [.slice A0 p0.length cap0] p0 F0] w) w w46 (Ck.own (α:=List Call) [.slice A12_4 ((nth y1_m0 i1).Calls.length) cp12_4] ((nth y1_m0 i1).Calls) F12_4::[Ck.own (α:=List Answer) [.slice A12_5 ((nth y1_m0 i1).Answers.length) cp12_5] ((nth y1_m0 i1).Answers) F12_5,Ck.own (α:=List ByteArray) [.slice A12_6 ((nth y1_m0 i1).Touch.Reads.length) cp12_6] ((nth y1_m0 i1).Touch.Reads) F12_6,Ck.own (α:=List ByteArray) [.slice A12_7 ((nth y1_m0 i1).Touch.Writes.length) cp12_7] ((nth y1_m0 i1).Touch.Writes) F12_7,Ck.own (α:=List Int) [.slice A12_8 ((nth y1_m0 i1).Marks.length) cp12_8] ((nth y1_m0 i1).Marks) F12_8,Ck.elem (α:=Tx) g12 i1 cap0 [.int .i64 s1_1,.int .i64 (i64.wrap (s1_1+1)),.int .i64 (i64.wrap (i64.wrap (s1_1+1)+1)),.int .i64 (i64.wrap (i64.wrap (i64.wrap (s1_1+1)+1)+1)),.slice A12_4 ((nth y1_m0 i1).Calls.length) cp12_4,.slice A12_5 ((nth y1_m0 i1).Answers.length) cp12_5,.slice A12_6 ((nth y1_m0 i1).Touch.Reads.length) cp12_6,.slice A12_7 ((nth y1_m0 i1).Touch.Writes.length) cp12_7,.slice A12_8 ((nth y1_m0 i1).Marks.length) cp12_8,.int .i64 ((nth y1_m0 i1).State)] y1_m0 Fo12]):=hS46
  refine Qkw (c:=Ck.own (α:=List Call) [.slice A12_4 ((nth y1_m0 i1).Calls.length) cp12_4] ((nth y1_m0 i1).Calls) F12_4) (c':=fun F57=>Ck.own (α:=List Call) [.slice A12_4 ((nth y1_m0 i1).Calls.length) cp12_4] ((Qaf ((nth y1_m0 i1).Calls) (i64.wrap (i64.wrap (i64.wrap (i64.wrap (s1_1+1)+1)+1)+1))).1) F57) (R:=I64 (Qaf ((nth y1_m0 i1).Calls) (i64.wrap (i64.wrap (i64.wrap (i64.wrap (s1_1+1)+1)+1)+1))).2) hE56 hP57 Tryz.func113 Yu9 Yu6 (Qye ((nth y1_m0 i1).Calls) (i64.wrap (i64.wrap (i64.wrap (i64.wrap (s1_1+1)+1)+1)+1)) (SH.off (M:=[Ck.own (α:=List Call) [.slice A12_4 ((nth y1_m0 i1).Calls.length) cp12_4] ((nth y1_m0 i1).Calls) F12_4]) (R:=[Ck.own (α:=List Answer) [.slice A12_5 ((nth y1_m0 i1).Answers.length) cp12_5] ((nth y1_m0 i1).Answers) F12_5,Ck.own (α:=List ByteArray) [.slice A12_6 ((nth y1_m0 i1).Touch.Reads.length) cp12_6] ((nth y1_m0 i1).Touch.Reads) F12_6,Ck.own (α:=List ByteArray) [.slice A12_7 ((nth y1_m0 i1).Touch.Writes.length) cp12_7] ((nth y1_m0 i1).Touch.Writes) F12_7,Ck.own (α:=List Int) [.slice A12_8 ((nth y1_m0 i1).Marks.length) cp12_8] ((nth y1_m0 i1).Marks) F12_8,Ck.elem (α:=Tx) g12 i1 cap0 [.int .i64 s1_1,.int .i64 (i64.wrap (s1_1+1)),.int .i64 (i64.wrap (i64.wrap (s1_1+1)+1)),.int .i64 (i64.wrap (i64.wrap (i64.wrap (s1_1+1)+1)+1)),.slice A12_4 ((nth y1_m0 i1).Calls.length) cp12_4,.slice A12_5 ((nth y1_m0 i1).Answers.length) cp12_5,.slice A12_6 ((nth y1_m0 i1).Touch.Reads.length) cp12_6,.slice A12_7 ((nth y1_m0 i1).Touch.Writes.length) cp12_7,.slice A12_8 ((nth y1_m0 i1).Marks.length) cp12_8,.int .i64 ((nth y1_m0 i1).State)] y1_m0 Fo12]) hP57) (Qbi _)) rfl rfl fun F57 w57 hR57 hS57 a58 hE58=>Qaa hE58 (Qam hE58 rfl) rfl fun a59 hE59=>wpList_nil ?_
  refine Qab ?_
  refine wp_seq (wp_region_lit ?_)
  refine Qaa hE59 (Qah hE59 rfl) rfl fun a60 hE60=>Qaa hE60 (Qah hE60 rfl) rfl fun a61 hE61=>?_
  refine Qaa hE61 (Qax (A:=⟨g12,0,none⟩) hE61 (congrArg (fun A=>some (Value.slice A p0.length cap0)) hA12) rfl (by omega) (by omega) sl36) rfl fun a62 hE62=>Qaa hE62 (Qat hE62 rfl Yow rfl) rfl fun a63 hE63=>Qaa hE63 (Qf5 hE63 rfl (hS57.elemCells (k:=5) (p:=(((i1:Int)).toNat*10)) rfl (by rw[Int.toNat_natCast];rfl)) rfl Yp0) rfl fun a64 hE64=>Qaa hE64 (Qah hE64 rfl) rfl fun a65 hE65=>?_
  have hP66:SH (Off [Ck.own (α:=List Tx) [.slice A0 p0.length cap0] p0 F0] w) w w57 (Ck.own (α:=List Answer) [.slice A12_5 ((nth y1_m0 i1).Answers.length) cp12_5] ((nth y1_m0 i1).Answers) F12_5::[Ck.own (α:=List Call) [.slice A12_4 ((nth y1_m0 i1).Calls.length) cp12_4] ((Qaf ((nth y1_m0 i1).Calls) (i64.wrap (i64.wrap (i64.wrap (i64.wrap (s1_1+1)+1)+1)+1))).1) F57,Ck.own (α:=List ByteArray) [.slice A12_6 ((nth y1_m0 i1).Touch.Reads.length) cp12_6] ((nth y1_m0 i1).Touch.Reads) F12_6,Ck.own (α:=List ByteArray) [.slice A12_7 ((nth y1_m0 i1).Touch.Writes.length) cp12_7] ((nth y1_m0 i1).Touch.Writes) F12_7,Ck.own (α:=List Int) [.slice A12_8 ((nth y1_m0 i1).Marks.length) cp12_8] ((nth y1_m0 i1).Marks) F12_8,Ck.elem (α:=Tx) g12 i1 cap0 [.int .i64 s1_1,.int .i64 (i64.wrap (s1_1+1)),.int .i64 (i64.wrap (i64.wrap (s1_1+1)+1)),.int .i64 (i64.wrap (i64.wrap (i64.wrap (s1_1+1)+1)+1)),.slice A12_4 ((nth y1_m0 i1).Calls.length) cp12_4,.slice A12_5 ((nth y1_m0 i1).Answers.length) cp12_5,.slice A12_6 ((nth y1_m0 i1).Touch.Reads.length) cp12_6,.slice A12_7 ((nth y1_m0 i1).Touch.Writes.length) cp12_7,.slice A12_8 ((nth y1_m0 i1).Marks.length) cp12_8,.int .i64 ((nth y1_m0 i1).State)] y1_m0 Fo12]):=(hS57.pick [1,0,2,3,4,5] (by decide) rfl)
  refine Qkw (c:=Ck.own (α:=List Answer) [.slice A12_5 ((nth y1_m0 i1).Answers.length) cp12_5] ((nth y1_m0 i1).Answers) F12_5) (c':=fun F66=>Ck.own (α:=List Answer) [.slice A12_5 ((nth y1_m0 i1).Answers.length) cp12_5] ((Qac ((nth y1_m0 i1).Answers) ((Qaf ((nth y1_m0 i1).Calls) (i64.wrap (i64.wrap (i64.wrap (i64.wrap (s1_1+1)+1)+1)+1))).2)).1) F66) (R:=I64 (Qac ((nth y1_m0 i1).Answers) ((Qaf ((nth y1_m0 i1).Calls) (i64.wrap (i64.wrap (i64.wrap (i64.wrap (s1_1+1)+1)+1)+1))).2)).2) hE65 hP66 Tryz.func65 fb65 fn65 (Qk3 ((nth y1_m0 i1).Answers) ((Qaf ((nth y1_m0 i1).Calls) (i64.wrap (i64.wrap (i64.wrap (i64.wrap (s1_1+1)+1)+1)+1))).2) (SH.off (M:=[Ck.own (α:=List Answer) [.slice A12_5 ((nth y1_m0 i1).Answers.length) cp12_5] ((nth y1_m0 i1).Answers) F12_5]) (R:=[Ck.own (α:=List Call) [.slice A12_4 ((nth y1_m0 i1).Calls.length) cp12_4] ((Qaf ((nth y1_m0 i1).Calls) (i64.wrap (i64.wrap (i64.wrap (i64.wrap (s1_1+1)+1)+1)+1))).1) F57,Ck.own (α:=List ByteArray) [.slice A12_6 ((nth y1_m0 i1).Touch.Reads.length) cp12_6] ((nth y1_m0 i1).Touch.Reads) F12_6,Ck.own (α:=List ByteArray) [.slice A12_7 ((nth y1_m0 i1).Touch.Writes.length) cp12_7] ((nth y1_m0 i1).Touch.Writes) F12_7,Ck.own (α:=List Int) [.slice A12_8 ((nth y1_m0 i1).Marks.length) cp12_8] ((nth y1_m0 i1).Marks) F12_8,Ck.elem (α:=Tx) g12 i1 cap0 [.int .i64 s1_1,.int .i64 (i64.wrap (s1_1+1)),.int .i64 (i64.wrap (i64.wrap (s1_1+1)+1)),.int .i64 (i64.wrap (i64.wrap (i64.wrap (s1_1+1)+1)+1)),.slice A12_4 ((nth y1_m0 i1).Calls.length) cp12_4,.slice A12_5 ((nth y1_m0 i1).Answers.length) cp12_5,.slice A12_6 ((nth y1_m0 i1).Touch.Reads.length) cp12_6,.slice A12_7 ((nth y1_m0 i1).Touch.Writes.length) cp12_7,.slice A12_8 ((nth y1_m0 i1).Marks.length) cp12_8,.int .i64 ((nth y1_m0 i1).State)] y1_m0 Fo12]) hP66) hR57) rfl rfl fun F66 w66 hR66 hS66 a67 hE67=>Qaa hE67 (Qam hE67 rfl) rfl fun a68 hE68=>wpList_nil ?_
  refine Qab ?_
  refine wp_seq (wp_region_lit ?_)
  refine Qaa hE68 (Qah hE68 rfl) rfl fun a69 hE69=>Qaa hE69 (Qah hE69 rfl) rfl fun a70 hE70=>?_
  refine Qaa hE70 (Qax (A:=⟨g12,0,none⟩) hE70 (congrArg (fun A=>some (Value.slice A p0.length cap0)) hA12) rfl (by omega) (by omega) sl36) rfl fun a71 hE71=>Qaa hE71 (Qat hE71 rfl Ykc rfl) rfl fun a72 hE72=>Qaa hE72 (Qat hE72 rfl Yo3 rfl) rfl fun a73 hE73=>Qaa hE73 (Qf5 hE73 rfl (hS66.elemCells (k:=5) (p:=(((i1:Int)).toNat*10)) rfl (by rw[Int.toNat_natCast];rfl)) rfl Yp1) rfl fun a74 hE74=>Qaa hE74 (Qah hE74 rfl) rfl fun a75 hE75=>?_
  have hP76:SH (Off [Ck.own (α:=List Tx) [.slice A0 p0.length cap0] p0 F0] w) w w66 (Ck.own (α:=List ByteArray) [.slice A12_6 ((nth y1_m0 i1).Touch.Reads.length) cp12_6] ((nth y1_m0 i1).Touch.Reads) F12_6::[Ck.own (α:=List Answer) [.slice A12_5 ((nth y1_m0 i1).Answers.length) cp12_5] ((Qac ((nth y1_m0 i1).Answers) ((Qaf ((nth y1_m0 i1).Calls) (i64.wrap (i64.wrap (i64.wrap (i64.wrap (s1_1+1)+1)+1)+1))).2)).1) F66,Ck.own (α:=List Call) [.slice A12_4 ((nth y1_m0 i1).Calls.length) cp12_4] ((Qaf ((nth y1_m0 i1).Calls) (i64.wrap (i64.wrap (i64.wrap (i64.wrap (s1_1+1)+1)+1)+1))).1) F57,Ck.own (α:=List ByteArray) [.slice A12_7 ((nth y1_m0 i1).Touch.Writes.length) cp12_7] ((nth y1_m0 i1).Touch.Writes) F12_7,Ck.own (α:=List Int) [.slice A12_8 ((nth y1_m0 i1).Marks.length) cp12_8] ((nth y1_m0 i1).Marks) F12_8,Ck.elem (α:=Tx) g12 i1 cap0 [.int .i64 s1_1,.int .i64 (i64.wrap (s1_1+1)),.int .i64 (i64.wrap (i64.wrap (s1_1+1)+1)),.int .i64 (i64.wrap (i64.wrap (i64.wrap (s1_1+1)+1)+1)),.slice A12_4 ((nth y1_m0 i1).Calls.length) cp12_4,.slice A12_5 ((nth y1_m0 i1).Answers.length) cp12_5,.slice A12_6 ((nth y1_m0 i1).Touch.Reads.length) cp12_6,.slice A12_7 ((nth y1_m0 i1).Touch.Writes.length) cp12_7,.slice A12_8 ((nth y1_m0 i1).Marks.length) cp12_8,.int .i64 ((nth y1_m0 i1).State)] y1_m0 Fo12]):=(hS66.pick [2,0,1,3,4,5] (by decide) rfl)
  refine Qkw (c:=Ck.own (α:=List ByteArray) [.slice A12_6 ((nth y1_m0 i1).Touch.Reads.length) cp12_6] ((nth y1_m0 i1).Touch.Reads) F12_6) (c':=fun F76=>Ck.own (α:=List ByteArray) [.slice A12_6 ((nth y1_m0 i1).Touch.Reads.length) cp12_6] ((Qad ((nth y1_m0 i1).Touch.Reads) ((Qac ((nth y1_m0 i1).Answers) ((Qaf ((nth y1_m0 i1).Calls) (i64.wrap (i64.wrap (i64.wrap (i64.wrap (s1_1+1)+1)+1)+1))).2)).2)).1) F76) (R:=I64 (Qad ((nth y1_m0 i1).Touch.Reads) ((Qac ((nth y1_m0 i1).Answers) ((Qaf ((nth y1_m0 i1).Calls) (i64.wrap (i64.wrap (i64.wrap (i64.wrap (s1_1+1)+1)+1)+1))).2)).2)).2) hE75 hP76 Tryz.func20 fb20 fn20 (Qiq ((nth y1_m0 i1).Touch.Reads) ((Qac ((nth y1_m0 i1).Answers) ((Qaf ((nth y1_m0 i1).Calls) (i64.wrap (i64.wrap (i64.wrap (i64.wrap (s1_1+1)+1)+1)+1))).2)).2) (SH.off (M:=[Ck.own (α:=List ByteArray) [.slice A12_6 ((nth y1_m0 i1).Touch.Reads.length) cp12_6] ((nth y1_m0 i1).Touch.Reads) F12_6]) (R:=[Ck.own (α:=List Answer) [.slice A12_5 ((nth y1_m0 i1).Answers.length) cp12_5] ((Qac ((nth y1_m0 i1).Answers) ((Qaf ((nth y1_m0 i1).Calls) (i64.wrap (i64.wrap (i64.wrap (i64.wrap (s1_1+1)+1)+1)+1))).2)).1) F66,Ck.own (α:=List Call) [.slice A12_4 ((nth y1_m0 i1).Calls.length) cp12_4] ((Qaf ((nth y1_m0 i1).Calls) (i64.wrap (i64.wrap (i64.wrap (i64.wrap (s1_1+1)+1)+1)+1))).1) F57,Ck.own (α:=List ByteArray) [.slice A12_7 ((nth y1_m0 i1).Touch.Writes.length) cp12_7] ((nth y1_m0 i1).Touch.Writes) F12_7,Ck.own (α:=List Int) [.slice A12_8 ((nth y1_m0 i1).Marks.length) cp12_8] ((nth y1_m0 i1).Marks) F12_8,Ck.elem (α:=Tx) g12 i1 cap0 [.int .i64 s1_1,.int .i64 (i64.wrap (s1_1+1)),.int .i64 (i64.wrap (i64.wrap (s1_1+1)+1)),.int .i64 (i64.wrap (i64.wrap (i64.wrap (s1_1+1)+1)+1)),.slice A12_4 ((nth y1_m0 i1).Calls.length) cp12_4,.slice A12_5 ((nth y1_m0 i1).Answers.length) cp12_5,.slice A12_6 ((nth y1_m0 i1).Touch.Reads.length) cp12_6,.slice A12_7 ((nth y1_m0 i1).Touch.Writes.length) cp12_7,.slice A12_8 ((nth y1_m0 i1).Marks.length) cp12_8,.int .i64 ((nth y1_m0 i1).State)] y1_m0 Fo12]) hP76) hR66) rfl rfl fun F76 w76 hR76 hS76 a77 hE77=>Qaa hE77 (Qam hE77 rfl) rfl fun a78 hE78=>wpList_nil ?_
  refine Qab ?_
  refine wp_seq (wp_region_lit ?_)
  refine Qaa hE78 (Qah hE78 rfl) rfl fun a79 hE79=>Qaa hE79 (Qah hE79 rfl) rfl fun a80 hE80=>?_
  refine Qaa hE80 (Qax (A:=⟨g12,0,none⟩) hE80 (congrArg (fun A=>some (Value.slice A p0.length cap0)) hA12) rfl (by omega) (by omega) sl36) rfl fun a81 hE81=>Qaa hE81 (Qat hE81 rfl Ykc rfl) rfl fun a82 hE82=>Qaa hE82 (Qat hE82 rfl Yo2 rfl) rfl fun a83 hE83=>Qaa hE83 (Qf5 hE83 rfl (hS76.elemCells (k:=5) (p:=(((i1:Int)).toNat*10)) rfl (by rw[Int.toNat_natCast];rfl)) rfl Yp1) rfl fun a84 hE84=>Qaa hE84 (Qah hE84 rfl) rfl fun a85 hE85=>?_
  have hP86:SH (Off [Ck.own (α:=List Tx) [.slice A0 p0.length cap0] p0 F0] w) w w76 (Ck.own (α:=List ByteArray) [.slice A12_7 ((nth y1_m0 i1).Touch.Writes.length) cp12_7] ((nth y1_m0 i1).Touch.Writes) F12_7::[Ck.own (α:=List ByteArray) [.slice A12_6 ((nth y1_m0 i1).Touch.Reads.length) cp12_6] ((Qad ((nth y1_m0 i1).Touch.Reads) ((Qac ((nth y1_m0 i1).Answers) ((Qaf ((nth y1_m0 i1).Calls) (i64.wrap (i64.wrap (i64.wrap (i64.wrap (s1_1+1)+1)+1)+1))).2)).2)).1) F76,Ck.own (α:=List Answer) [.slice A12_5 ((nth y1_m0 i1).Answers.length) cp12_5] ((Qac ((nth y1_m0 i1).Answers) ((Qaf ((nth y1_m0 i1).Calls) (i64.wrap (i64.wrap (i64.wrap (i64.wrap (s1_1+1)+1)+1)+1))).2)).1) F66,Ck.own (α:=List Call) [.slice A12_4 ((nth y1_m0 i1).Calls.length) cp12_4] ((Qaf ((nth y1_m0 i1).Calls) (i64.wrap (i64.wrap (i64.wrap (i64.wrap (s1_1+1)+1)+1)+1))).1) F57,Ck.own (α:=List Int) [.slice A12_8 ((nth y1_m0 i1).Marks.length) cp12_8] ((nth y1_m0 i1).Marks) F12_8,Ck.elem (α:=Tx) g12 i1 cap0 [.int .i64 s1_1,.int .i64 (i64.wrap (s1_1+1)),.int .i64 (i64.wrap (i64.wrap (s1_1+1)+1)),.int .i64 (i64.wrap (i64.wrap (i64.wrap (s1_1+1)+1)+1)),.slice A12_4 ((nth y1_m0 i1).Calls.length) cp12_4,.slice A12_5 ((nth y1_m0 i1).Answers.length) cp12_5,.slice A12_6 ((nth y1_m0 i1).Touch.Reads.length) cp12_6,.slice A12_7 ((nth y1_m0 i1).Touch.Writes.length) cp12_7,.slice A12_8 ((nth y1_m0 i1).Marks.length) cp12_8,.int .i64 ((nth y1_m0 i1).State)] y1_m0 Fo12]):=(hS76.pick [3,0,1,2,4,5] (by decide) rfl)
  refine Qkw (c:=Ck.own (α:=List ByteArray) [.slice A12_7 ((nth y1_m0 i1).Touch.Writes.length) cp12_7] ((nth y1_m0 i1).Touch.Writes) F12_7) (c':=fun F86=>Ck.own (α:=List ByteArray) [.slice A12_7 ((nth y1_m0 i1).Touch.Writes.length) cp12_7] ((Qad ((nth y1_m0 i1).Touch.Writes) ((Qad ((nth y1_m0 i1).Touch.Reads) ((Qac ((nth y1_m0 i1).Answers) ((Qaf ((nth y1_m0 i1).Calls) (i64.wrap (i64.wrap (i64.wrap (i64.wrap (s1_1+1)+1)+1)+1))).2)).2)).2)).1) F86) (R:=I64 (Qad ((nth y1_m0 i1).Touch.Writes) ((Qad ((nth y1_m0 i1).Touch.Reads) ((Qac ((nth y1_m0 i1).Answers) ((Qaf ((nth y1_m0 i1).Calls) (i64.wrap (i64.wrap (i64.wrap (i64.wrap (s1_1+1)+1)+1)+1))).2)).2)).2)).2) hE85 hP86 Tryz.func20 fb20 fn20 (Qiq ((nth y1_m0 i1).Touch.Writes) ((Qad ((nth y1_m0 i1).Touch.Reads) ((Qac ((nth y1_m0 i1).Answers) ((Qaf ((nth y1_m0 i1).Calls) (i64.wrap (i64.wrap (i64.wrap (i64.wrap (s1_1+1)+1)+1)+1))).2)).2)).2) (SH.off (M:=[Ck.own (α:=List ByteArray) [.slice A12_7 ((nth y1_m0 i1).Touch.Writes.length) cp12_7] ((nth y1_m0 i1).Touch.Writes) F12_7]) (R:=[Ck.own (α:=List ByteArray) [.slice A12_6 ((nth y1_m0 i1).Touch.Reads.length) cp12_6] ((Qad ((nth y1_m0 i1).Touch.Reads) ((Qac ((nth y1_m0 i1).Answers) ((Qaf ((nth y1_m0 i1).Calls) (i64.wrap (i64.wrap (i64.wrap (i64.wrap (s1_1+1)+1)+1)+1))).2)).2)).1) F76,Ck.own (α:=List Answer) [.slice A12_5 ((nth y1_m0 i1).Answers.length) cp12_5] ((Qac ((nth y1_m0 i1).Answers) ((Qaf ((nth y1_m0 i1).Calls) (i64.wrap (i64.wrap (i64.wrap (i64.wrap (s1_1+1)+1)+1)+1))).2)).1) F66,Ck.own (α:=List Call) [.slice A12_4 ((nth y1_m0 i1).Calls.length) cp12_4] ((Qaf ((nth y1_m0 i1).Calls) (i64.wrap (i64.wrap (i64.wrap (i64.wrap (s1_1+1)+1)+1)+1))).1) F57,Ck.own (α:=List Int) [.slice A12_8 ((nth y1_m0 i1).Marks.length) cp12_8] ((nth y1_m0 i1).Marks) F12_8,Ck.elem (α:=Tx) g12 i1 cap0 [.int .i64 s1_1,.int .i64 (i64.wrap (s1_1+1)),.int .i64 (i64.wrap (i64.wrap (s1_1+1)+1)),.int .i64 (i64.wrap (i64.wrap (i64.wrap (s1_1+1)+1)+1)),.slice A12_4 ((nth y1_m0 i1).Calls.length) cp12_4,.slice A12_5 ((nth y1_m0 i1).Answers.length) cp12_5,.slice A12_6 ((nth y1_m0 i1).Touch.Reads.length) cp12_6,.slice A12_7 ((nth y1_m0 i1).Touch.Writes.length) cp12_7,.slice A12_8 ((nth y1_m0 i1).Marks.length) cp12_8,.int .i64 ((nth y1_m0 i1).State)] y1_m0 Fo12]) hP86) hR76) rfl rfl fun F86 w86 hR86 hS86 a87 hE87=>Qaa hE87 (Qam hE87 rfl) rfl fun a88 hE88=>wpList_nil ?_
  refine Qab ?_
  refine wp_seq (wp_region_lit ?_)
  refine Qaa hE88 (Qah hE88 rfl) rfl fun a89 hE89=>Qaa hE89 (Qah hE89 rfl) rfl fun a90 hE90=>?_
  refine Qaa hE90 (Qax (A:=⟨g12,0,none⟩) hE90 (congrArg (fun A=>some (Value.slice A p0.length cap0)) hA12) rfl (by omega) (by omega) sl36) rfl fun a91 hE91=>Qaa hE91 (Qat hE91 rfl Yov rfl) rfl fun a92 hE92=>Qaa hE92 (Qf5 hE92 rfl (hS86.elemCells (k:=5) (p:=(((i1:Int)).toNat*10)) rfl (by rw[Int.toNat_natCast];rfl)) rfl Yts) rfl fun a93 hE93=>Qaa hE93 (Qah hE93 rfl) rfl fun a94 hE94=>?_
  have hP95:SH (Off [Ck.own (α:=List Tx) [.slice A0 p0.length cap0] p0 F0] w) w w86 (Ck.own (α:=List Int) [.slice A12_8 ((nth y1_m0 i1).Marks.length) cp12_8] ((nth y1_m0 i1).Marks) F12_8::[Ck.own (α:=List ByteArray) [.slice A12_7 ((nth y1_m0 i1).Touch.Writes.length) cp12_7] ((Qad ((nth y1_m0 i1).Touch.Writes) ((Qad ((nth y1_m0 i1).Touch.Reads) ((Qac ((nth y1_m0 i1).Answers) ((Qaf ((nth y1_m0 i1).Calls) (i64.wrap (i64.wrap (i64.wrap (i64.wrap (s1_1+1)+1)+1)+1))).2)).2)).2)).1) F86,Ck.own (α:=List ByteArray) [.slice A12_6 ((nth y1_m0 i1).Touch.Reads.length) cp12_6] ((Qad ((nth y1_m0 i1).Touch.Reads) ((Qac ((nth y1_m0 i1).Answers) ((Qaf ((nth y1_m0 i1).Calls) (i64.wrap (i64.wrap (i64.wrap (i64.wrap (s1_1+1)+1)+1)+1))).2)).2)).1) F76,Ck.own (α:=List Answer) [.slice A12_5 ((nth y1_m0 i1).Answers.length) cp12_5] ((Qac ((nth y1_m0 i1).Answers) ((Qaf ((nth y1_m0 i1).Calls) (i64.wrap (i64.wrap (i64.wrap (i64.wrap (s1_1+1)+1)+1)+1))).2)).1) F66,Ck.own (α:=List Call) [.slice A12_4 ((nth y1_m0 i1).Calls.length) cp12_4] ((Qaf ((nth y1_m0 i1).Calls) (i64.wrap (i64.wrap (i64.wrap (i64.wrap (s1_1+1)+1)+1)+1))).1) F57,Ck.elem (α:=Tx) g12 i1 cap0 [.int .i64 s1_1,.int .i64 (i64.wrap (s1_1+1)),.int .i64 (i64.wrap (i64.wrap (s1_1+1)+1)),.int .i64 (i64.wrap (i64.wrap (i64.wrap (s1_1+1)+1)+1)),.slice A12_4 ((nth y1_m0 i1).Calls.length) cp12_4,.slice A12_5 ((nth y1_m0 i1).Answers.length) cp12_5,.slice A12_6 ((nth y1_m0 i1).Touch.Reads.length) cp12_6,.slice A12_7 ((nth y1_m0 i1).Touch.Writes.length) cp12_7,.slice A12_8 ((nth y1_m0 i1).Marks.length) cp12_8,.int .i64 ((nth y1_m0 i1).State)] y1_m0 Fo12]):=(hS86.pick [4,0,1,2,3,5] (by decide) rfl)
  refine Qkw (c:=Ck.own (α:=List Int) [.slice A12_8 ((nth y1_m0 i1).Marks.length) cp12_8] ((nth y1_m0 i1).Marks) F12_8) (c':=fun F95=>Ck.own (α:=List Int) [.slice A12_8 ((nth y1_m0 i1).Marks.length) cp12_8] ((Qbg ((nth y1_m0 i1).Marks) ((Qad ((nth y1_m0 i1).Touch.Writes) ((Qad ((nth y1_m0 i1).Touch.Reads) ((Qac ((nth y1_m0 i1).Answers) ((Qaf ((nth y1_m0 i1).Calls) (i64.wrap (i64.wrap (i64.wrap (i64.wrap (s1_1+1)+1)+1)+1))).2)).2)).2)).2)).1) F95) (R:=I64 (Qbg ((nth y1_m0 i1).Marks) ((Qad ((nth y1_m0 i1).Touch.Writes) ((Qad ((nth y1_m0 i1).Touch.Reads) ((Qac ((nth y1_m0 i1).Answers) ((Qaf ((nth y1_m0 i1).Calls) (i64.wrap (i64.wrap (i64.wrap (i64.wrap (s1_1+1)+1)+1)+1))).2)).2)).2)).2)).2) hE94 hP95 Tryz.func114 Yu8 Yu5 (Qz4 ((nth y1_m0 i1).Marks) ((Qad ((nth y1_m0 i1).Touch.Writes) ((Qad ((nth y1_m0 i1).Touch.Reads) ((Qac ((nth y1_m0 i1).Answers) ((Qaf ((nth y1_m0 i1).Calls) (i64.wrap (i64.wrap (i64.wrap (i64.wrap (s1_1+1)+1)+1)+1))).2)).2)).2)).2) (SH.off (M:=[Ck.own (α:=List Int) [.slice A12_8 ((nth y1_m0 i1).Marks.length) cp12_8] ((nth y1_m0 i1).Marks) F12_8]) (R:=[Ck.own (α:=List ByteArray) [.slice A12_7 ((nth y1_m0 i1).Touch.Writes.length) cp12_7] ((Qad ((nth y1_m0 i1).Touch.Writes) ((Qad ((nth y1_m0 i1).Touch.Reads) ((Qac ((nth y1_m0 i1).Answers) ((Qaf ((nth y1_m0 i1).Calls) (i64.wrap (i64.wrap (i64.wrap (i64.wrap (s1_1+1)+1)+1)+1))).2)).2)).2)).1) F86,Ck.own (α:=List ByteArray) [.slice A12_6 ((nth y1_m0 i1).Touch.Reads.length) cp12_6] ((Qad ((nth y1_m0 i1).Touch.Reads) ((Qac ((nth y1_m0 i1).Answers) ((Qaf ((nth y1_m0 i1).Calls) (i64.wrap (i64.wrap (i64.wrap (i64.wrap (s1_1+1)+1)+1)+1))).2)).2)).1) F76,Ck.own (α:=List Answer) [.slice A12_5 ((nth y1_m0 i1).Answers.length) cp12_5] ((Qac ((nth y1_m0 i1).Answers) ((Qaf ((nth y1_m0 i1).Calls) (i64.wrap (i64.wrap (i64.wrap (i64.wrap (s1_1+1)+1)+1)+1))).2)).1) F66,Ck.own (α:=List Call) [.slice A12_4 ((nth y1_m0 i1).Calls.length) cp12_4] ((Qaf ((nth y1_m0 i1).Calls) (i64.wrap (i64.wrap (i64.wrap (i64.wrap (s1_1+1)+1)+1)+1))).1) F57,Ck.elem (α:=Tx) g12 i1 cap0 [.int .i64 s1_1,.int .i64 (i64.wrap (s1_1+1)),.int .i64 (i64.wrap (i64.wrap (s1_1+1)+1)),.int .i64 (i64.wrap (i64.wrap (i64.wrap (s1_1+1)+1)+1)),.slice A12_4 ((nth y1_m0 i1).Calls.length) cp12_4,.slice A12_5 ((nth y1_m0 i1).Answers.length) cp12_5,.slice A12_6 ((nth y1_m0 i1).Touch.Reads.length) cp12_6,.slice A12_7 ((nth y1_m0 i1).Touch.Writes.length) cp12_7,.slice A12_8 ((nth y1_m0 i1).Marks.length) cp12_8,.int .i64 ((nth y1_m0 i1).State)] y1_m0 Fo12]) hP95) hR86) rfl rfl fun F95 w95 hR95 hS95 a96 hE96=>Qaa hE96 (Qam hE96 rfl) rfl fun a97 hE97=>wpList_nil ?_
  refine Qab ?_
  refine wp_seq (wp_region_lit ?_)
  refine Qaa hE97 (Qah hE97 rfl) rfl fun a98 hE98=>Qaa hE98 (Qah hE98 rfl) rfl fun a99 hE99=>Qaa hE99 (Qah hE99 rfl) rfl fun a100 hE100=>?_
  refine Qaa hE100 (Qax (A:=⟨g12,0,none⟩) hE100 (congrArg (fun A=>some (Value.slice A p0.length cap0)) hA12) rfl (by omega) (by omega) sl36) rfl fun a101 hE101=>Qaa hE101 (Qat hE101 rfl You rfl) rfl fun a102 hE102=>Qb6 (α:=Tx) (k:=5) hE102 hS95 [.int .i64 s1_1,.int .i64 (i64.wrap (s1_1+1)),.int .i64 (i64.wrap (i64.wrap (s1_1+1)+1)),.int .i64 (i64.wrap (i64.wrap (i64.wrap (s1_1+1)+1)+1)),.slice A12_4 ((nth y1_m0 i1).Calls.length) cp12_4,.slice A12_5 ((nth y1_m0 i1).Answers.length) cp12_5,.slice A12_6 ((nth y1_m0 i1).Touch.Reads.length) cp12_6,.slice A12_7 ((nth y1_m0 i1).Touch.Writes.length) cp12_7,.slice A12_8 ((nth y1_m0 i1).Marks.length) cp12_8,.int .i64 ((Qbg ((nth y1_m0 i1).Marks) ((Qad ((nth y1_m0 i1).Touch.Writes) ((Qad ((nth y1_m0 i1).Touch.Reads) ((Qac ((nth y1_m0 i1).Answers) ((Qaf ((nth y1_m0 i1).Calls) (i64.wrap (i64.wrap (i64.wrap (i64.wrap (s1_1+1)+1)+1)+1))).2)).2)).2)).2)).2)] rfl rfl rfl (by rw[Int.toNat_natCast];rfl) rfl (Qbf one3) rfl rfl rfl rfl fun w103 (hS103:SH (Off [Ck.own (α:=List Tx) [.slice A0 p0.length cap0] p0 F0] w) w w103 [Ck.own (α:=List Int) [.slice A12_8 ((nth y1_m0 i1).Marks.length) cp12_8] ((Qbg ((nth y1_m0 i1).Marks) ((Qad ((nth y1_m0 i1).Touch.Writes) ((Qad ((nth y1_m0 i1).Touch.Reads) ((Qac ((nth y1_m0 i1).Answers) ((Qaf ((nth y1_m0 i1).Calls) (i64.wrap (i64.wrap (i64.wrap (i64.wrap (s1_1+1)+1)+1)+1))).2)).2)).2)).2)).1) F95,Ck.own (α:=List ByteArray) [.slice A12_7 ((nth y1_m0 i1).Touch.Writes.length) cp12_7] ((Qad ((nth y1_m0 i1).Touch.Writes) ((Qad ((nth y1_m0 i1).Touch.Reads) ((Qac ((nth y1_m0 i1).Answers) ((Qaf ((nth y1_m0 i1).Calls) (i64.wrap (i64.wrap (i64.wrap (i64.wrap (s1_1+1)+1)+1)+1))).2)).2)).2)).1) F86,Ck.own (α:=List ByteArray) [.slice A12_6 ((nth y1_m0 i1).Touch.Reads.length) cp12_6] ((Qad ((nth y1_m0 i1).Touch.Reads) ((Qac ((nth y1_m0 i1).Answers) ((Qaf ((nth y1_m0 i1).Calls) (i64.wrap (i64.wrap (i64.wrap (i64.wrap (s1_1+1)+1)+1)+1))).2)).2)).1) F76,Ck.own (α:=List Answer) [.slice A12_5 ((nth y1_m0 i1).Answers.length) cp12_5] ((Qac ((nth y1_m0 i1).Answers) ((Qaf ((nth y1_m0 i1).Calls) (i64.wrap (i64.wrap (i64.wrap (i64.wrap (s1_1+1)+1)+1)+1))).2)).1) F66,Ck.own (α:=List Call) [.slice A12_4 ((nth y1_m0 i1).Calls.length) cp12_4] ((Qaf ((nth y1_m0 i1).Calls) (i64.wrap (i64.wrap (i64.wrap (i64.wrap (s1_1+1)+1)+1)+1))).1) F57,Ck.elem (α:=Tx) g12 i1 cap0 [.int .i64 s1_1,.int .i64 (i64.wrap (s1_1+1)),.int .i64 (i64.wrap (i64.wrap (s1_1+1)+1)),.int .i64 (i64.wrap (i64.wrap (i64.wrap (s1_1+1)+1)+1)),.slice A12_4 ((nth y1_m0 i1).Calls.length) cp12_4,.slice A12_5 ((nth y1_m0 i1).Answers.length) cp12_5,.slice A12_6 ((nth y1_m0 i1).Touch.Reads.length) cp12_6,.slice A12_7 ((nth y1_m0 i1).Touch.Writes.length) cp12_7,.slice A12_8 ((nth y1_m0 i1).Marks.length) cp12_8,.int .i64 ((Qbg ((nth y1_m0 i1).Marks) ((Qad ((nth y1_m0 i1).Touch.Writes) ((Qad ((nth y1_m0 i1).Touch.Reads) ((Qac ((nth y1_m0 i1).Answers) ((Qaf ((nth y1_m0 i1).Calls) (i64.wrap (i64.wrap (i64.wrap (i64.wrap (s1_1+1)+1)+1)+1))).2)).2)).2)).2)).2)] y1_m0 Fo12]) a104 hE104=>wpList_nil ?_
  refine Qab ?_
  refine wp_region_lit ?_
  refine Qaa hE104 (Qah hE104 rfl) rfl fun a105 hE105=>Qaa hE105 (Qg4 hE105 rfl rfl) rfl fun a106 hE106=>Qaa hE106 (Qam hE106 rfl) rfl fun a107 hE107=>wpList_nil ?_
  refine Qfo ?_
  refine Qab ?_
  refine wp_region_lit ?_
  refine Qaa hE107 (Qah hE107 rfl) rfl fun a108 hE108=>Qaa hE108 (Qhj hE108 rfl rfl (m:=((i1+1:Nat):Int)) (by omega) (by omega) (by omega)) rfl fun a109 hE109=>Qaa hE109 (Qam hE109 rfl) rfl fun a110 hE110=>wpList_nil ?_
  have hJ111:=SH.joinP (L:=[Ck.elem (α:=Tx) g12 i1 cap0 [.int .i64 s1_1,.int .i64 (i64.wrap (s1_1+1)),.int .i64 (i64.wrap (i64.wrap (s1_1+1)+1)),.int .i64 (i64.wrap (i64.wrap (i64.wrap (s1_1+1)+1)+1)),.slice A12_4 ((nth y1_m0 i1).Calls.length) cp12_4,.slice A12_5 ((nth y1_m0 i1).Answers.length) cp12_5,.slice A12_6 ((nth y1_m0 i1).Touch.Reads.length) cp12_6,.slice A12_7 ((nth y1_m0 i1).Touch.Writes.length) cp12_7,.slice A12_8 ((nth y1_m0 i1).Marks.length) cp12_8,.int .i64 ((Qbg ((nth y1_m0 i1).Marks) ((Qad ((nth y1_m0 i1).Touch.Writes) ((Qad ((nth y1_m0 i1).Touch.Reads) ((Qac ((nth y1_m0 i1).Answers) ((Qaf ((nth y1_m0 i1).Calls) (i64.wrap (i64.wrap (i64.wrap (i64.wrap (s1_1+1)+1)+1)+1))).2)).2)).2)).2)).2)] y1_m0 Fo12]) (M:=[Ck.own (α:=List Call) [.slice A12_4 ((nth y1_m0 i1).Calls.length) cp12_4] ((Qaf ((nth y1_m0 i1).Calls) (i64.wrap (i64.wrap (i64.wrap (i64.wrap (s1_1+1)+1)+1)+1))).1) F57,Ck.own (α:=List Answer) [.slice A12_5 ((nth y1_m0 i1).Answers.length) cp12_5] ((Qac ((nth y1_m0 i1).Answers) ((Qaf ((nth y1_m0 i1).Calls) (i64.wrap (i64.wrap (i64.wrap (i64.wrap (s1_1+1)+1)+1)+1))).2)).1) F66,Ck.own (α:=List ByteArray) [.slice A12_6 ((nth y1_m0 i1).Touch.Reads.length) cp12_6] ((Qad ((nth y1_m0 i1).Touch.Reads) ((Qac ((nth y1_m0 i1).Answers) ((Qaf ((nth y1_m0 i1).Calls) (i64.wrap (i64.wrap (i64.wrap (i64.wrap (s1_1+1)+1)+1)+1))).2)).2)).1) F76,Ck.own (α:=List ByteArray) [.slice A12_7 ((nth y1_m0 i1).Touch.Writes.length) cp12_7] ((Qad ((nth y1_m0 i1).Touch.Writes) ((Qad ((nth y1_m0 i1).Touch.Reads) ((Qac ((nth y1_m0 i1).Answers) ((Qaf ((nth y1_m0 i1).Calls) (i64.wrap (i64.wrap (i64.wrap (i64.wrap (s1_1+1)+1)+1)+1))).2)).2)).2)).1) F86,Ck.own (α:=List Int) [.slice A12_8 ((nth y1_m0 i1).Marks.length) cp12_8] ((Qbg ((nth y1_m0 i1).Marks) ((Qad ((nth y1_m0 i1).Touch.Writes) ((Qad ((nth y1_m0 i1).Touch.Reads) ((Qac ((nth y1_m0 i1).Answers) ((Qaf ((nth y1_m0 i1).Calls) (i64.wrap (i64.wrap (i64.wrap (i64.wrap (s1_1+1)+1)+1)+1))).2)).2)).2)).2)).1) F95]) (c:=Ck.own (α:=Tx) [.int .i64 s1_1,.int .i64 (i64.wrap (s1_1+1)),.int .i64 (i64.wrap (i64.wrap (s1_1+1)+1)),.int .i64 (i64.wrap (i64.wrap (i64.wrap (s1_1+1)+1)+1)),.slice A12_4 ((nth y1_m0 i1).Calls.length) cp12_4,.slice A12_5 ((nth y1_m0 i1).Answers.length) cp12_5,.slice A12_6 ((nth y1_m0 i1).Touch.Reads.length) cp12_6,.slice A12_7 ((nth y1_m0 i1).Touch.Writes.length) cp12_7,.slice A12_8 ((nth y1_m0 i1).Marks.length) cp12_8,.int .i64 ((Qbg ((nth y1_m0 i1).Marks) ((Qad ((nth y1_m0 i1).Touch.Writes) ((Qad ((nth y1_m0 i1).Touch.Reads) ((Qac ((nth y1_m0 i1).Answers) ((Qaf ((nth y1_m0 i1).Calls) (i64.wrap (i64.wrap (i64.wrap (i64.wrap (s1_1+1)+1)+1)+1))).2)).2)).2)).2)).2)] (Tx.mk s1_1 (i64.wrap (s1_1+1)) (i64.wrap (i64.wrap (s1_1+1)+1)) (i64.wrap (i64.wrap (i64.wrap (s1_1+1)+1)+1)) ((Qaf ((nth y1_m0 i1).Calls) (i64.wrap (i64.wrap (i64.wrap (i64.wrap (s1_1+1)+1)+1)+1))).1) ((Qac ((nth y1_m0 i1).Answers) ((Qaf ((nth y1_m0 i1).Calls) (i64.wrap (i64.wrap (i64.wrap (i64.wrap (s1_1+1)+1)+1)+1))).2)).1) (Touch.mk ((Qad ((nth y1_m0 i1).Touch.Reads) ((Qac ((nth y1_m0 i1).Answers) ((Qaf ((nth y1_m0 i1).Calls) (i64.wrap (i64.wrap (i64.wrap (i64.wrap (s1_1+1)+1)+1)+1))).2)).2)).1) ((Qad ((nth y1_m0 i1).Touch.Writes) ((Qad ((nth y1_m0 i1).Touch.Reads) ((Qac ((nth y1_m0 i1).Answers) ((Qaf ((nth y1_m0 i1).Calls) (i64.wrap (i64.wrap (i64.wrap (i64.wrap (s1_1+1)+1)+1)+1))).2)).2)).2)).1)) ((Qbg ((nth y1_m0 i1).Marks) ((Qad ((nth y1_m0 i1).Touch.Writes) ((Qad ((nth y1_m0 i1).Touch.Reads) ((Qac ((nth y1_m0 i1).Answers) ((Qaf ((nth y1_m0 i1).Calls) (i64.wrap (i64.wrap (i64.wrap (i64.wrap (s1_1+1)+1)+1)+1))).2)).2)).2)).2)).1) ((Qbg ((nth y1_m0 i1).Marks) ((Qad ((nth y1_m0 i1).Touch.Writes) ((Qad ((nth y1_m0 i1).Touch.Reads) ((Qac ((nth y1_m0 i1).Answers) ((Qaf ((nth y1_m0 i1).Calls) (i64.wrap (i64.wrap (i64.wrap (i64.wrap (s1_1+1)+1)+1)+1))).2)).2)).2)).2)).2)) (F57++(F66++((F76++F86)++(F95++[]))))) (hS103.pick [4,3,2,1,0,5] (by decide) rfl) (List.Perm.of_eq (by simp only[Ck.own,List.flatMap_cons,List.flatMap_nil,List.append_nil,List.append_assoc])) (Ylq (Ysy (x:=(Tx.mk s1_1 (i64.wrap (s1_1+1)) (i64.wrap (i64.wrap (s1_1+1)+1)) (i64.wrap (i64.wrap (i64.wrap (s1_1+1)+1)+1)) ((Qaf ((nth y1_m0 i1).Calls) (i64.wrap (i64.wrap (i64.wrap (i64.wrap (s1_1+1)+1)+1)+1))).1) ((Qac ((nth y1_m0 i1).Answers) ((Qaf ((nth y1_m0 i1).Calls) (i64.wrap (i64.wrap (i64.wrap (i64.wrap (s1_1+1)+1)+1)+1))).2)).1) (Touch.mk ((Qad ((nth y1_m0 i1).Touch.Reads) ((Qac ((nth y1_m0 i1).Answers) ((Qaf ((nth y1_m0 i1).Calls) (i64.wrap (i64.wrap (i64.wrap (i64.wrap (s1_1+1)+1)+1)+1))).2)).2)).1) ((Qad ((nth y1_m0 i1).Touch.Writes) ((Qad ((nth y1_m0 i1).Touch.Reads) ((Qac ((nth y1_m0 i1).Answers) ((Qaf ((nth y1_m0 i1).Calls) (i64.wrap (i64.wrap (i64.wrap (i64.wrap (s1_1+1)+1)+1)+1))).2)).2)).2)).1)) ((Qbg ((nth y1_m0 i1).Marks) ((Qad ((nth y1_m0 i1).Touch.Writes) ((Qad ((nth y1_m0 i1).Touch.Reads) ((Qac ((nth y1_m0 i1).Answers) ((Qaf ((nth y1_m0 i1).Calls) (i64.wrap (i64.wrap (i64.wrap (i64.wrap (s1_1+1)+1)+1)+1))).2)).2)).2)).2)).1) ((Qbg ((nth y1_m0 i1).Marks) ((Qad ((nth y1_m0 i1).Touch.Writes) ((Qad ((nth y1_m0 i1).Touch.Reads) ((Qac ((nth y1_m0 i1).Answers) ((Qaf ((nth y1_m0 i1).Calls) (i64.wrap (i64.wrap (i64.wrap (i64.wrap (s1_1+1)+1)+1)+1))).2)).2)).2)).2)).2))) hgis1_1 (Qbi _) (Qbi _) (Qbi _) (hS103.slO (k:=4) rfl) (hS103.slO (k:=3) rfl) (hS103.slO (k:=2) rfl) (hS103.slO (k:=1) rfl) (hS103.slO (k:=0) rfl) hR95))
  obtain⟨F111,hS111⟩:=SH.unfocus (α:=Tx) (L:=[]) hJ111 hA12 hn12 (by omega)
  refine Qab ⟨fu1,Nat.lt_succ_self _,(i1+1),i64.wrap ((Qbg ((nth y1_m0 i1).Marks) ((Qad ((nth y1_m0 i1).Touch.Writes) ((Qad ((nth y1_m0 i1).Touch.Reads) ((Qac ((nth y1_m0 i1).Answers) ((Qaf ((nth y1_m0 i1).Calls) (i64.wrap (i64.wrap (i64.wrap (i64.wrap (s1_1+1)+1)+1)+1))).2)).2)).2)).2)).2+1),(y1_m0.set i1 (Tx.mk s1_1 (i64.wrap (s1_1+1)) (i64.wrap (i64.wrap (s1_1+1)+1)) (i64.wrap (i64.wrap (i64.wrap (s1_1+1)+1)+1)) ((Qaf ((nth y1_m0 i1).Calls) (i64.wrap (i64.wrap (i64.wrap (i64.wrap (s1_1+1)+1)+1)+1))).1) ((Qac ((nth y1_m0 i1).Answers) ((Qaf ((nth y1_m0 i1).Calls) (i64.wrap (i64.wrap (i64.wrap (i64.wrap (s1_1+1)+1)+1)+1))).2)).1) (Touch.mk ((Qad ((nth y1_m0 i1).Touch.Reads) ((Qac ((nth y1_m0 i1).Answers) ((Qaf ((nth y1_m0 i1).Calls) (i64.wrap (i64.wrap (i64.wrap (i64.wrap (s1_1+1)+1)+1)+1))).2)).2)).1) ((Qad ((nth y1_m0 i1).Touch.Writes) ((Qad ((nth y1_m0 i1).Touch.Reads) ((Qac ((nth y1_m0 i1).Answers) ((Qaf ((nth y1_m0 i1).Calls) (i64.wrap (i64.wrap (i64.wrap (i64.wrap (s1_1+1)+1)+1)+1))).2)).2)).2)).1)) ((Qbg ((nth y1_m0 i1).Marks) ((Qad ((nth y1_m0 i1).Touch.Writes) ((Qad ((nth y1_m0 i1).Touch.Reads) ((Qac ((nth y1_m0 i1).Answers) ((Qaf ((nth y1_m0 i1).Calls) (i64.wrap (i64.wrap (i64.wrap (i64.wrap (s1_1+1)+1)+1)+1))).2)).2)).2)).2)).1) ((Qbg ((nth y1_m0 i1).Marks) ((Qad ((nth y1_m0 i1).Touch.Writes) ((Qad ((nth y1_m0 i1).Touch.Reads) ((Qac ((nth y1_m0 i1).Answers) ((Qaf ((nth y1_m0 i1).Calls) (i64.wrap (i64.wrap (i64.wrap (i64.wrap (s1_1+1)+1)+1)+1))).2)).2)).2)).2)).2))),F111,by omega,by omega,.inl (by omega),(Qbi _),hM,hE110.weaken ⟨rfl,rfl,rfl,trivial⟩,hS111⟩
 ·
  have hge1: ¬ i1<p0.length:=by have:=of_decide_eq_false hb8;omega
  obtain rfl:fu1=0:=by omega
  have hM:=hM.trans (Qfm.eq_1 _ _ _ _ _)
  refine wp_exit ?_
  refine Qcx ?_
  refine Qcx ?_
  refine Qhs ?_
  refine Qab ?_
  refine wp_seq (wp_region_lit ?_)
  refine Qaa hE7 (Qah hE7 rfl) rfl fun a112 hE112=>Qaa hE112 (Qam hE112 rfl) rfl fun a113 hE113=>wpList_nil ?_
  refine Qab ?_
  refine wp_ret ?_
  refine fin1 hE113 rfl rfl ?_
  rw[hM]
  exact⟨rfl,hgis1_1,Fy1_m0,hS3⟩
def Qem (p0:List Slot) (p1:Int):Nat→Nat→Int→List Slot→List Slot×Int
 | 0,i1,s1_1,y1_m0=>(y1_m0,s1_1)
 | fu1+1,i1,s1_1,y1_m0=>Qem p0 p1 fu1 (i1+1) (i64.wrap ((Qas ((nth y1_m0 i1).Cells) (i64.wrap (s1_1+1))).2+1)) (y1_m0.set i1 (Slot.mk s1_1 ((Qas ((nth y1_m0 i1).Cells) (i64.wrap (s1_1+1))).1) (decide (Int.tmod ((Qas ((nth y1_m0 i1).Cells) (i64.wrap (s1_1+1))).2) 3=0))))
def Qdl (p0:List Slot) (p1:Int):List Slot×Int:=Qem p0 p1 (p0.length - 0) 0 p1 p0
theorem Qyd {v0:Value} (p0:List Slot) {F0:List Nat} (p1:Int) {w:World} (hMu0:SH (Off [Ck.own (α:=List Slot) [v0] p0 F0] w) w w [Ck.own (α:=List Slot) [v0] p0 F0]) (hi1:I64 p1):
  Calls Tryz.prog 115 [v0,.int .i64 p1].toArray w (fun e w'=>e= .returned (.int .i64 (Qdl p0 p1).2)∧I64 (Qdl p0 p1).2∧ ∃ F',SH (Off [Ck.own (α:=List Slot) [v0] p0 F0] w) w w' [Ck.own (α:=List Slot) [v0] (Qdl p0 p1).1 F']):=by
 obtain⟨A0,cap0,rfl,hx0⟩:=(hMu0.slO (k:=0) rfl).form
 refine enter Tryz.func115 rfl Tryz.ntmps115 (Nat.le_of_ble_eq_true rfl) ?_
 intro a0 hE0
 have hS0:=hMu0
 have hM:=Qdl.eq_1 p0 p1
 have hij1: -9223372036854775808≤p1∧p1≤9223372036854775807:=hi1
 refine wp_seq (wp_region_lit ?_)
 refine Qaa hE0 (Qam hE0 rfl) rfl fun a1 hE1=>wpList_nil ?_
 refine Qab ?_
 refine wp_seq (wp_seq (wp_region_lit ?_))
 refine Qaa hE1 (Qam hE1 rfl) rfl fun a2 hE2=>wpList_nil ?_
 refine Qab ?_
 refine wp_block (wp_loop_ghost (fun fu1 a w2=> ∃ (i1:Nat) (s1_1:Int) (y1_m0:List Slot) (Fy1_m0:List Nat),0≤i1∧fu1=p0.length - i1∧(i1≤p0.length∨i1=0)∧I64 s1_1∧Qdl p0 p1=Qem p0 p1 fu1 i1 s1_1 y1_m0∧Env 36 [(0,.slice A0 p0.length cap0),(1,.int .i64 s1_1),(5,.int .i64 (i1:Int))] a∧SH (Off [Ck.own (α:=List Slot) [.slice A0 p0.length cap0] p0 F0] w) w w2 [Ck.own (α:=List Slot) [.slice A0 p0.length cap0] y1_m0 Fy1_m0]) (p0.length - 0) ⟨0,p1,p0,F0,Nat.le_refl _,rfl,.inr rfl,hi1,hM,hE2.weaken ⟨rfl,rfl,rfl,trivial⟩,hS0⟩ ?_)
 rintro fu1 a3 w3 ⟨i1,s1_1,y1_m0,Fy1_m0,hi1,hfu1,hup1,hgis1_1,hM,hE3,hS3⟩
 have hlry1_m0:=hS3.lenrow (k:=0) rfl
 refine wp_seq (wp_seq (wp_region_lit ?_))
 refine Qaa hE3 (Qah hE3 rfl) rfl fun a4 hE4=>Qaa hE4 (Qah hE4 rfl) rfl fun a5 hE5=>Qaa hE5 (Qfq hE5 rfl sl37) rfl fun a6 hE6=>Qaa hE6 (Qom hE6 rfl rfl) rfl fun a7 hE7=>wpList_nil ?_
 refine Qab ?_
 refine Qc7 hE7 rfl (fun hb8=>?_) (fun hb8=>?_)
 ·
  have hlt1:i1<p0.length:=by have:=of_decide_eq_true hb8;omega
  obtain⟨fu1,rfl⟩: ∃ m,fu1=m+1:=⟨fu1 - 1,by omega⟩
  have hM:=hM.trans (Qem.eq_2 _ _ _ _ _ _)
  refine wp_skip ?_
  refine Qab ?_
  refine wp_seq (wp_block (wp_seq (wp_region_lit ?_)))
  refine Qaa hE7 (Qah hE7 rfl) rfl fun a9 hE9=>Qaa hE9 (Qah hE9 rfl) rfl fun a10 hE10=>Qaa hE10 (Qah hE10 rfl) rfl fun a11 hE11=>?_
  have hlr12:=hS3.lenrow (k:=0) rfl
  obtain⟨g12,ce12,Fo12,G12,hA12,hn12,hF12⟩:=SH.focus (L:=[]) hS3 (i:=i1) (by omega)
  obtain⟨v12_1,F12_1,rfl,rfl,hg12_0,ho12_1,_⟩:=Yit (show Dat.own w3 ce12 (nth y1_m0 i1) G12 from hF12.get (k:=0) rfl)
  obtain⟨A12_1,cp12_1,rfl,hx12_1⟩:=ho12_1.form
  have hS13:=hF12.split [Ck.own (α:=List Cell) [.slice A12_1 ((nth y1_m0 i1).Cells.length) cp12_1] ((nth y1_m0 i1).Cells) F12_1] (by simp only[Ck.own,List.flatMap_cons,List.flatMap_nil,List.append_nil,List.append_assoc]) (Qi6 (Q71 ho12_1) Q70)
  simp only[List.cons_append,List.nil_append] at hS13
  refine Qaa hE11 (Qax (A:=⟨g12,0,none⟩) hE11 (congrArg (fun A=>some (Value.slice A p0.length cap0)) hA12) rfl (by omega) (by omega) sl37) rfl fun a14 hE14=>Qaa hE14 (Qat hE14 rfl Yo8 rfl) rfl fun a15 hE15=>Qb6 (α:=Slot) (k:=1) hE15 hS13 [.int .i64 s1_1,.slice A12_1 ((nth y1_m0 i1).Cells.length) cp12_1,.bool ((nth y1_m0 i1).Whole)] rfl rfl rfl (by rw[Int.toNat_natCast];rfl) rfl (Qbf one3) rfl rfl rfl rfl fun w16 (hS16:SH (Off [Ck.own (α:=List Slot) [.slice A0 p0.length cap0] p0 F0] w) w w16 [Ck.own (α:=List Cell) [.slice A12_1 ((nth y1_m0 i1).Cells.length) cp12_1] ((nth y1_m0 i1).Cells) F12_1,Ck.elem (α:=Slot) g12 i1 cap0 [.int .i64 s1_1,.slice A12_1 ((nth y1_m0 i1).Cells.length) cp12_1,.bool ((nth y1_m0 i1).Whole)] y1_m0 Fo12]) a17 hE17=>wpList_nil ?_
  refine Qab ?_
  refine wp_seq (wp_region_lit ?_)
  refine Qaa hE17 (Qah hE17 rfl) rfl fun a18 hE18=>Qaa hE18 (Qg4 hE18 rfl rfl) rfl fun a19 hE19=>Qaa hE19 (Qam hE19 rfl) rfl fun a20 hE20=>wpList_nil ?_
  refine Qab ?_
  refine wp_seq (wp_region_lit ?_)
  refine Qaa hE20 (Qah hE20 rfl) rfl fun a21 hE21=>Qaa hE21 (Qah hE21 rfl) rfl fun a22 hE22=>?_
  refine Qaa hE22 (Qax (A:=⟨g12,0,none⟩) hE22 (congrArg (fun A=>some (Value.slice A p0.length cap0)) hA12) rfl (by omega) (by omega) sl37) rfl fun a23 hE23=>Qaa hE23 (Qat hE23 rfl Yo7 rfl) rfl fun a24 hE24=>Qaa hE24 (Qf5 hE24 rfl (hS16.elemCells (k:=1) (p:=(((i1:Int)).toNat*3)) rfl (by rw[Int.toNat_natCast];rfl)) rfl Ytu) rfl fun a25 hE25=>Qaa hE25 (Qah hE25 rfl) rfl fun a26 hE26=>?_
  have hP27:SH (Off [Ck.own (α:=List Slot) [.slice A0 p0.length cap0] p0 F0] w) w w16 (Ck.own (α:=List Cell) [.slice A12_1 ((nth y1_m0 i1).Cells.length) cp12_1] ((nth y1_m0 i1).Cells) F12_1::[Ck.elem (α:=Slot) g12 i1 cap0 [.int .i64 s1_1,.slice A12_1 ((nth y1_m0 i1).Cells.length) cp12_1,.bool ((nth y1_m0 i1).Whole)] y1_m0 Fo12]):=hS16
  refine Qkw (c:=Ck.own (α:=List Cell) [.slice A12_1 ((nth y1_m0 i1).Cells.length) cp12_1] ((nth y1_m0 i1).Cells) F12_1) (c':=fun F27=>Ck.own (α:=List Cell) [.slice A12_1 ((nth y1_m0 i1).Cells.length) cp12_1] ((Qas ((nth y1_m0 i1).Cells) (i64.wrap (s1_1+1))).1) F27) (R:=I64 (Qas ((nth y1_m0 i1).Cells) (i64.wrap (s1_1+1))).2) hE26 hP27 Tryz.func54 fb54 fn54 (Qmp ((nth y1_m0 i1).Cells) (i64.wrap (s1_1+1)) (SH.off (M:=[Ck.own (α:=List Cell) [.slice A12_1 ((nth y1_m0 i1).Cells.length) cp12_1] ((nth y1_m0 i1).Cells) F12_1]) (R:=[Ck.elem (α:=Slot) g12 i1 cap0 [.int .i64 s1_1,.slice A12_1 ((nth y1_m0 i1).Cells.length) cp12_1,.bool ((nth y1_m0 i1).Whole)] y1_m0 Fo12]) hP27) (Qbi _)) rfl rfl fun F27 w27 hR27 hS27 a28 hE28=>Qaa hE28 (Qam hE28 rfl) rfl fun a29 hE29=>wpList_nil ?_
  refine Qab ?_
  refine wp_seq (wp_region_lit ?_)
  refine Qaa hE29 (Qah hE29 rfl) rfl fun a30 hE30=>Qaa hE30 (Qah hE30 rfl) rfl fun a31 hE31=>Qaa hE31 (Qah hE31 rfl) rfl fun a32 hE32=>Qaa hE32 (Ydc hE32 rfl rfl (by decide)) rfl fun a33 hE33=>Qaa hE33 (Yi2 hE33 rfl rfl) rfl fun a34 hE34=>?_
  refine Qaa hE34 (Qax (A:=⟨g12,0,none⟩) hE34 (congrArg (fun A=>some (Value.slice A p0.length cap0)) hA12) rfl (by omega) (by omega) sl37) rfl fun a35 hE35=>Qaa hE35 (Qat hE35 rfl Yo6 rfl) rfl fun a36 hE36=>Qb6 (α:=Slot) (k:=1) hE36 hS27 [.int .i64 s1_1,.slice A12_1 ((nth y1_m0 i1).Cells.length) cp12_1,.bool (decide (Int.tmod ((Qas ((nth y1_m0 i1).Cells) (i64.wrap (s1_1+1))).2) 3=0))] rfl rfl rfl (by rw[Int.toNat_natCast];rfl) rfl (Qbf one4) rfl rfl rfl rfl fun w37 (hS37:SH (Off [Ck.own (α:=List Slot) [.slice A0 p0.length cap0] p0 F0] w) w w37 [Ck.own (α:=List Cell) [.slice A12_1 ((nth y1_m0 i1).Cells.length) cp12_1] ((Qas ((nth y1_m0 i1).Cells) (i64.wrap (s1_1+1))).1) F27,Ck.elem (α:=Slot) g12 i1 cap0 [.int .i64 s1_1,.slice A12_1 ((nth y1_m0 i1).Cells.length) cp12_1,.bool (decide (Int.tmod ((Qas ((nth y1_m0 i1).Cells) (i64.wrap (s1_1+1))).2) 3=0))] y1_m0 Fo12]) a38 hE38=>wpList_nil ?_
  refine Qab ?_
  refine wp_region_lit ?_
  refine Qaa hE38 (Qah hE38 rfl) rfl fun a39 hE39=>Qaa hE39 (Qg4 hE39 rfl rfl) rfl fun a40 hE40=>Qaa hE40 (Qam hE40 rfl) rfl fun a41 hE41=>wpList_nil ?_
  refine Qfo ?_
  refine Qab ?_
  refine wp_region_lit ?_
  refine Qaa hE41 (Qah hE41 rfl) rfl fun a42 hE42=>Qaa hE42 (Qhj hE42 rfl rfl (m:=((i1+1:Nat):Int)) (by omega) (by omega) (by omega)) rfl fun a43 hE43=>Qaa hE43 (Qam hE43 rfl) rfl fun a44 hE44=>wpList_nil ?_
  have hJ45:=SH.joinP (L:=[Ck.elem (α:=Slot) g12 i1 cap0 [.int .i64 s1_1,.slice A12_1 ((nth y1_m0 i1).Cells.length) cp12_1,.bool (decide (Int.tmod ((Qas ((nth y1_m0 i1).Cells) (i64.wrap (s1_1+1))).2) 3=0))] y1_m0 Fo12]) (M:=[Ck.own (α:=List Cell) [.slice A12_1 ((nth y1_m0 i1).Cells.length) cp12_1] ((Qas ((nth y1_m0 i1).Cells) (i64.wrap (s1_1+1))).1) F27]) (c:=Ck.own (α:=Slot) [.int .i64 s1_1,.slice A12_1 ((nth y1_m0 i1).Cells.length) cp12_1,.bool (decide (Int.tmod ((Qas ((nth y1_m0 i1).Cells) (i64.wrap (s1_1+1))).2) 3=0))] (Slot.mk s1_1 ((Qas ((nth y1_m0 i1).Cells) (i64.wrap (s1_1+1))).1) (decide (Int.tmod ((Qas ((nth y1_m0 i1).Cells) (i64.wrap (s1_1+1))).2) 3=0))) (F27++[])) hS37 (List.Perm.of_eq (by simp only[Ck.own,List.flatMap_cons,List.flatMap_nil,List.append_nil,List.append_assoc])) (Ylq (Ymm (x:=(Slot.mk s1_1 ((Qas ((nth y1_m0 i1).Cells) (i64.wrap (s1_1+1))).1) (decide (Int.tmod ((Qas ((nth y1_m0 i1).Cells) (i64.wrap (s1_1+1))).2) 3=0)))) hgis1_1 (hS37.slO (k:=0) rfl)))
  obtain⟨F45,hS45⟩:=SH.unfocus (α:=Slot) (L:=[]) hJ45 hA12 hn12 (by omega)
  refine Qab ⟨fu1,Nat.lt_succ_self _,(i1+1),i64.wrap ((Qas ((nth y1_m0 i1).Cells) (i64.wrap (s1_1+1))).2+1),(y1_m0.set i1 (Slot.mk s1_1 ((Qas ((nth y1_m0 i1).Cells) (i64.wrap (s1_1+1))).1) (decide (Int.tmod ((Qas ((nth y1_m0 i1).Cells) (i64.wrap (s1_1+1))).2) 3=0)))),F45,by omega,by omega,.inl (by omega),(Qbi _),hM,hE44.weaken ⟨rfl,rfl,rfl,trivial⟩,hS45⟩
 ·
  have hge1: ¬ i1<p0.length:=by have:=of_decide_eq_false hb8;omega
  obtain rfl:fu1=0:=by omega
  have hM:=hM.trans (Qem.eq_1 _ _ _ _ _)
  refine wp_exit ?_
  refine Qcx ?_
  refine Qcx ?_
  refine Qhs ?_
  refine Qab ?_
  refine wp_seq (wp_region_lit ?_)
  refine Qaa hE7 (Qah hE7 rfl) rfl fun a46 hE46=>Qaa hE46 (Qam hE46 rfl) rfl fun a47 hE47=>wpList_nil ?_
  refine Qab ?_
  refine wp_ret ?_
  refine fin1 hE47 rfl rfl ?_
  rw[hM]
  exact⟨rfl,hgis1_1,Fy1_m0,hS3⟩
def Qdv (p0:List Step) (p1:Int):Nat→Nat→Int→List Step→List Step×Int
 | 0,i1,s1_1,y1_m0=>(y1_m0,s1_1)
 | fu1+1,i1,s1_1,y1_m0=>Qdv p0 p1 fu1 (i1+1) (i64.wrap (i64.wrap (i64.wrap (i64.wrap (i64.wrap (i64.wrap (i64.wrap (s1_1+1)+1)+1)+1)+1)+1)+1)) (y1_m0.set i1 (Step.mk s1_1 (Call.mk (i64.wrap (s1_1+1)) (Qae (i64.wrap (i64.wrap (s1_1+1)+1))) (Qae (i64.wrap (i64.wrap (i64.wrap (s1_1+1)+1)+1))) (i64.wrap (i64.wrap (i64.wrap (i64.wrap (s1_1+1)+1)+1)+1)) (i64.wrap (i64.wrap (i64.wrap (i64.wrap (i64.wrap (s1_1+1)+1)+1)+1)+1)) (Qae (i64.wrap (i64.wrap (i64.wrap (i64.wrap (i64.wrap (i64.wrap (s1_1+1)+1)+1)+1)+1)+1))))))
def Qaj (p0:List Step) (p1:Int):List Step×Int:=Qdv p0 p1 (p0.length - 0) 0 p1 p0
theorem Qyc {v0:Value} (p0:List Step) {F0:List Nat} (p1:Int) {w:World} (hMu0:SH (Off [Ck.own (α:=List Step) [v0] p0 F0] w) w w [Ck.own (α:=List Step) [v0] p0 F0]) (hi1:I64 p1):
  Calls Tryz.prog 64 [v0,.int .i64 p1].toArray w (fun e w'=>e= .returned (.int .i64 (Qaj p0 p1).2)∧I64 (Qaj p0 p1).2∧ ∃ F',SH (Off [Ck.own (α:=List Step) [v0] p0 F0] w) w w' [Ck.own (α:=List Step) [v0] (Qaj p0 p1).1 F']):=by
 obtain⟨A0,cap0,rfl,hx0⟩:=(hMu0.slO (k:=0) rfl).form
 refine enter Tryz.func64 rfl Tryz.ntmps64 (Nat.le_of_ble_eq_true rfl) ?_
 intro a0 hE0
 have hS0:=hMu0
 have hM:=Qaj.eq_1 p0 p1
 have hij1: -9223372036854775808≤p1∧p1≤9223372036854775807:=hi1
 refine wp_seq (wp_region_lit ?_)
 refine Qaa hE0 (Qam hE0 rfl) rfl fun a1 hE1=>wpList_nil ?_
 refine Qab ?_
 refine wp_seq (wp_seq (wp_region_lit ?_))
 refine Qaa hE1 (Qam hE1 rfl) rfl fun a2 hE2=>wpList_nil ?_
 refine Qab ?_
 refine wp_block (wp_loop_ghost (fun fu1 a w2=> ∃ (i1:Nat) (s1_1:Int) (y1_m0:List Step) (Fy1_m0:List Nat),0≤i1∧fu1=p0.length - i1∧(i1≤p0.length∨i1=0)∧I64 s1_1∧Qaj p0 p1=Qdv p0 p1 fu1 i1 s1_1 y1_m0∧Env 71 [(0,.slice A0 p0.length cap0),(1,.int .i64 s1_1),(5,.int .i64 (i1:Int))] a∧SH (Off [Ck.own (α:=List Step) [.slice A0 p0.length cap0] p0 F0] w) w w2 [Ck.own (α:=List Step) [.slice A0 p0.length cap0] y1_m0 Fy1_m0]) (p0.length - 0) ⟨0,p1,p0,F0,Nat.le_refl _,rfl,.inr rfl,hi1,hM,hE2.weaken ⟨rfl,rfl,rfl,trivial⟩,hS0⟩ ?_)
 rintro fu1 a3 w3 ⟨i1,s1_1,y1_m0,Fy1_m0,hi1,hfu1,hup1,hgis1_1,hM,hE3,hS3⟩
 have hlry1_m0:=hS3.lenrow (k:=0) rfl
 refine wp_seq (wp_seq (wp_region_lit ?_))
 refine Qaa hE3 (Qah hE3 rfl) rfl fun a4 hE4=>Qaa hE4 (Qah hE4 rfl) rfl fun a5 hE5=>Qaa hE5 (Qfq hE5 rfl sl77) rfl fun a6 hE6=>Qaa hE6 (Qom hE6 rfl rfl) rfl fun a7 hE7=>wpList_nil ?_
 refine Qab ?_
 refine Qc7 hE7 rfl (fun hb8=>?_) (fun hb8=>?_)
 ·
  have hlt1:i1<p0.length:=by have:=of_decide_eq_true hb8;omega
  obtain⟨fu1,rfl⟩: ∃ m,fu1=m+1:=⟨fu1 - 1,by omega⟩
  have hM:=hM.trans (Qdv.eq_2 _ _ _ _ _ _)
  refine wp_skip ?_
  refine Qab ?_
  refine wp_seq (wp_block (wp_seq (wp_region_lit ?_)))
  refine Qaa hE7 (Qah hE7 rfl) rfl fun a9 hE9=>Qaa hE9 (Qah hE9 rfl) rfl fun a10 hE10=>Qaa hE10 (Qah hE10 rfl) rfl fun a11 hE11=>?_
  have hlr12:=hS3.lenrow (k:=0) rfl
  obtain⟨g12,ce12,Fo12,G12,hA12,hn12,hF12⟩:=SH.focus (L:=[]) hS3 (i:=i1) (by omega)
  obtain⟨rfl,rfl,hg12_0,hg12_1,hg12_2,hg12_3,hg12_4,hg12_5,hg12_6,_⟩:=Yis (show Dat.own w3 ce12 (nth y1_m0 i1) G12 from hF12.get (k:=0) rfl)
  have hS13:=hF12.drop (k:=1)
  refine Qaa hE11 (Qax (A:=⟨g12,0,none⟩) hE11 (congrArg (fun A=>some (Value.slice A p0.length cap0)) hA12) rfl (by omega) (by omega) sl77) rfl fun a14 hE14=>Qaa hE14 (Qat hE14 rfl Yot rfl) rfl fun a15 hE15=>Qb6 (α:=Step) (k:=0) hE15 hS13 [.int .i64 s1_1,.int .i64 ((nth y1_m0 i1).Call.Kind),.string ((nth y1_m0 i1).Call.Name),.string ((nth y1_m0 i1).Call.To),.int .i64 ((nth y1_m0 i1).Call.A),.int .i64 ((nth y1_m0 i1).Call.B),.string ((nth y1_m0 i1).Call.Text)] rfl rfl rfl (by rw[Int.toNat_natCast];rfl) rfl (Qbf one3) rfl rfl rfl rfl fun w16 (hS16:SH (Off [Ck.own (α:=List Step) [.slice A0 p0.length cap0] p0 F0] w) w w16 [Ck.elem (α:=Step) g12 i1 cap0 [.int .i64 s1_1,.int .i64 ((nth y1_m0 i1).Call.Kind),.string ((nth y1_m0 i1).Call.Name),.string ((nth y1_m0 i1).Call.To),.int .i64 ((nth y1_m0 i1).Call.A),.int .i64 ((nth y1_m0 i1).Call.B),.string ((nth y1_m0 i1).Call.Text)] y1_m0 Fo12]) a17 hE17=>wpList_nil ?_
  refine Qab ?_
  refine wp_seq (wp_region_lit ?_)
  refine Qaa hE17 (Qah hE17 rfl) rfl fun a18 hE18=>Qaa hE18 (Qg4 hE18 rfl rfl) rfl fun a19 hE19=>Qaa hE19 (Qam hE19 rfl) rfl fun a20 hE20=>wpList_nil ?_
  refine Qab ?_
  refine wp_seq (wp_region_lit ?_)
  refine Qaa hE20 (Qah hE20 rfl) rfl fun a21 hE21=>Qaa hE21 (Qah hE21 rfl) rfl fun a22 hE22=>Qaa hE22 (Qah hE22 rfl) rfl fun a23 hE23=>?_
  refine Qaa hE23 (Qax (A:=⟨g12,0,none⟩) hE23 (congrArg (fun A=>some (Value.slice A p0.length cap0)) hA12) rfl (by omega) (by omega) sl77) rfl fun a24 hE24=>Qaa hE24 (Qat hE24 rfl Qro rfl) rfl fun a25 hE25=>Qaa hE25 (Qat hE25 rfl Ykb rfl) rfl fun a26 hE26=>Qb6 (α:=Step) (k:=0) hE26 hS16 [.int .i64 s1_1,.int .i64 (i64.wrap (s1_1+1)),.string ((nth y1_m0 i1).Call.Name),.string ((nth y1_m0 i1).Call.To),.int .i64 ((nth y1_m0 i1).Call.A),.int .i64 ((nth y1_m0 i1).Call.B),.string ((nth y1_m0 i1).Call.Text)] rfl rfl rfl (by rw[Int.toNat_natCast];rfl) rfl (Qbf one3) rfl rfl rfl rfl fun w27 (hS27:SH (Off [Ck.own (α:=List Step) [.slice A0 p0.length cap0] p0 F0] w) w w27 [Ck.elem (α:=Step) g12 i1 cap0 [.int .i64 s1_1,.int .i64 (i64.wrap (s1_1+1)),.string ((nth y1_m0 i1).Call.Name),.string ((nth y1_m0 i1).Call.To),.int .i64 ((nth y1_m0 i1).Call.A),.int .i64 ((nth y1_m0 i1).Call.B),.string ((nth y1_m0 i1).Call.Text)] y1_m0 Fo12]) a28 hE28=>wpList_nil ?_
  refine Qab ?_
  refine wp_seq (wp_region_lit ?_)
  refine Qaa hE28 (Qah hE28 rfl) rfl fun a29 hE29=>Qaa hE29 (Qg4 hE29 rfl rfl) rfl fun a30 hE30=>Qaa hE30 (Qam hE30 rfl) rfl fun a31 hE31=>wpList_nil ?_
  refine Qab ?_
  refine wp_seq (wp_region_lit ?_)
  refine Qaa hE31 (Qah hE31 rfl) rfl fun a32 hE32=>Qaa hE32 (Qah hE32 rfl) rfl fun a33 hE33=>Qaa hE33 (Qah hE33 rfl) rfl fun a34 hE34=>Qhk hE34 hS27 Tryz.func57 fb57 fn57 (Qdg (i64.wrap (i64.wrap (s1_1+1)+1)) (Qbi _)) rfl rfl fun w35 hS35 a36 hE36=>?_
  refine Qaa hE36 (Qax (A:=⟨g12,0,none⟩) hE36 (congrArg (fun A=>some (Value.slice A p0.length cap0)) hA12) rfl (by omega) (by omega) sl77) rfl fun a37 hE37=>Qaa hE37 (Qat hE37 rfl Qro rfl) rfl fun a38 hE38=>Qaa hE38 (Qat hE38 rfl Yka rfl) rfl fun a39 hE39=>Qb6 (α:=Step) (k:=0) hE39 hS35 [.int .i64 s1_1,.int .i64 (i64.wrap (s1_1+1)),.string (Qae (i64.wrap (i64.wrap (s1_1+1)+1))),.string ((nth y1_m0 i1).Call.To),.int .i64 ((nth y1_m0 i1).Call.A),.int .i64 ((nth y1_m0 i1).Call.B),.string ((nth y1_m0 i1).Call.Text)] rfl rfl rfl (by rw[Int.toNat_natCast];rfl) rfl (Qbf one9) rfl rfl rfl rfl fun w40 (hS40:SH (Off [Ck.own (α:=List Step) [.slice A0 p0.length cap0] p0 F0] w) w w40 [Ck.elem (α:=Step) g12 i1 cap0 [.int .i64 s1_1,.int .i64 (i64.wrap (s1_1+1)),.string (Qae (i64.wrap (i64.wrap (s1_1+1)+1))),.string ((nth y1_m0 i1).Call.To),.int .i64 ((nth y1_m0 i1).Call.A),.int .i64 ((nth y1_m0 i1).Call.B),.string ((nth y1_m0 i1).Call.Text)] y1_m0 Fo12]) a41 hE41=>wpList_nil ?_
  refine Qab ?_
  refine wp_seq (wp_region_lit ?_)
  refine Qaa hE41 (Qah hE41 rfl) rfl fun a42 hE42=>Qaa hE42 (Qg4 hE42 rfl rfl) rfl fun a43 hE43=>Qaa hE43 (Qam hE43 rfl) rfl fun a44 hE44=>wpList_nil ?_
  refine Qab ?_
  refine wp_seq (wp_region_lit ?_)
  refine Qaa hE44 (Qah hE44 rfl) rfl fun a45 hE45=>Qaa hE45 (Qah hE45 rfl) rfl fun a46 hE46=>Qaa hE46 (Qah hE46 rfl) rfl fun a47 hE47=>Qhk hE47 hS40 Tryz.func57 fb57 fn57 (Qdg (i64.wrap (i64.wrap (i64.wrap (s1_1+1)+1)+1)) (Qbi _)) rfl rfl fun w48 hS48 a49 hE49=>?_
  refine Qaa hE49 (Qax (A:=⟨g12,0,none⟩) hE49 (congrArg (fun A=>some (Value.slice A p0.length cap0)) hA12) rfl (by omega) (by omega) sl77) rfl fun a50 hE50=>Qaa hE50 (Qat hE50 rfl Qro rfl) rfl fun a51 hE51=>Qaa hE51 (Qat hE51 rfl Yj9 rfl) rfl fun a52 hE52=>Qb6 (α:=Step) (k:=0) hE52 hS48 [.int .i64 s1_1,.int .i64 (i64.wrap (s1_1+1)),.string (Qae (i64.wrap (i64.wrap (s1_1+1)+1))),.string (Qae (i64.wrap (i64.wrap (i64.wrap (s1_1+1)+1)+1))),.int .i64 ((nth y1_m0 i1).Call.A),.int .i64 ((nth y1_m0 i1).Call.B),.string ((nth y1_m0 i1).Call.Text)] rfl rfl rfl (by rw[Int.toNat_natCast];rfl) rfl (Qbf one9) rfl rfl rfl rfl fun w53 (hS53:SH (Off [Ck.own (α:=List Step) [.slice A0 p0.length cap0] p0 F0] w) w w53 [Ck.elem (α:=Step) g12 i1 cap0 [.int .i64 s1_1,.int .i64 (i64.wrap (s1_1+1)),.string (Qae (i64.wrap (i64.wrap (s1_1+1)+1))),.string (Qae (i64.wrap (i64.wrap (i64.wrap (s1_1+1)+1)+1))),.int .i64 ((nth y1_m0 i1).Call.A),.int .i64 ((nth y1_m0 i1).Call.B),.string ((nth y1_m0 i1).Call.Text)] y1_m0 Fo12]) a54 hE54=>wpList_nil ?_
  refine Qab ?_
  refine wp_seq (wp_region_lit ?_)
  refine Qaa hE54 (Qah hE54 rfl) rfl fun a55 hE55=>Qaa hE55 (Qg4 hE55 rfl rfl) rfl fun a56 hE56=>Qaa hE56 (Qam hE56 rfl) rfl fun a57 hE57=>wpList_nil ?_
  refine Qab ?_
  refine wp_seq (wp_region_lit ?_)
  refine Qaa hE57 (Qah hE57 rfl) rfl fun a58 hE58=>Qaa hE58 (Qah hE58 rfl) rfl fun a59 hE59=>Qaa hE59 (Qah hE59 rfl) rfl fun a60 hE60=>?_
  refine Qaa hE60 (Qax (A:=⟨g12,0,none⟩) hE60 (congrArg (fun A=>some (Value.slice A p0.length cap0)) hA12) rfl (by omega) (by omega) sl77) rfl fun a61 hE61=>Qaa hE61 (Qat hE61 rfl Qro rfl) rfl fun a62 hE62=>Qaa hE62 (Qat hE62 rfl Yj8 rfl) rfl fun a63 hE63=>Qb6 (α:=Step) (k:=0) hE63 hS53 [.int .i64 s1_1,.int .i64 (i64.wrap (s1_1+1)),.string (Qae (i64.wrap (i64.wrap (s1_1+1)+1))),.string (Qae (i64.wrap (i64.wrap (i64.wrap (s1_1+1)+1)+1))),.int .i64 (i64.wrap (i64.wrap (i64.wrap (i64.wrap (s1_1+1)+1)+1)+1)),.int .i64 ((nth y1_m0 i1).Call.B),.string ((nth y1_m0 i1).Call.Text)] rfl rfl rfl (by rw[Int.toNat_natCast];rfl) rfl (Qbf one3) rfl rfl rfl rfl fun w64 (hS64:SH (Off [Ck.own (α:=List Step) [.slice A0 p0.length cap0] p0 F0] w) w w64 [Ck.elem (α:=Step) g12 i1 cap0 [.int .i64 s1_1,.int .i64 (i64.wrap (s1_1+1)),.string (Qae (i64.wrap (i64.wrap (s1_1+1)+1))),.string (Qae (i64.wrap (i64.wrap (i64.wrap (s1_1+1)+1)+1))),.int .i64 (i64.wrap (i64.wrap (i64.wrap (i64.wrap (s1_1+1)+1)+1)+1)),.int .i64 ((nth y1_m0 i1).Call.B),.string ((nth y1_m0 i1).Call.Text)] y1_m0 Fo12]) a65 hE65=>wpList_nil ?_
  refine Qab ?_
  refine wp_seq (wp_region_lit ?_)
  refine Qaa hE65 (Qah hE65 rfl) rfl fun a66 hE66=>Qaa hE66 (Qg4 hE66 rfl rfl) rfl fun a67 hE67=>Qaa hE67 (Qam hE67 rfl) rfl fun a68 hE68=>wpList_nil ?_
  refine Qab ?_
  refine wp_seq (wp_region_lit ?_)
  refine Qaa hE68 (Qah hE68 rfl) rfl fun a69 hE69=>Qaa hE69 (Qah hE69 rfl) rfl fun a70 hE70=>Qaa hE70 (Qah hE70 rfl) rfl fun a71 hE71=>?_
  refine Qaa hE71 (Qax (A:=⟨g12,0,none⟩) hE71 (congrArg (fun A=>some (Value.slice A p0.length cap0)) hA12) rfl (by omega) (by omega) sl77) rfl fun a72 hE72=>Qaa hE72 (Qat hE72 rfl Qro rfl) rfl fun a73 hE73=>Qaa hE73 (Qat hE73 rfl Yj7 rfl) rfl fun a74 hE74=>Qb6 (α:=Step) (k:=0) hE74 hS64 [.int .i64 s1_1,.int .i64 (i64.wrap (s1_1+1)),.string (Qae (i64.wrap (i64.wrap (s1_1+1)+1))),.string (Qae (i64.wrap (i64.wrap (i64.wrap (s1_1+1)+1)+1))),.int .i64 (i64.wrap (i64.wrap (i64.wrap (i64.wrap (s1_1+1)+1)+1)+1)),.int .i64 (i64.wrap (i64.wrap (i64.wrap (i64.wrap (i64.wrap (s1_1+1)+1)+1)+1)+1)),.string ((nth y1_m0 i1).Call.Text)] rfl rfl rfl (by rw[Int.toNat_natCast];rfl) rfl (Qbf one3) rfl rfl rfl rfl fun w75 (hS75:SH (Off [Ck.own (α:=List Step) [.slice A0 p0.length cap0] p0 F0] w) w w75 [Ck.elem (α:=Step) g12 i1 cap0 [.int .i64 s1_1,.int .i64 (i64.wrap (s1_1+1)),.string (Qae (i64.wrap (i64.wrap (s1_1+1)+1))),.string (Qae (i64.wrap (i64.wrap (i64.wrap (s1_1+1)+1)+1))),.int .i64 (i64.wrap (i64.wrap (i64.wrap (i64.wrap (s1_1+1)+1)+1)+1)),.int .i64 (i64.wrap (i64.wrap (i64.wrap (i64.wrap (i64.wrap (s1_1+1)+1)+1)+1)+1)),.string ((nth y1_m0 i1).Call.Text)] y1_m0 Fo12]) a76 hE76=>wpList_nil ?_
  refine Qab ?_
  refine wp_seq (wp_region_lit ?_)
  refine Qaa hE76 (Qah hE76 rfl) rfl fun a77 hE77=>Qaa hE77 (Qg4 hE77 rfl rfl) rfl fun a78 hE78=>Qaa hE78 (Qam hE78 rfl) rfl fun a79 hE79=>wpList_nil ?_
  refine Qab ?_
  refine wp_seq (wp_region_lit ?_)
  refine Qaa hE79 (Qah hE79 rfl) rfl fun a80 hE80=>Qaa hE80 (Qah hE80 rfl) rfl fun a81 hE81=>Qaa hE81 (Qah hE81 rfl) rfl fun a82 hE82=>Qhk hE82 hS75 Tryz.func57 fb57 fn57 (Qdg (i64.wrap (i64.wrap (i64.wrap (i64.wrap (i64.wrap (i64.wrap (s1_1+1)+1)+1)+1)+1)+1)) (Qbi _)) rfl rfl fun w83 hS83 a84 hE84=>?_
  refine Qaa hE84 (Qax (A:=⟨g12,0,none⟩) hE84 (congrArg (fun A=>some (Value.slice A p0.length cap0)) hA12) rfl (by omega) (by omega) sl77) rfl fun a85 hE85=>Qaa hE85 (Qat hE85 rfl Qro rfl) rfl fun a86 hE86=>Qaa hE86 (Qat hE86 rfl Yj6 rfl) rfl fun a87 hE87=>Qb6 (α:=Step) (k:=0) hE87 hS83 [.int .i64 s1_1,.int .i64 (i64.wrap (s1_1+1)),.string (Qae (i64.wrap (i64.wrap (s1_1+1)+1))),.string (Qae (i64.wrap (i64.wrap (i64.wrap (s1_1+1)+1)+1))),.int .i64 (i64.wrap (i64.wrap (i64.wrap (i64.wrap (s1_1+1)+1)+1)+1)),.int .i64 (i64.wrap (i64.wrap (i64.wrap (i64.wrap (i64.wrap (s1_1+1)+1)+1)+1)+1)),.string (Qae (i64.wrap (i64.wrap (i64.wrap (i64.wrap (i64.wrap (i64.wrap (s1_1+1)+1)+1)+1)+1)+1)))] rfl rfl rfl (by rw[Int.toNat_natCast];rfl) rfl (Qbf one9) rfl rfl rfl rfl fun w88 (hS88:SH (Off [Ck.own (α:=List Step) [.slice A0 p0.length cap0] p0 F0] w) w w88 [Ck.elem (α:=Step) g12 i1 cap0 [.int .i64 s1_1,.int .i64 (i64.wrap (s1_1+1)),.string (Qae (i64.wrap (i64.wrap (s1_1+1)+1))),.string (Qae (i64.wrap (i64.wrap (i64.wrap (s1_1+1)+1)+1))),.int .i64 (i64.wrap (i64.wrap (i64.wrap (i64.wrap (s1_1+1)+1)+1)+1)),.int .i64 (i64.wrap (i64.wrap (i64.wrap (i64.wrap (i64.wrap (s1_1+1)+1)+1)+1)+1)),.string (Qae (i64.wrap (i64.wrap (i64.wrap (i64.wrap (i64.wrap (i64.wrap (s1_1+1)+1)+1)+1)+1)+1)))] y1_m0 Fo12]) a89 hE89=>wpList_nil ?_
  refine Qab ?_
  refine wp_region_lit ?_
  refine Qaa hE89 (Qah hE89 rfl) rfl fun a90 hE90=>Qaa hE90 (Qg4 hE90 rfl rfl) rfl fun a91 hE91=>Qaa hE91 (Qam hE91 rfl) rfl fun a92 hE92=>wpList_nil ?_
  refine Qfo ?_
  refine Qab ?_
  refine wp_region_lit ?_
  refine Qaa hE92 (Qah hE92 rfl) rfl fun a93 hE93=>Qaa hE93 (Qhj hE93 rfl rfl (m:=((i1+1:Nat):Int)) (by omega) (by omega) (by omega)) rfl fun a94 hE94=>Qaa hE94 (Qam hE94 rfl) rfl fun a95 hE95=>wpList_nil ?_
  have hJ96:=SH.flat (L:=[Ck.elem (α:=Step) g12 i1 cap0 [.int .i64 s1_1,.int .i64 (i64.wrap (s1_1+1)),.string (Qae (i64.wrap (i64.wrap (s1_1+1)+1))),.string (Qae (i64.wrap (i64.wrap (i64.wrap (s1_1+1)+1)+1))),.int .i64 (i64.wrap (i64.wrap (i64.wrap (i64.wrap (s1_1+1)+1)+1)+1)),.int .i64 (i64.wrap (i64.wrap (i64.wrap (i64.wrap (i64.wrap (s1_1+1)+1)+1)+1)+1)),.string (Qae (i64.wrap (i64.wrap (i64.wrap (i64.wrap (i64.wrap (i64.wrap (s1_1+1)+1)+1)+1)+1)+1)))] y1_m0 Fo12]) (α:=Step) (cs:=[.int .i64 s1_1,.int .i64 (i64.wrap (s1_1+1)),.string (Qae (i64.wrap (i64.wrap (s1_1+1)+1))),.string (Qae (i64.wrap (i64.wrap (i64.wrap (s1_1+1)+1)+1))),.int .i64 (i64.wrap (i64.wrap (i64.wrap (i64.wrap (s1_1+1)+1)+1)+1)),.int .i64 (i64.wrap (i64.wrap (i64.wrap (i64.wrap (i64.wrap (s1_1+1)+1)+1)+1)+1)),.string (Qae (i64.wrap (i64.wrap (i64.wrap (i64.wrap (i64.wrap (i64.wrap (s1_1+1)+1)+1)+1)+1)+1)))]) (x:=(Step.mk s1_1 (Call.mk (i64.wrap (s1_1+1)) (Qae (i64.wrap (i64.wrap (s1_1+1)+1))) (Qae (i64.wrap (i64.wrap (i64.wrap (s1_1+1)+1)+1))) (i64.wrap (i64.wrap (i64.wrap (i64.wrap (s1_1+1)+1)+1)+1)) (i64.wrap (i64.wrap (i64.wrap (i64.wrap (i64.wrap (s1_1+1)+1)+1)+1)+1)) (Qae (i64.wrap (i64.wrap (i64.wrap (i64.wrap (i64.wrap (i64.wrap (s1_1+1)+1)+1)+1)+1)+1)))))) hS88 (fun _=>Yml (x:=(Step.mk s1_1 (Call.mk (i64.wrap (s1_1+1)) (Qae (i64.wrap (i64.wrap (s1_1+1)+1))) (Qae (i64.wrap (i64.wrap (i64.wrap (s1_1+1)+1)+1))) (i64.wrap (i64.wrap (i64.wrap (i64.wrap (s1_1+1)+1)+1)+1)) (i64.wrap (i64.wrap (i64.wrap (i64.wrap (i64.wrap (s1_1+1)+1)+1)+1)+1)) (Qae (i64.wrap (i64.wrap (i64.wrap (i64.wrap (i64.wrap (i64.wrap (s1_1+1)+1)+1)+1)+1)+1)))))) hgis1_1 (Qbi _) (Qcv (by first | assumption | exact Qbi _)) (Qcv (by first | assumption | exact Qbi _)) (Qbi _) (Qbi _) (Qcv (by first | assumption | exact Qbi _)))
  obtain⟨F96,hS96⟩:=SH.unfocus (α:=Step) (L:=[]) hJ96 hA12 hn12 (by omega)
  refine Qab ⟨fu1,Nat.lt_succ_self _,(i1+1),i64.wrap (i64.wrap (i64.wrap (i64.wrap (i64.wrap (i64.wrap (i64.wrap (s1_1+1)+1)+1)+1)+1)+1)+1),(y1_m0.set i1 (Step.mk s1_1 (Call.mk (i64.wrap (s1_1+1)) (Qae (i64.wrap (i64.wrap (s1_1+1)+1))) (Qae (i64.wrap (i64.wrap (i64.wrap (s1_1+1)+1)+1))) (i64.wrap (i64.wrap (i64.wrap (i64.wrap (s1_1+1)+1)+1)+1)) (i64.wrap (i64.wrap (i64.wrap (i64.wrap (i64.wrap (s1_1+1)+1)+1)+1)+1)) (Qae (i64.wrap (i64.wrap (i64.wrap (i64.wrap (i64.wrap (i64.wrap (s1_1+1)+1)+1)+1)+1)+1)))))),F96,by omega,by omega,.inl (by omega),(Qbi _),hM,hE95.weaken ⟨rfl,rfl,rfl,trivial⟩,hS96⟩
 ·
  have hge1: ¬ i1<p0.length:=by have:=of_decide_eq_false hb8;omega
  obtain rfl:fu1=0:=by omega
  have hM:=hM.trans (Qdv.eq_1 _ _ _ _ _)
  refine wp_exit ?_
  refine Qcx ?_
  refine Qcx ?_
  refine Qhs ?_
  refine Qab ?_
  refine wp_seq (wp_region_lit ?_)
  refine Qaa hE7 (Qah hE7 rfl) rfl fun a97 hE97=>Qaa hE97 (Qam hE97 rfl) rfl fun a98 hE98=>wpList_nil ?_
  refine Qab ?_
  refine wp_ret ?_
  refine fin1 hE98 rfl rfl ?_
  rw[hM]
  exact⟨rfl,hgis1_1,Fy1_m0,hS3⟩
def Qd2 (p0:List Entry) (p1:Int):Nat→Nat→Int→List Entry→List Entry×Int
 | 0,i1,s1_1,y1_m0=>(y1_m0,s1_1)
 | fu1+1,i1,s1_1,y1_m0=>Qd2 p0 p1 fu1 (i1+1) (i64.wrap (i64.wrap (i64.wrap ((Qac ((nth y1_m0 i1).Answers) ((Qaj ((nth y1_m0 i1).Steps) (i64.wrap (i64.wrap (i64.wrap (s1_1+1)+1)+1))).2)).2+1)+1)+1)) (y1_m0.set i1 (Entry.mk s1_1 (i64.wrap (s1_1+1)) (i64.wrap (i64.wrap (s1_1+1)+1)) ((Qaj ((nth y1_m0 i1).Steps) (i64.wrap (i64.wrap (i64.wrap (s1_1+1)+1)+1))).1) ((Qac ((nth y1_m0 i1).Answers) ((Qaj ((nth y1_m0 i1).Steps) (i64.wrap (i64.wrap (i64.wrap (s1_1+1)+1)+1))).2)).1) ((Qac ((nth y1_m0 i1).Answers) ((Qaj ((nth y1_m0 i1).Steps) (i64.wrap (i64.wrap (i64.wrap (s1_1+1)+1)+1))).2)).2) (i64.wrap ((Qac ((nth y1_m0 i1).Answers) ((Qaj ((nth y1_m0 i1).Steps) (i64.wrap (i64.wrap (i64.wrap (s1_1+1)+1)+1))).2)).2+1)) (decide (Int.tmod (i64.wrap (i64.wrap ((Qac ((nth y1_m0 i1).Answers) ((Qaj ((nth y1_m0 i1).Steps) (i64.wrap (i64.wrap (i64.wrap (s1_1+1)+1)+1))).2)).2+1)+1)) 3=0))))
def Qc0 (p0:List Entry) (p1:Int):List Entry×Int:=Qd2 p0 p1 (p0.length - 0) 0 p1 p0
theorem Qru {v0:Value} (p0:List Entry) {F0:List Nat} (p1:Int) {w:World} (hMu0:SH (Off [Ck.own (α:=List Entry) [v0] p0 F0] w) w w [Ck.own (α:=List Entry) [v0] p0 F0]) (hi1:I64 p1):
  Calls Tryz.prog 25 [v0,.int .i64 p1].toArray w (fun e w'=>e= .returned (.int .i64 (Qc0 p0 p1).2)∧I64 (Qc0 p0 p1).2∧ ∃ F',SH (Off [Ck.own (α:=List Entry) [v0] p0 F0] w) w w' [Ck.own (α:=List Entry) [v0] (Qc0 p0 p1).1 F']):=by
 obtain⟨A0,cap0,rfl,hx0⟩:=(hMu0.slO (k:=0) rfl).form
 refine enter Tryz.func25 rfl Tryz.ntmps25 (Nat.le_of_ble_eq_true rfl) ?_
 intro a0 hE0
 have hS0:=hMu0
 have hM:=Qc0.eq_1 p0 p1
 have hij1: -9223372036854775808≤p1∧p1≤9223372036854775807:=hi1
 refine wp_seq (wp_region_lit ?_)
 refine Qaa hE0 (Qam hE0 rfl) rfl fun a1 hE1=>wpList_nil ?_
 refine Qab ?_
 refine wp_seq (wp_seq (wp_region_lit ?_))
 refine Qaa hE1 (Qam hE1 rfl) rfl fun a2 hE2=>wpList_nil ?_
 refine Qab ?_
 refine wp_block (wp_loop_ghost (fun fu1 a w2=> ∃ (i1:Nat) (s1_1:Int) (y1_m0:List Entry) (Fy1_m0:List Nat),0≤i1∧fu1=p0.length - i1∧(i1≤p0.length∨i1=0)∧I64 s1_1∧Qc0 p0 p1=Qd2 p0 p1 fu1 i1 s1_1 y1_m0∧Env 71 [(0,.slice A0 p0.length cap0),(1,.int .i64 s1_1),(5,.int .i64 (i1:Int))] a∧SH (Off [Ck.own (α:=List Entry) [.slice A0 p0.length cap0] p0 F0] w) w w2 [Ck.own (α:=List Entry) [.slice A0 p0.length cap0] y1_m0 Fy1_m0]) (p0.length - 0) ⟨0,p1,p0,F0,Nat.le_refl _,rfl,.inr rfl,hi1,hM,hE2.weaken ⟨rfl,rfl,rfl,trivial⟩,hS0⟩ ?_)
 rintro fu1 a3 w3 ⟨i1,s1_1,y1_m0,Fy1_m0,hi1,hfu1,hup1,hgis1_1,hM,hE3,hS3⟩
 have hlry1_m0:=hS3.lenrow (k:=0) rfl
 refine wp_seq (wp_seq (wp_region_lit ?_))
 refine Qaa hE3 (Qah hE3 rfl) rfl fun a4 hE4=>Qaa hE4 (Qah hE4 rfl) rfl fun a5 hE5=>Qaa hE5 (Qfq hE5 rfl sl41) rfl fun a6 hE6=>Qaa hE6 (Qom hE6 rfl rfl) rfl fun a7 hE7=>wpList_nil ?_
 refine Qab ?_
 refine Qc7 hE7 rfl (fun hb8=>?_) (fun hb8=>?_)
 ·
  have hlt1:i1<p0.length:=by have:=of_decide_eq_true hb8;omega
  obtain⟨fu1,rfl⟩: ∃ m,fu1=m+1:=⟨fu1 - 1,by omega⟩
  have hM:=hM.trans (Qd2.eq_2 _ _ _ _ _ _)
  refine wp_skip ?_
  refine Qab ?_
  refine wp_seq (wp_block (wp_seq (wp_region_lit ?_)))
  refine Qaa hE7 (Qah hE7 rfl) rfl fun a9 hE9=>Qaa hE9 (Qah hE9 rfl) rfl fun a10 hE10=>Qaa hE10 (Qah hE10 rfl) rfl fun a11 hE11=>?_
  have hlr12:=hS3.lenrow (k:=0) rfl
  obtain⟨g12,ce12,Fo12,G12,hA12,hn12,hF12⟩:=SH.focus (L:=[]) hS3 (i:=i1) (by omega)
  obtain⟨v12_3,F12_3,v12_4,F12_4,rfl,rfl,hg12_0,hg12_1,hg12_2,ho12_3,ho12_4,hg12_5,hg12_6,_⟩:=Yeh (show Dat.own w3 ce12 (nth y1_m0 i1) G12 from hF12.get (k:=0) rfl)
  obtain⟨A12_3,cp12_3,rfl,hx12_3⟩:=ho12_3.form
  obtain⟨A12_4,cp12_4,rfl,hx12_4⟩:=ho12_4.form
  have hS13:=hF12.split [Ck.own (α:=List Step) [.slice A12_3 ((nth y1_m0 i1).Steps.length) cp12_3] ((nth y1_m0 i1).Steps) F12_3,Ck.own (α:=List Answer) [.slice A12_4 ((nth y1_m0 i1).Answers.length) cp12_4] ((nth y1_m0 i1).Answers) F12_4] (by simp only[Ck.own,List.flatMap_cons,List.flatMap_nil,List.append_nil,List.append_assoc]) (Qi6 (Q71 ho12_3) (Qi6 (Q71 ho12_4) Q70))
  simp only[List.cons_append,List.nil_append] at hS13
  refine Qaa hE11 (Qax (A:=⟨g12,0,none⟩) hE11 (congrArg (fun A=>some (Value.slice A p0.length cap0)) hA12) rfl (by omega) (by omega) sl41) rfl fun a14 hE14=>Qaa hE14 (Qat hE14 rfl Ysj rfl) rfl fun a15 hE15=>Qb6 (α:=Entry) (k:=2) hE15 hS13 [.int .i64 s1_1,.int .i64 ((nth y1_m0 i1).Kind),.int .i64 ((nth y1_m0 i1).Tx),.slice A12_3 ((nth y1_m0 i1).Steps.length) cp12_3,.slice A12_4 ((nth y1_m0 i1).Answers.length) cp12_4,.int .i64 ((nth y1_m0 i1).Began),.int .i64 ((nth y1_m0 i1).Ended),.bool ((nth y1_m0 i1).Laid)] rfl rfl rfl (by rw[Int.toNat_natCast];rfl) rfl (Qbf one3) rfl rfl rfl rfl fun w16 (hS16:SH (Off [Ck.own (α:=List Entry) [.slice A0 p0.length cap0] p0 F0] w) w w16 [Ck.own (α:=List Step) [.slice A12_3 ((nth y1_m0 i1).Steps.length) cp12_3] ((nth y1_m0 i1).Steps) F12_3,Ck.own (α:=List Answer) [.slice A12_4 ((nth y1_m0 i1).Answers.length) cp12_4] ((nth y1_m0 i1).Answers) F12_4,Ck.elem (α:=Entry) g12 i1 cap0 [.int .i64 s1_1,.int .i64 ((nth y1_m0 i1).Kind),.int .i64 ((nth y1_m0 i1).Tx),.slice A12_3 ((nth y1_m0 i1).Steps.length) cp12_3,.slice A12_4 ((nth y1_m0 i1).Answers.length) cp12_4,.int .i64 ((nth y1_m0 i1).Began),.int .i64 ((nth y1_m0 i1).Ended),.bool ((nth y1_m0 i1).Laid)] y1_m0 Fo12]) a17 hE17=>wpList_nil ?_
  refine Qab ?_
  refine wp_seq (wp_region_lit ?_)
  refine Qaa hE17 (Qah hE17 rfl) rfl fun a18 hE18=>Qaa hE18 (Qg4 hE18 rfl rfl) rfl fun a19 hE19=>Qaa hE19 (Qam hE19 rfl) rfl fun a20 hE20=>wpList_nil ?_
  refine Qab ?_
  refine wp_seq (wp_region_lit ?_)
  refine Qaa hE20 (Qah hE20 rfl) rfl fun a21 hE21=>Qaa hE21 (Qah hE21 rfl) rfl fun a22 hE22=>Qaa hE22 (Qah hE22 rfl) rfl fun a23 hE23=>?_
  refine Qaa hE23 (Qax (A:=⟨g12,0,none⟩) hE23 (congrArg (fun A=>some (Value.slice A p0.length cap0)) hA12) rfl (by omega) (by omega) sl41) rfl fun a24 hE24=>Qaa hE24 (Qat hE24 rfl Ysi rfl) rfl fun a25 hE25=>Qb6 (α:=Entry) (k:=2) hE25 hS16 [.int .i64 s1_1,.int .i64 (i64.wrap (s1_1+1)),.int .i64 ((nth y1_m0 i1).Tx),.slice A12_3 ((nth y1_m0 i1).Steps.length) cp12_3,.slice A12_4 ((nth y1_m0 i1).Answers.length) cp12_4,.int .i64 ((nth y1_m0 i1).Began),.int .i64 ((nth y1_m0 i1).Ended),.bool ((nth y1_m0 i1).Laid)] rfl rfl rfl (by rw[Int.toNat_natCast];rfl) rfl (Qbf one3) rfl rfl rfl rfl fun w26 (hS26:SH (Off [Ck.own (α:=List Entry) [.slice A0 p0.length cap0] p0 F0] w) w w26 [Ck.own (α:=List Step) [.slice A12_3 ((nth y1_m0 i1).Steps.length) cp12_3] ((nth y1_m0 i1).Steps) F12_3,Ck.own (α:=List Answer) [.slice A12_4 ((nth y1_m0 i1).Answers.length) cp12_4] ((nth y1_m0 i1).Answers) F12_4,Ck.elem (α:=Entry) g12 i1 cap0 [.int .i64 s1_1,.int .i64 (i64.wrap (s1_1+1)),.int .i64 ((nth y1_m0 i1).Tx),.slice A12_3 ((nth y1_m0 i1).Steps.length) cp12_3,.slice A12_4 ((nth y1_m0 i1).Answers.length) cp12_4,.int .i64 ((nth y1_m0 i1).Began),.int .i64 ((nth y1_m0 i1).Ended),.bool ((nth y1_m0 i1).Laid)] y1_m0 Fo12]) a27 hE27=>wpList_nil ?_
  refine Qab ?_
  refine wp_seq (wp_region_lit ?_)
  refine Qaa hE27 (Qah hE27 rfl) rfl fun a28 hE28=>Qaa hE28 (Qg4 hE28 rfl rfl) rfl fun a29 hE29=>Qaa hE29 (Qam hE29 rfl) rfl fun a30 hE30=>wpList_nil ?_
  refine Qab ?_
  refine wp_seq (wp_region_lit ?_)
  refine Qaa hE30 (Qah hE30 rfl) rfl fun a31 hE31=>Qaa hE31 (Qah hE31 rfl) rfl fun a32 hE32=>Qaa hE32 (Qah hE32 rfl) rfl fun a33 hE33=>?_
  refine Qaa hE33 (Qax (A:=⟨g12,0,none⟩) hE33 (congrArg (fun A=>some (Value.slice A p0.length cap0)) hA12) rfl (by omega) (by omega) sl41) rfl fun a34 hE34=>Qaa hE34 (Qat hE34 rfl Ysh rfl) rfl fun a35 hE35=>Qb6 (α:=Entry) (k:=2) hE35 hS26 [.int .i64 s1_1,.int .i64 (i64.wrap (s1_1+1)),.int .i64 (i64.wrap (i64.wrap (s1_1+1)+1)),.slice A12_3 ((nth y1_m0 i1).Steps.length) cp12_3,.slice A12_4 ((nth y1_m0 i1).Answers.length) cp12_4,.int .i64 ((nth y1_m0 i1).Began),.int .i64 ((nth y1_m0 i1).Ended),.bool ((nth y1_m0 i1).Laid)] rfl rfl rfl (by rw[Int.toNat_natCast];rfl) rfl (Qbf one3) rfl rfl rfl rfl fun w36 (hS36:SH (Off [Ck.own (α:=List Entry) [.slice A0 p0.length cap0] p0 F0] w) w w36 [Ck.own (α:=List Step) [.slice A12_3 ((nth y1_m0 i1).Steps.length) cp12_3] ((nth y1_m0 i1).Steps) F12_3,Ck.own (α:=List Answer) [.slice A12_4 ((nth y1_m0 i1).Answers.length) cp12_4] ((nth y1_m0 i1).Answers) F12_4,Ck.elem (α:=Entry) g12 i1 cap0 [.int .i64 s1_1,.int .i64 (i64.wrap (s1_1+1)),.int .i64 (i64.wrap (i64.wrap (s1_1+1)+1)),.slice A12_3 ((nth y1_m0 i1).Steps.length) cp12_3,.slice A12_4 ((nth y1_m0 i1).Answers.length) cp12_4,.int .i64 ((nth y1_m0 i1).Began),.int .i64 ((nth y1_m0 i1).Ended),.bool ((nth y1_m0 i1).Laid)] y1_m0 Fo12]) a37 hE37=>wpList_nil ?_
  refine Qab ?_
  refine wp_seq (wp_region_lit ?_)
  refine Qaa hE37 (Qah hE37 rfl) rfl fun a38 hE38=>Qaa hE38 (Qg4 hE38 rfl rfl) rfl fun a39 hE39=>Qaa hE39 (Qam hE39 rfl) rfl fun a40 hE40=>wpList_nil ?_
  refine Qab ?_
  refine wp_seq (wp_region_lit ?_)
  refine Qaa hE40 (Qah hE40 rfl) rfl fun a41 hE41=>Qaa hE41 (Qah hE41 rfl) rfl fun a42 hE42=>?_
  refine Qaa hE42 (Qax (A:=⟨g12,0,none⟩) hE42 (congrArg (fun A=>some (Value.slice A p0.length cap0)) hA12) rfl (by omega) (by omega) sl41) rfl fun a43 hE43=>Qaa hE43 (Qat hE43 rfl Ysg rfl) rfl fun a44 hE44=>Qaa hE44 (Qf5 hE44 rfl (hS36.elemCells (k:=2) (p:=(((i1:Int)).toNat*8)) rfl (by rw[Int.toNat_natCast];rfl)) rfl Ytt) rfl fun a45 hE45=>Qaa hE45 (Qah hE45 rfl) rfl fun a46 hE46=>?_
  have hP47:SH (Off [Ck.own (α:=List Entry) [.slice A0 p0.length cap0] p0 F0] w) w w36 (Ck.own (α:=List Step) [.slice A12_3 ((nth y1_m0 i1).Steps.length) cp12_3] ((nth y1_m0 i1).Steps) F12_3::[Ck.own (α:=List Answer) [.slice A12_4 ((nth y1_m0 i1).Answers.length) cp12_4] ((nth y1_m0 i1).Answers) F12_4,Ck.elem (α:=Entry) g12 i1 cap0 [.int .i64 s1_1,.int .i64 (i64.wrap (s1_1+1)),.int .i64 (i64.wrap (i64.wrap (s1_1+1)+1)),.slice A12_3 ((nth y1_m0 i1).Steps.length) cp12_3,.slice A12_4 ((nth y1_m0 i1).Answers.length) cp12_4,.int .i64 ((nth y1_m0 i1).Began),.int .i64 ((nth y1_m0 i1).Ended),.bool ((nth y1_m0 i1).Laid)] y1_m0 Fo12]):=hS36
  refine Qkw (c:=Ck.own (α:=List Step) [.slice A12_3 ((nth y1_m0 i1).Steps.length) cp12_3] ((nth y1_m0 i1).Steps) F12_3) (c':=fun F47=>Ck.own (α:=List Step) [.slice A12_3 ((nth y1_m0 i1).Steps.length) cp12_3] ((Qaj ((nth y1_m0 i1).Steps) (i64.wrap (i64.wrap (i64.wrap (s1_1+1)+1)+1))).1) F47) (R:=I64 (Qaj ((nth y1_m0 i1).Steps) (i64.wrap (i64.wrap (i64.wrap (s1_1+1)+1)+1))).2) hE46 hP47 Tryz.func64 fb64 fn64 (Qyc ((nth y1_m0 i1).Steps) (i64.wrap (i64.wrap (i64.wrap (s1_1+1)+1)+1)) (SH.off (M:=[Ck.own (α:=List Step) [.slice A12_3 ((nth y1_m0 i1).Steps.length) cp12_3] ((nth y1_m0 i1).Steps) F12_3]) (R:=[Ck.own (α:=List Answer) [.slice A12_4 ((nth y1_m0 i1).Answers.length) cp12_4] ((nth y1_m0 i1).Answers) F12_4,Ck.elem (α:=Entry) g12 i1 cap0 [.int .i64 s1_1,.int .i64 (i64.wrap (s1_1+1)),.int .i64 (i64.wrap (i64.wrap (s1_1+1)+1)),.slice A12_3 ((nth y1_m0 i1).Steps.length) cp12_3,.slice A12_4 ((nth y1_m0 i1).Answers.length) cp12_4,.int .i64 ((nth y1_m0 i1).Began),.int .i64 ((nth y1_m0 i1).Ended),.bool ((nth y1_m0 i1).Laid)] y1_m0 Fo12]) hP47) (Qbi _)) rfl rfl fun F47 w47 hR47 hS47 a48 hE48=>Qaa hE48 (Qam hE48 rfl) rfl fun a49 hE49=>wpList_nil ?_
  refine Qab ?_
  refine wp_seq (wp_region_lit ?_)
  refine Qaa hE49 (Qah hE49 rfl) rfl fun a50 hE50=>Qaa hE50 (Qah hE50 rfl) rfl fun a51 hE51=>?_
  refine Qaa hE51 (Qax (A:=⟨g12,0,none⟩) hE51 (congrArg (fun A=>some (Value.slice A p0.length cap0)) hA12) rfl (by omega) (by omega) sl41) rfl fun a52 hE52=>Qaa hE52 (Qat hE52 rfl Ysf rfl) rfl fun a53 hE53=>Qaa hE53 (Qf5 hE53 rfl (hS47.elemCells (k:=2) (p:=(((i1:Int)).toNat*8)) rfl (by rw[Int.toNat_natCast];rfl)) rfl Yp0) rfl fun a54 hE54=>Qaa hE54 (Qah hE54 rfl) rfl fun a55 hE55=>?_
  have hP56:SH (Off [Ck.own (α:=List Entry) [.slice A0 p0.length cap0] p0 F0] w) w w47 (Ck.own (α:=List Answer) [.slice A12_4 ((nth y1_m0 i1).Answers.length) cp12_4] ((nth y1_m0 i1).Answers) F12_4::[Ck.own (α:=List Step) [.slice A12_3 ((nth y1_m0 i1).Steps.length) cp12_3] ((Qaj ((nth y1_m0 i1).Steps) (i64.wrap (i64.wrap (i64.wrap (s1_1+1)+1)+1))).1) F47,Ck.elem (α:=Entry) g12 i1 cap0 [.int .i64 s1_1,.int .i64 (i64.wrap (s1_1+1)),.int .i64 (i64.wrap (i64.wrap (s1_1+1)+1)),.slice A12_3 ((nth y1_m0 i1).Steps.length) cp12_3,.slice A12_4 ((nth y1_m0 i1).Answers.length) cp12_4,.int .i64 ((nth y1_m0 i1).Began),.int .i64 ((nth y1_m0 i1).Ended),.bool ((nth y1_m0 i1).Laid)] y1_m0 Fo12]):=(hS47.pick [1,0,2] (by decide) rfl)
  refine Qkw (c:=Ck.own (α:=List Answer) [.slice A12_4 ((nth y1_m0 i1).Answers.length) cp12_4] ((nth y1_m0 i1).Answers) F12_4) (c':=fun F56=>Ck.own (α:=List Answer) [.slice A12_4 ((nth y1_m0 i1).Answers.length) cp12_4] ((Qac ((nth y1_m0 i1).Answers) ((Qaj ((nth y1_m0 i1).Steps) (i64.wrap (i64.wrap (i64.wrap (s1_1+1)+1)+1))).2)).1) F56) (R:=I64 (Qac ((nth y1_m0 i1).Answers) ((Qaj ((nth y1_m0 i1).Steps) (i64.wrap (i64.wrap (i64.wrap (s1_1+1)+1)+1))).2)).2) hE55 hP56 Tryz.func65 fb65 fn65 (Qk3 ((nth y1_m0 i1).Answers) ((Qaj ((nth y1_m0 i1).Steps) (i64.wrap (i64.wrap (i64.wrap (s1_1+1)+1)+1))).2) (SH.off (M:=[Ck.own (α:=List Answer) [.slice A12_4 ((nth y1_m0 i1).Answers.length) cp12_4] ((nth y1_m0 i1).Answers) F12_4]) (R:=[Ck.own (α:=List Step) [.slice A12_3 ((nth y1_m0 i1).Steps.length) cp12_3] ((Qaj ((nth y1_m0 i1).Steps) (i64.wrap (i64.wrap (i64.wrap (s1_1+1)+1)+1))).1) F47,Ck.elem (α:=Entry) g12 i1 cap0 [.int .i64 s1_1,.int .i64 (i64.wrap (s1_1+1)),.int .i64 (i64.wrap (i64.wrap (s1_1+1)+1)),.slice A12_3 ((nth y1_m0 i1).Steps.length) cp12_3,.slice A12_4 ((nth y1_m0 i1).Answers.length) cp12_4,.int .i64 ((nth y1_m0 i1).Began),.int .i64 ((nth y1_m0 i1).Ended),.bool ((nth y1_m0 i1).Laid)] y1_m0 Fo12]) hP56) hR47) rfl rfl fun F56 w56 hR56 hS56 a57 hE57=>Qaa hE57 (Qam hE57 rfl) rfl fun a58 hE58=>wpList_nil ?_
  refine Qab ?_
  refine wp_seq (wp_region_lit ?_)
  refine Qaa hE58 (Qah hE58 rfl) rfl fun a59 hE59=>Qaa hE59 (Qah hE59 rfl) rfl fun a60 hE60=>Qaa hE60 (Qah hE60 rfl) rfl fun a61 hE61=>?_
  refine Qaa hE61 (Qax (A:=⟨g12,0,none⟩) hE61 (congrArg (fun A=>some (Value.slice A p0.length cap0)) hA12) rfl (by omega) (by omega) sl41) rfl fun a62 hE62=>Qaa hE62 (Qat hE62 rfl Yse rfl) rfl fun a63 hE63=>Qb6 (α:=Entry) (k:=2) hE63 hS56 [.int .i64 s1_1,.int .i64 (i64.wrap (s1_1+1)),.int .i64 (i64.wrap (i64.wrap (s1_1+1)+1)),.slice A12_3 ((nth y1_m0 i1).Steps.length) cp12_3,.slice A12_4 ((nth y1_m0 i1).Answers.length) cp12_4,.int .i64 ((Qac ((nth y1_m0 i1).Answers) ((Qaj ((nth y1_m0 i1).Steps) (i64.wrap (i64.wrap (i64.wrap (s1_1+1)+1)+1))).2)).2),.int .i64 ((nth y1_m0 i1).Ended),.bool ((nth y1_m0 i1).Laid)] rfl rfl rfl (by rw[Int.toNat_natCast];rfl) rfl (Qbf one3) rfl rfl rfl rfl fun w64 (hS64:SH (Off [Ck.own (α:=List Entry) [.slice A0 p0.length cap0] p0 F0] w) w w64 [Ck.own (α:=List Answer) [.slice A12_4 ((nth y1_m0 i1).Answers.length) cp12_4] ((Qac ((nth y1_m0 i1).Answers) ((Qaj ((nth y1_m0 i1).Steps) (i64.wrap (i64.wrap (i64.wrap (s1_1+1)+1)+1))).2)).1) F56,Ck.own (α:=List Step) [.slice A12_3 ((nth y1_m0 i1).Steps.length) cp12_3] ((Qaj ((nth y1_m0 i1).Steps) (i64.wrap (i64.wrap (i64.wrap (s1_1+1)+1)+1))).1) F47,Ck.elem (α:=Entry) g12 i1 cap0 [.int .i64 s1_1,.int .i64 (i64.wrap (s1_1+1)),.int .i64 (i64.wrap (i64.wrap (s1_1+1)+1)),.slice A12_3 ((nth y1_m0 i1).Steps.length) cp12_3,.slice A12_4 ((nth y1_m0 i1).Answers.length) cp12_4,.int .i64 ((Qac ((nth y1_m0 i1).Answers) ((Qaj ((nth y1_m0 i1).Steps) (i64.wrap (i64.wrap (i64.wrap (s1_1+1)+1)+1))).2)).2),.int .i64 ((nth y1_m0 i1).Ended),.bool ((nth y1_m0 i1).Laid)] y1_m0 Fo12]) a65 hE65=>wpList_nil ?_
  refine Qab ?_
  refine wp_seq (wp_region_lit ?_)
  refine Qaa hE65 (Qah hE65 rfl) rfl fun a66 hE66=>Qaa hE66 (Qg4 hE66 rfl rfl) rfl fun a67 hE67=>Qaa hE67 (Qam hE67 rfl) rfl fun a68 hE68=>wpList_nil ?_
  refine Qab ?_
  refine wp_seq (wp_region_lit ?_)
  refine Qaa hE68 (Qah hE68 rfl) rfl fun a69 hE69=>Qaa hE69 (Qah hE69 rfl) rfl fun a70 hE70=>Qaa hE70 (Qah hE70 rfl) rfl fun a71 hE71=>?_
  refine Qaa hE71 (Qax (A:=⟨g12,0,none⟩) hE71 (congrArg (fun A=>some (Value.slice A p0.length cap0)) hA12) rfl (by omega) (by omega) sl41) rfl fun a72 hE72=>Qaa hE72 (Qat hE72 rfl Ysd rfl) rfl fun a73 hE73=>Qb6 (α:=Entry) (k:=2) hE73 hS64 [.int .i64 s1_1,.int .i64 (i64.wrap (s1_1+1)),.int .i64 (i64.wrap (i64.wrap (s1_1+1)+1)),.slice A12_3 ((nth y1_m0 i1).Steps.length) cp12_3,.slice A12_4 ((nth y1_m0 i1).Answers.length) cp12_4,.int .i64 ((Qac ((nth y1_m0 i1).Answers) ((Qaj ((nth y1_m0 i1).Steps) (i64.wrap (i64.wrap (i64.wrap (s1_1+1)+1)+1))).2)).2),.int .i64 (i64.wrap ((Qac ((nth y1_m0 i1).Answers) ((Qaj ((nth y1_m0 i1).Steps) (i64.wrap (i64.wrap (i64.wrap (s1_1+1)+1)+1))).2)).2+1)),.bool ((nth y1_m0 i1).Laid)] rfl rfl rfl (by rw[Int.toNat_natCast];rfl) rfl (Qbf one3) rfl rfl rfl rfl fun w74 (hS74:SH (Off [Ck.own (α:=List Entry) [.slice A0 p0.length cap0] p0 F0] w) w w74 [Ck.own (α:=List Answer) [.slice A12_4 ((nth y1_m0 i1).Answers.length) cp12_4] ((Qac ((nth y1_m0 i1).Answers) ((Qaj ((nth y1_m0 i1).Steps) (i64.wrap (i64.wrap (i64.wrap (s1_1+1)+1)+1))).2)).1) F56,Ck.own (α:=List Step) [.slice A12_3 ((nth y1_m0 i1).Steps.length) cp12_3] ((Qaj ((nth y1_m0 i1).Steps) (i64.wrap (i64.wrap (i64.wrap (s1_1+1)+1)+1))).1) F47,Ck.elem (α:=Entry) g12 i1 cap0 [.int .i64 s1_1,.int .i64 (i64.wrap (s1_1+1)),.int .i64 (i64.wrap (i64.wrap (s1_1+1)+1)),.slice A12_3 ((nth y1_m0 i1).Steps.length) cp12_3,.slice A12_4 ((nth y1_m0 i1).Answers.length) cp12_4,.int .i64 ((Qac ((nth y1_m0 i1).Answers) ((Qaj ((nth y1_m0 i1).Steps) (i64.wrap (i64.wrap (i64.wrap (s1_1+1)+1)+1))).2)).2),.int .i64 (i64.wrap ((Qac ((nth y1_m0 i1).Answers) ((Qaj ((nth y1_m0 i1).Steps) (i64.wrap (i64.wrap (i64.wrap (s1_1+1)+1)+1))).2)).2+1)),.bool ((nth y1_m0 i1).Laid)] y1_m0 Fo12]) a75 hE75=>wpList_nil ?_
  refine Qab ?_
  refine wp_seq (wp_region_lit ?_)
  refine Qaa hE75 (Qah hE75 rfl) rfl fun a76 hE76=>Qaa hE76 (Qg4 hE76 rfl rfl) rfl fun a77 hE77=>Qaa hE77 (Qam hE77 rfl) rfl fun a78 hE78=>wpList_nil ?_
  refine Qab ?_
  refine wp_seq (wp_region_lit ?_)
  refine Qaa hE78 (Qah hE78 rfl) rfl fun a79 hE79=>Qaa hE79 (Qah hE79 rfl) rfl fun a80 hE80=>Qaa hE80 (Qah hE80 rfl) rfl fun a81 hE81=>Qaa hE81 (Ydc hE81 rfl rfl (by decide)) rfl fun a82 hE82=>Qaa hE82 (Yi2 hE82 rfl rfl) rfl fun a83 hE83=>?_
  refine Qaa hE83 (Qax (A:=⟨g12,0,none⟩) hE83 (congrArg (fun A=>some (Value.slice A p0.length cap0)) hA12) rfl (by omega) (by omega) sl41) rfl fun a84 hE84=>Qaa hE84 (Qat hE84 rfl Ysc rfl) rfl fun a85 hE85=>Qb6 (α:=Entry) (k:=2) hE85 hS74 [.int .i64 s1_1,.int .i64 (i64.wrap (s1_1+1)),.int .i64 (i64.wrap (i64.wrap (s1_1+1)+1)),.slice A12_3 ((nth y1_m0 i1).Steps.length) cp12_3,.slice A12_4 ((nth y1_m0 i1).Answers.length) cp12_4,.int .i64 ((Qac ((nth y1_m0 i1).Answers) ((Qaj ((nth y1_m0 i1).Steps) (i64.wrap (i64.wrap (i64.wrap (s1_1+1)+1)+1))).2)).2),.int .i64 (i64.wrap ((Qac ((nth y1_m0 i1).Answers) ((Qaj ((nth y1_m0 i1).Steps) (i64.wrap (i64.wrap (i64.wrap (s1_1+1)+1)+1))).2)).2+1)),.bool (decide (Int.tmod (i64.wrap (i64.wrap ((Qac ((nth y1_m0 i1).Answers) ((Qaj ((nth y1_m0 i1).Steps) (i64.wrap (i64.wrap (i64.wrap (s1_1+1)+1)+1))).2)).2+1)+1)) 3=0))] rfl rfl rfl (by rw[Int.toNat_natCast];rfl) rfl (Qbf one4) rfl rfl rfl rfl fun w86 (hS86:SH (Off [Ck.own (α:=List Entry) [.slice A0 p0.length cap0] p0 F0] w) w w86 [Ck.own (α:=List Answer) [.slice A12_4 ((nth y1_m0 i1).Answers.length) cp12_4] ((Qac ((nth y1_m0 i1).Answers) ((Qaj ((nth y1_m0 i1).Steps) (i64.wrap (i64.wrap (i64.wrap (s1_1+1)+1)+1))).2)).1) F56,Ck.own (α:=List Step) [.slice A12_3 ((nth y1_m0 i1).Steps.length) cp12_3] ((Qaj ((nth y1_m0 i1).Steps) (i64.wrap (i64.wrap (i64.wrap (s1_1+1)+1)+1))).1) F47,Ck.elem (α:=Entry) g12 i1 cap0 [.int .i64 s1_1,.int .i64 (i64.wrap (s1_1+1)),.int .i64 (i64.wrap (i64.wrap (s1_1+1)+1)),.slice A12_3 ((nth y1_m0 i1).Steps.length) cp12_3,.slice A12_4 ((nth y1_m0 i1).Answers.length) cp12_4,.int .i64 ((Qac ((nth y1_m0 i1).Answers) ((Qaj ((nth y1_m0 i1).Steps) (i64.wrap (i64.wrap (i64.wrap (s1_1+1)+1)+1))).2)).2),.int .i64 (i64.wrap ((Qac ((nth y1_m0 i1).Answers) ((Qaj ((nth y1_m0 i1).Steps) (i64.wrap (i64.wrap (i64.wrap (s1_1+1)+1)+1))).2)).2+1)),.bool (decide (Int.tmod (i64.wrap (i64.wrap ((Qac ((nth y1_m0 i1).Answers) ((Qaj ((nth y1_m0 i1).Steps) (i64.wrap (i64.wrap (i64.wrap (s1_1+1)+1)+1))).2)).2+1)+1)) 3=0))] y1_m0 Fo12]) a87 hE87=>wpList_nil ?_
  refine Qab ?_
  refine wp_region_lit ?_
  refine Qaa hE87 (Qah hE87 rfl) rfl fun a88 hE88=>Qaa hE88 (Qg4 hE88 rfl rfl) rfl fun a89 hE89=>Qaa hE89 (Qam hE89 rfl) rfl fun a90 hE90=>wpList_nil ?_
  refine Qfo ?_
  refine Qab ?_
  refine wp_region_lit ?_
  refine Qaa hE90 (Qah hE90 rfl) rfl fun a91 hE91=>Qaa hE91 (Qhj hE91 rfl rfl (m:=((i1+1:Nat):Int)) (by omega) (by omega) (by omega)) rfl fun a92 hE92=>Qaa hE92 (Qam hE92 rfl) rfl fun a93 hE93=>wpList_nil ?_
  have hJ94:=SH.joinP (L:=[Ck.elem (α:=Entry) g12 i1 cap0 [.int .i64 s1_1,.int .i64 (i64.wrap (s1_1+1)),.int .i64 (i64.wrap (i64.wrap (s1_1+1)+1)),.slice A12_3 ((nth y1_m0 i1).Steps.length) cp12_3,.slice A12_4 ((nth y1_m0 i1).Answers.length) cp12_4,.int .i64 ((Qac ((nth y1_m0 i1).Answers) ((Qaj ((nth y1_m0 i1).Steps) (i64.wrap (i64.wrap (i64.wrap (s1_1+1)+1)+1))).2)).2),.int .i64 (i64.wrap ((Qac ((nth y1_m0 i1).Answers) ((Qaj ((nth y1_m0 i1).Steps) (i64.wrap (i64.wrap (i64.wrap (s1_1+1)+1)+1))).2)).2+1)),.bool (decide (Int.tmod (i64.wrap (i64.wrap ((Qac ((nth y1_m0 i1).Answers) ((Qaj ((nth y1_m0 i1).Steps) (i64.wrap (i64.wrap (i64.wrap (s1_1+1)+1)+1))).2)).2+1)+1)) 3=0))] y1_m0 Fo12]) (M:=[Ck.own (α:=List Step) [.slice A12_3 ((nth y1_m0 i1).Steps.length) cp12_3] ((Qaj ((nth y1_m0 i1).Steps) (i64.wrap (i64.wrap (i64.wrap (s1_1+1)+1)+1))).1) F47,Ck.own (α:=List Answer) [.slice A12_4 ((nth y1_m0 i1).Answers.length) cp12_4] ((Qac ((nth y1_m0 i1).Answers) ((Qaj ((nth y1_m0 i1).Steps) (i64.wrap (i64.wrap (i64.wrap (s1_1+1)+1)+1))).2)).1) F56]) (c:=Ck.own (α:=Entry) [.int .i64 s1_1,.int .i64 (i64.wrap (s1_1+1)),.int .i64 (i64.wrap (i64.wrap (s1_1+1)+1)),.slice A12_3 ((nth y1_m0 i1).Steps.length) cp12_3,.slice A12_4 ((nth y1_m0 i1).Answers.length) cp12_4,.int .i64 ((Qac ((nth y1_m0 i1).Answers) ((Qaj ((nth y1_m0 i1).Steps) (i64.wrap (i64.wrap (i64.wrap (s1_1+1)+1)+1))).2)).2),.int .i64 (i64.wrap ((Qac ((nth y1_m0 i1).Answers) ((Qaj ((nth y1_m0 i1).Steps) (i64.wrap (i64.wrap (i64.wrap (s1_1+1)+1)+1))).2)).2+1)),.bool (decide (Int.tmod (i64.wrap (i64.wrap ((Qac ((nth y1_m0 i1).Answers) ((Qaj ((nth y1_m0 i1).Steps) (i64.wrap (i64.wrap (i64.wrap (s1_1+1)+1)+1))).2)).2+1)+1)) 3=0))] (Entry.mk s1_1 (i64.wrap (s1_1+1)) (i64.wrap (i64.wrap (s1_1+1)+1)) ((Qaj ((nth y1_m0 i1).Steps) (i64.wrap (i64.wrap (i64.wrap (s1_1+1)+1)+1))).1) ((Qac ((nth y1_m0 i1).Answers) ((Qaj ((nth y1_m0 i1).Steps) (i64.wrap (i64.wrap (i64.wrap (s1_1+1)+1)+1))).2)).1) ((Qac ((nth y1_m0 i1).Answers) ((Qaj ((nth y1_m0 i1).Steps) (i64.wrap (i64.wrap (i64.wrap (s1_1+1)+1)+1))).2)).2) (i64.wrap ((Qac ((nth y1_m0 i1).Answers) ((Qaj ((nth y1_m0 i1).Steps) (i64.wrap (i64.wrap (i64.wrap (s1_1+1)+1)+1))).2)).2+1)) (decide (Int.tmod (i64.wrap (i64.wrap ((Qac ((nth y1_m0 i1).Answers) ((Qaj ((nth y1_m0 i1).Steps) (i64.wrap (i64.wrap (i64.wrap (s1_1+1)+1)+1))).2)).2+1)+1)) 3=0))) (F47++(F56++[]))) (hS86.pick [1,0,2] (by decide) rfl) (List.Perm.of_eq (by simp only[Ck.own,List.flatMap_cons,List.flatMap_nil,List.append_nil,List.append_assoc])) (Ylq (Yk3 (x:=(Entry.mk s1_1 (i64.wrap (s1_1+1)) (i64.wrap (i64.wrap (s1_1+1)+1)) ((Qaj ((nth y1_m0 i1).Steps) (i64.wrap (i64.wrap (i64.wrap (s1_1+1)+1)+1))).1) ((Qac ((nth y1_m0 i1).Answers) ((Qaj ((nth y1_m0 i1).Steps) (i64.wrap (i64.wrap (i64.wrap (s1_1+1)+1)+1))).2)).1) ((Qac ((nth y1_m0 i1).Answers) ((Qaj ((nth y1_m0 i1).Steps) (i64.wrap (i64.wrap (i64.wrap (s1_1+1)+1)+1))).2)).2) (i64.wrap ((Qac ((nth y1_m0 i1).Answers) ((Qaj ((nth y1_m0 i1).Steps) (i64.wrap (i64.wrap (i64.wrap (s1_1+1)+1)+1))).2)).2+1)) (decide (Int.tmod (i64.wrap (i64.wrap ((Qac ((nth y1_m0 i1).Answers) ((Qaj ((nth y1_m0 i1).Steps) (i64.wrap (i64.wrap (i64.wrap (s1_1+1)+1)+1))).2)).2+1)+1)) 3=0)))) hgis1_1 (Qbi _) (Qbi _) (hS86.slO (k:=1) rfl) (hS86.slO (k:=0) rfl) hR56 (Qbi _)))
  obtain⟨F94,hS94⟩:=SH.unfocus (α:=Entry) (L:=[]) hJ94 hA12 hn12 (by omega)
  refine Qab ⟨fu1,Nat.lt_succ_self _,(i1+1),i64.wrap (i64.wrap (i64.wrap ((Qac ((nth y1_m0 i1).Answers) ((Qaj ((nth y1_m0 i1).Steps) (i64.wrap (i64.wrap (i64.wrap (s1_1+1)+1)+1))).2)).2+1)+1)+1),(y1_m0.set i1 (Entry.mk s1_1 (i64.wrap (s1_1+1)) (i64.wrap (i64.wrap (s1_1+1)+1)) ((Qaj ((nth y1_m0 i1).Steps) (i64.wrap (i64.wrap (i64.wrap (s1_1+1)+1)+1))).1) ((Qac ((nth y1_m0 i1).Answers) ((Qaj ((nth y1_m0 i1).Steps) (i64.wrap (i64.wrap (i64.wrap (s1_1+1)+1)+1))).2)).1) ((Qac ((nth y1_m0 i1).Answers) ((Qaj ((nth y1_m0 i1).Steps) (i64.wrap (i64.wrap (i64.wrap (s1_1+1)+1)+1))).2)).2) (i64.wrap ((Qac ((nth y1_m0 i1).Answers) ((Qaj ((nth y1_m0 i1).Steps) (i64.wrap (i64.wrap (i64.wrap (s1_1+1)+1)+1))).2)).2+1)) (decide (Int.tmod (i64.wrap (i64.wrap ((Qac ((nth y1_m0 i1).Answers) ((Qaj ((nth y1_m0 i1).Steps) (i64.wrap (i64.wrap (i64.wrap (s1_1+1)+1)+1))).2)).2+1)+1)) 3=0)))),F94,by omega,by omega,.inl (by omega),(Qbi _),hM,hE93.weaken ⟨rfl,rfl,rfl,trivial⟩,hS94⟩
 ·
  have hge1: ¬ i1<p0.length:=by have:=of_decide_eq_false hb8;omega
  obtain rfl:fu1=0:=by omega
  have hM:=hM.trans (Qd2.eq_1 _ _ _ _ _)
  refine wp_exit ?_
  refine Qcx ?_
  refine Qcx ?_
  refine Qhs ?_
  refine Qab ?_
  refine wp_seq (wp_region_lit ?_)
  refine Qaa hE7 (Qah hE7 rfl) rfl fun a95 hE95=>Qaa hE95 (Qam hE95 rfl) rfl fun a96 hE96=>wpList_nil ?_
  refine Qab ?_
  refine wp_ret ?_
  refine fin1 hE96 rfl rfl ?_
  rw[hM]
  exact⟨rfl,hgis1_1,Fy1_m0,hS3⟩
end
section
open Go.RowKit
theorem Qkz (p0 : List ByteArray) (p1 : Int) (h : I64 p1) : CTs 21 [.o (.sl ByteArray instDatByteArray p0), .o (.c (.int .i64 p1))] [.c (.int .i64 (Qdm p0 p1))] := CT.flat fun w vs hG hA => by
 cases vs with
 | nil=>exact hA.elim
 | cons v r =>
  cases r with
  | nil=>exact hA.2.elim
  | cons u r =>
   cases r with
   | cons=>exact hA.2.2.elim
   | nil =>
    obtain rfl:u= .int .i64 p1:=hA.2.1
    exact Qqq p0 p1 hA.1 h
theorem Qku (p0:List ByteArray) (p1:Int) (h:I64 p1):CTU Tryz.prog 20 instDatByteArray p0 p1 (Qad p0 p1).1 (Qad p0 p1).2:=fun v0 F0 w hs=>Qiq p0 p1 hs h
theorem Qxr (p0:List Cell) (p1:Int) (h:I64 p1):CTU Tryz.prog 54 instDatCell p0 p1 (Qas p0 p1).1 (Qas p0 p1).2:=fun v0 F0 w hs=>Qmp p0 p1 hs h
theorem Q0p (p0:List Tx) (p1:Int) (h:I64 p1):CTU Tryz.prog 55 instDatTx p0 p1 (Qc8 p0 p1).1 (Qc8 p0 p1).2:=fun v0 F0 w hs=>Q1i p0 p1 hs h
theorem Qxq (p0:List Slot) (p1:Int) (h:I64 p1):CTU Tryz.prog 115 instDatSlot p0 p1 (Qdl p0 p1).1 (Qdl p0 p1).2:=fun v0 F0 w hs=>Qyd p0 p1 hs h
theorem Qqx (p0:List Entry) (p1:Int) (h:I64 p1):CTU Tryz.prog 25 instDatEntry p0 p1 (Qc0 p0 p1).1 (Qc0 p0 p1).2:=fun v0 F0 w hs=>Qru p0 p1 hs h
end
section
open Go.RowKit
theorem Yq2:FnOk Tryz.prog 20:=⟨_,Tryz.func20,rfl,by kernel_rfl⟩
theorem Yuz:FnOk Tryz.prog 25:=⟨_,Tryz.func25,rfl,by kernel_rfl⟩
theorem Yuk:FnOk Tryz.prog 54:=⟨_,Tryz.func54,rfl,by kernel_rfl⟩
theorem Yuj:FnOk Tryz.prog 55:=⟨_,Tryz.func55,rfl,by kernel_rfl⟩
theorem Yui:FnOk Tryz.prog 56:=⟨_,Tryz.func56,rfl,by kernel_rfl⟩
theorem Yrz:FnOk Tryz.prog 115:=⟨_,Tryz.func115,rfl,by kernel_rfl⟩
def Qgz (p0:Disk) (p1:Int):Int:=(Qdl p0.Slots p1).2
theorem Qz5 (p0:Disk) (p1:Int) (hi:I64 p1):CTMs 56 0 1 [(0,.own Slot instDatSlot p0.Slots)] [] [.ag [.sl 0 p0.Slots.length,.v (.string p0.Journal.Text),.v (.int .i64 p0.Journal.Sure)],.v (.int .i64 p1)] [] 0 [.v (.int .i64 (Qgz p0 p1))] (I64 (Qgz p0 p1)):=by
 refine enM Tryz.func56 Tryz.ntmps56 fun S w p hG hb hg=>?_
 refine Run.cg (σ':=⟨10,1,[(0,.ag [.sl 0 p0.Slots.length,.v (.string p0.Journal.Text),.v (.int .i64 p0.Journal.Sure)]),(1,.v (.int .i64 p1))],[(0,.own Slot instDatSlot p0.Slots)]⟩) rfl ?_
 refine gd 0 fun hg_p0_Slots=>?_
 have hl_p0_Slots:p0.Slots.length≤9223372036854775807:=hg_p0_Slots.1
 have hM:=Qgz.eq_1 p0 p1
 refine ad 10 ?_
 refine og (mu (Qxq p0.Slots p1 (by first | assumption | (unfold I64;omega))) Yrz) fun hgq=>?_
 obtain⟨hg1,hg2⟩:=hgq
 refine ad 7 ?_
 exact rzM (rs:=[.tmp 4]) [] [] (hg1:=hg1) (hG1:=congrArg (fun x=>(I64 x:Prop)) hM) (congrArg (fun x=>([]:List (Nat×En))) hM) (congrArg (fun x=>([.v (.int .i64 x)]:List V)) hM)
def Qfn (p0:Kernel) (p1:Int):Int:=(Qad p0.Seen ((Qc0 p0.History (Qgz p0.Disk ((Qc8 p0.Txs ((Qas p0.Store p1).2)).2))).2)).2
theorem Qrt (p0:Kernel) (p1:Int) (hi:I64 p1):CTMs 19 0 5 [(0,.own Cell instDatCell p0.Store),(1,.own Tx instDatTx p0.Txs),(2,.own Slot instDatSlot p0.Disk.Slots),(3,.own Entry instDatEntry p0.History),(4,.own ByteArray instDatByteArray p0.Seen)] [] [.ag [.sl 0 p0.Store.length,.sl 1 p0.Txs.length,.sl 2 p0.Disk.Slots.length,.v (.string p0.Disk.Journal.Text),.v (.int .i64 p0.Disk.Journal.Sure),.v (.int .i64 p0.Seq),.v (.int .i64 p0.Next),.v (.int .i64 p0.Time),.sl 3 p0.History.length,.sl 4 p0.Seen.length,.v (.bool p0.Room)],.v (.int .i64 p1)] [] 0 [.v (.int .i64 (Qfn p0 p1))] (I64 (Qfn p0 p1)):=by
 refine enM Tryz.func19 Tryz.ntmps19 fun S w p hG hb hg=>?_
 refine Run.cg (σ':=⟨26,5,[(0,.ag [.sl 0 p0.Store.length,.sl 1 p0.Txs.length,.sl 2 p0.Disk.Slots.length,.v (.string p0.Disk.Journal.Text),.v (.int .i64 p0.Disk.Journal.Sure),.v (.int .i64 p0.Seq),.v (.int .i64 p0.Next),.v (.int .i64 p0.Time),.sl 3 p0.History.length,.sl 4 p0.Seen.length,.v (.bool p0.Room)]),(1,.v (.int .i64 p1))],[(0,.own Cell instDatCell p0.Store),(1,.own Tx instDatTx p0.Txs),(2,.own Slot instDatSlot p0.Disk.Slots),(3,.own Entry instDatEntry p0.History),(4,.own ByteArray instDatByteArray p0.Seen)]⟩) rfl ?_
 refine gd 0 fun hg_p0_Store=>?_
 have hl_p0_Store:p0.Store.length≤9223372036854775807:=hg_p0_Store.1
 refine gd 1 fun hg_p0_Txs=>?_
 have hl_p0_Txs:p0.Txs.length≤9223372036854775807:=hg_p0_Txs.1
 refine gd 2 fun hg_p0_Disk_Slots=>?_
 have hl_p0_Disk_Slots:p0.Disk.Slots.length≤9223372036854775807:=hg_p0_Disk_Slots.1
 refine gd 3 fun hg_p0_History=>?_
 have hl_p0_History:p0.History.length≤9223372036854775807:=hg_p0_History.1
 refine gd 4 fun hg_p0_Seen=>?_
 have hl_p0_Seen:p0.Seen.length≤9223372036854775807:=hg_p0_Seen.1
 have hM:=Qfn.eq_1 p0 p1
 refine ad 10 ?_
 refine og (mu (Qxr p0.Store p1 (by first | assumption | (unfold I64;omega))) Yuk) fun hgq=>?_
 obtain⟨hg1,hg2⟩:=hgq
 refine ad 7 ?_
 refine og (mu (Q0p p0.Txs ((Qas p0.Store p1).2) hg1) Yuj) fun hgq=>?_
 obtain⟨hg3,hg4⟩:=hgq
 refine ad 7 ?_
 refine og (cm [2] [] [3] [] [0,1,2,4,5] (Qz5 p0.Disk ((Qc8 p0.Txs ((Qas p0.Store p1).2)).2) (by first | assumption | exact gi _)) Yui) fun hg5=>?_
 refine ad 7 ?_
 refine og (mu (Qqx p0.History (Qgz p0.Disk ((Qc8 p0.Txs ((Qas p0.Store p1).2)).2)) hg5) Yuz) fun hgq=>?_
 obtain⟨hg6,hg7⟩:=hgq
 refine ad 7 ?_
 refine og (mu (Qku p0.Seen ((Qc0 p0.History (Qgz p0.Disk ((Qc8 p0.Txs ((Qas p0.Store p1).2)).2))).2) hg6) Yq2) fun hgq=>?_
 obtain⟨hg8,hg9⟩:=hgq
 refine ad 7 ?_
 exact rzM (rs:=[.tmp 4]) [] [] (hg1:=hg8) (hG1:=congrArg (fun x=>(I64 x:Prop)) hM) (congrArg (fun x=>([]:List (Nat×En))) hM) (congrArg (fun x=>([.v (.int .i64 x)]:List V)) hM)
end
section
open IntKind (i64)
open Go.RowKit
theorem Yqf:FnOk Tryz.prog 31:=⟨_,Tryz.func31,rfl,by kernel_rfl⟩
theorem Yuy:FnOk Tryz.prog 32:=⟨_,Tryz.func32,rfl,by kernel_rfl⟩
theorem Yux:FnOk Tryz.prog 33:=⟨_,Tryz.func33,rfl,by kernel_rfl⟩
theorem Yuw:FnOk Tryz.prog 34:=⟨_,Tryz.func34,rfl,by kernel_rfl⟩
theorem Yon:FnOk Tryz.prog 35:=⟨_,Tryz.func35,rfl,by kernel_rfl⟩
theorem Yug:FnOk Tryz.prog 74:=⟨_,Tryz.func74,rfl,by kernel_rfl⟩
theorem Yuf:FnOk Tryz.prog 75:=⟨_,Tryz.func75,rfl,by kernel_rfl⟩
theorem Yue:FnOk Tryz.prog 76:=⟨_,Tryz.func76,rfl,by kernel_rfl⟩
theorem Yud:FnOk Tryz.prog 77:=⟨_,Tryz.func77,rfl,by kernel_rfl⟩
theorem Yuc:FnOk Tryz.prog 78:=⟨_,Tryz.func78,rfl,by kernel_rfl⟩
theorem Yrx:FnOk Tryz.prog 140:=⟨_,Tryz.func140,rfl,by kernel_rfl⟩
theorem Ynl:FnOk Tryz.prog 141:=⟨_,Tryz.func141,rfl,by kernel_rfl⟩
theorem Yrw:FnOk Tryz.prog 142:=⟨_,Tryz.func142,rfl,by kernel_rfl⟩
theorem Yrv:FnOk Tryz.prog 143:=⟨_,Tryz.func143,rfl,by kernel_rfl⟩
theorem Yru:FnOk Tryz.prog 144:=⟨_,Tryz.func144,rfl,by kernel_rfl⟩
theorem Yrt:FnOk Tryz.prog 145:=⟨_,Tryz.func145,rfl,by kernel_rfl⟩
theorem Ynd:FnOk Tryz.prog 206:=⟨_,Tryz.func206,rfl,by kernel_rfl⟩
theorem Yq1:FnOk Tryz.prog 207:=⟨_,Tryz.func207,rfl,by kernel_rfl⟩
theorem Yq0:FnOk Tryz.prog 208:=⟨_,Tryz.func208,rfl,by kernel_rfl⟩
def Qga (p0:Cell) (p1:Int):Int:=bif decide ((i64.wrap (p1 - (p0.Key.size:Int)))<0) then(-1) else(bif decide ((i64.wrap ((i64.wrap (p1 - (p0.Key.size:Int))) - (p0.Val.size:Int)))<0) then(-1) else(i64.wrap ((i64.wrap (p1 - (p0.Key.size:Int))) - (p0.Val.size:Int))))
theorem Q8s (p0:Cell) (p1:Int):CTs 74 [.o (.st Cell _ inferInstance p0),.o (.c (.int .i64 p1))] [Re.c (.int .i64 (Qga p0 p1))]:=by
 refine en Tryz.func74 Tryz.ntmps74 fun w hG hgd=>?_
 obtain⟨hg_p0,_⟩:=hgd
 have hM:=Qga.eq_1 p0 p1
 refine ad 20 ?_
 refine cd (fun h1=>?_) (fun h1=>?_)
 ·
  have hM:=hM.trans (bt h1)
  refine ad 4 ?_
  exact rz (rs:=[.tmp 4]) (congrArg (fun x=>[Re.c (.int .i64 x)]) hM)
 ·
  have hM:=hM.trans (bf h1)
  refine ad 16 ?_
  refine cd (fun h2=>?_) (fun h2=>?_)
  ·
   have hM:=hM.trans (bt h2)
   refine ad 4 ?_
   exact rz (rs:=[.tmp 4]) (congrArg (fun x=>[Re.c (.int .i64 x)]) hM)
  ·
   have hM:=hM.trans (bf h2)
   refine ad 6 ?_
   exact rz (rs:=[.tmp 4]) (congrArg (fun x=>[Re.c (.int .i64 x)]) hM)
def Qe0 (p0:List Cell) (p1:Int):Nat→Int→Nat→Int
 | 0,v1,i=>v1
 | n+1,v1,i=>bif decide ((Qga (nth p0 i) v1)<0) then(-1) else(Qe0 p0 p1 n (Qga (nth p0 i) v1) (i+1))
def Qbh (p0:List Cell) (p1:Int):Int:=bif decide ((i64.wrap (p1 - (p0.length:Int)))<0) then(-1) else(Qe0 p0 p1 (p0.length - 0) (i64.wrap (p1 - (p0.length:Int))) 0)
theorem Qog (p0:List Cell) (p1:Int):CTs 31 [.o (.sl Cell instDatCell p0),.o (.c (.int .i64 p1))] [Re.c (.int .i64 (Qbh p0 p1))]:=by
 refine en Tryz.func31 Tryz.ntmps31 fun w hG hgd=>?_
 obtain⟨hg_p0,_⟩:=hgd
 have hl_p0:p0.length≤9223372036854775807:=hg_p0.1
 have hM:=Qbh.eq_1 p0 p1
 refine ad 18 ?_
 refine cd (fun h1=>?_) (fun h1=>?_)
 ·
  have hM:=hM.trans (bt h1)
  refine ad 4 ?_
  exact rz (rs:=[.tmp 4]) (congrArg (fun x=>[Re.c (.int .i64 x)]) hM)
 ·
  have hM:=hM.trans (bf h1)
  refine ad 7 ?_
  refine Run.loopM (ι:=Int×Nat) (fun s=>Qe0 p0 p1 (p0.length - s.2) s.1 s.2) (fun s=>⟨27,1,[(0,.sl 0 p0.length),(1,.v (.int .i64 s.1)),(5,.v (.int .i64 (s.2:Int)))],[(0,.ros Cell instDatCell p0)]⟩) (fun s=>s.2≤p0.length) (fun s=>p0.length - s.2) (i64.wrap (p1 - (p0.length:Int)),0) [0] [0] hM (by first | exact⟨by omega,by simp⟩ | omega | simp | (dsimp only;omega)) su (by decide) ?_
  rintro ⟨v1,i⟩ hv hE
  try dsimp only at hE
  have hi:=hv
  try dsimp only at hi
  refine ad 8 ?_
  refine cd (fun h2=>?_) (fun h2=>?_)
  ·
   have h2l:i<p0.length:=by have:=of_decide_eq_true h2;omega
   have hM:=hE.trans ((congrArg (fun n=>Qe0 p0 p1 n v1 i) (show p0.length - i=(p0.length - (i+1))+1 by omega)).trans (Qe0.eq_2 _ _ _ _ _))
   refine ad 7 ?_
   have hg4:=Qa6 (k:=i) hg_p0 om
   refine op (ix (xs:=p0) i om) ?_
   refine ad 2 ?_
   have hg5:Dat.good (nth p0 i:Cell):=hg4
   refine op (cl (Q8s (nth p0 i) v1) Yug) ?_
   refine ad 7 ?_
   refine cd (fun h6=>?_) (fun h6=>?_)
   ·
    have hM:=hM.trans (bt h6)
    refine ad 4 ?_
    exact rz (rs:=[.tmp 4]) (congrArg (fun x=>[Re.c (.int .i64 x)]) hM)
   ·
    have hM:=hM.trans (bf h6)
    refine ad 5 ?_
    rw[Qd7 (i:=i) (by first | omega | exact om)]
    refine ad 2 ?_
    exact Run.again ((Qga (nth p0 i) v1),(i+1)) [0] [1] ⟨by first | omega | exact trivial | (dsimp only;omega) | (refine⟨by omega,?_⟩;simp_all;try omega),hM⟩ rfl (by show _ - _<_ - _;(try dsimp only);omega) su (by decide)
  ·
   have h2l: ¬ (i<p0.length):=by have:=of_decide_eq_false h2;omega
   have hM:=hE.trans ((congrArg (fun n=>Qe0 p0 p1 n v1 i) (show p0.length - i=0 by omega)).trans (Qe0.eq_1 _ _ _ _))
   refine ad 6 ?_
   exact rz (rs:=[.tmp 4]) (congrArg (fun x=>[Re.c (.int .i64 x)]) hM)
def Qe2 (p0:Call) (p1:Int):Int:=bif decide ((i64.wrap (p1 - (p0.Name.size:Int)))<0) then(-1) else(bif decide ((i64.wrap ((i64.wrap (p1 - (p0.Name.size:Int))) - (p0.To.size:Int)))<0) then(-1) else(bif decide ((i64.wrap ((i64.wrap ((i64.wrap (p1 - (p0.Name.size:Int))) - (p0.To.size:Int))) - (p0.Text.size:Int)))<0) then(-1) else(i64.wrap ((i64.wrap ((i64.wrap (p1 - (p0.Name.size:Int))) - (p0.To.size:Int))) - (p0.Text.size:Int)))))
theorem Qqp (p0:Call) (p1:Int):CTs 206 [.o (.st Call _ inferInstance p0),.o (.c (.int .i64 p1))] [Re.c (.int .i64 (Qe2 p0 p1))]:=by
 refine en Tryz.func206 Tryz.ntmps206 fun w hG hgd=>?_
 obtain⟨hg_p0,_⟩:=hgd
 have hM:=Qe2.eq_1 p0 p1
 refine ad 20 ?_
 refine cd (fun h1=>?_) (fun h1=>?_)
 ·
  have hM:=hM.trans (bt h1)
  refine ad 4 ?_
  exact rz (rs:=[.tmp 4]) (congrArg (fun x=>[Re.c (.int .i64 x)]) hM)
 ·
  have hM:=hM.trans (bf h1)
  refine ad 16 ?_
  refine cd (fun h2=>?_) (fun h2=>?_)
  ·
   have hM:=hM.trans (bt h2)
   refine ad 4 ?_
   exact rz (rs:=[.tmp 4]) (congrArg (fun x=>[Re.c (.int .i64 x)]) hM)
  ·
   have hM:=hM.trans (bf h2)
   refine ad 16 ?_
   refine cd (fun h3=>?_) (fun h3=>?_)
   ·
    have hM:=hM.trans (bt h3)
    refine ad 4 ?_
    exact rz (rs:=[.tmp 4]) (congrArg (fun x=>[Re.c (.int .i64 x)]) hM)
   ·
    have hM:=hM.trans (bf h3)
    refine ad 6 ?_
    exact rz (rs:=[.tmp 4]) (congrArg (fun x=>[Re.c (.int .i64 x)]) hM)
def Qe1 (p0:List Call) (p1:Int):Nat→Int→Nat→Int
 | 0,v1,i=>v1
 | n+1,v1,i=>bif decide ((Qe2 (nth p0 i) v1)<0) then(-1) else(Qe1 p0 p1 n (Qe2 (nth p0 i) v1) (i+1))
def Qb7 (p0:List Call) (p1:Int):Int:=bif decide ((i64.wrap (p1 - (p0.length:Int)))<0) then(-1) else(Qe1 p0 p1 (p0.length - 0) (i64.wrap (p1 - (p0.length:Int))) 0)
theorem Q1h (p0:List Call) (p1:Int):CTs 140 [.o (.sl Call instDatCall p0),.o (.c (.int .i64 p1))] [Re.c (.int .i64 (Qb7 p0 p1))]:=by
 refine en Tryz.func140 Tryz.ntmps140 fun w hG hgd=>?_
 obtain⟨hg_p0,_⟩:=hgd
 have hl_p0:p0.length≤9223372036854775807:=hg_p0.1
 have hM:=Qb7.eq_1 p0 p1
 refine ad 18 ?_
 refine cd (fun h1=>?_) (fun h1=>?_)
 ·
  have hM:=hM.trans (bt h1)
  refine ad 4 ?_
  exact rz (rs:=[.tmp 4]) (congrArg (fun x=>[Re.c (.int .i64 x)]) hM)
 ·
  have hM:=hM.trans (bf h1)
  refine ad 7 ?_
  refine Run.loopM (ι:=Int×Nat) (fun s=>Qe1 p0 p1 (p0.length - s.2) s.1 s.2) (fun s=>⟨27,1,[(0,.sl 0 p0.length),(1,.v (.int .i64 s.1)),(5,.v (.int .i64 (s.2:Int)))],[(0,.ros Call instDatCall p0)]⟩) (fun s=>s.2≤p0.length) (fun s=>p0.length - s.2) (i64.wrap (p1 - (p0.length:Int)),0) [0] [0] hM (by first | exact⟨by omega,by simp⟩ | omega | simp | (dsimp only;omega)) su (by decide) ?_
  rintro ⟨v1,i⟩ hv hE
  try dsimp only at hE
  have hi:=hv
  try dsimp only at hi
  refine ad 8 ?_
  refine cd (fun h2=>?_) (fun h2=>?_)
  ·
   have h2l:i<p0.length:=by have:=of_decide_eq_true h2;omega
   have hM:=hE.trans ((congrArg (fun n=>Qe1 p0 p1 n v1 i) (show p0.length - i=(p0.length - (i+1))+1 by omega)).trans (Qe1.eq_2 _ _ _ _ _))
   refine ad 7 ?_
   have hg4:=Qa6 (k:=i) hg_p0 om
   refine op (ix (xs:=p0) i om) ?_
   refine ad 2 ?_
   have hg5:Dat.good (nth p0 i:Call):=hg4
   refine op (cl (Qqp (nth p0 i) v1) Ynd) ?_
   refine ad 7 ?_
   refine cd (fun h6=>?_) (fun h6=>?_)
   ·
    have hM:=hM.trans (bt h6)
    refine ad 4 ?_
    exact rz (rs:=[.tmp 4]) (congrArg (fun x=>[Re.c (.int .i64 x)]) hM)
   ·
    have hM:=hM.trans (bf h6)
    refine ad 5 ?_
    rw[Qd7 (i:=i) (by first | omega | exact om)]
    refine ad 2 ?_
    exact Run.again ((Qe2 (nth p0 i) v1),(i+1)) [0] [1] ⟨by first | omega | exact trivial | (dsimp only;omega) | (refine⟨by omega,?_⟩;simp_all;try omega),hM⟩ rfl (by show _ - _<_ - _;(try dsimp only);omega) su (by decide)
  ·
   have h2l: ¬ (i<p0.length):=by have:=of_decide_eq_false h2;omega
   have hM:=hE.trans ((congrArg (fun n=>Qe1 p0 p1 n v1 i) (show p0.length - i=0 by omega)).trans (Qe1.eq_1 _ _ _ _))
   refine ad 6 ?_
   exact rz (rs:=[.tmp 4]) (congrArg (fun x=>[Re.c (.int .i64 x)]) hM)
def Qe3 (p0:Answer) (p1:Int):Int:=bif decide ((i64.wrap (p1 - (p0.Text.size:Int)))<0) then(-1) else(i64.wrap (p1 - (p0.Text.size:Int)))
theorem Qz3 (p0:Answer) (p1:Int):CTs 207 [.o (.st Answer _ inferInstance p0),.o (.c (.int .i64 p1))] [Re.c (.int .i64 (Qe3 p0 p1))]:=by
 refine en Tryz.func207 Tryz.ntmps207 fun w hG hgd=>?_
 obtain⟨hg_p0,_⟩:=hgd
 have hM:=Qe3.eq_1 p0 p1
 refine ad 20 ?_
 refine cd (fun h1=>?_) (fun h1=>?_)
 ·
  have hM:=hM.trans (bt h1)
  refine ad 4 ?_
  exact rz (rs:=[.tmp 4]) (congrArg (fun x=>[Re.c (.int .i64 x)]) hM)
 ·
  have hM:=hM.trans (bf h1)
  refine ad 6 ?_
  exact rz (rs:=[.tmp 4]) (congrArg (fun x=>[Re.c (.int .i64 x)]) hM)
def Qdu (p0:List Answer) (p1:Int):Nat→Int→Nat→Int
 | 0,v1,i=>v1
 | n+1,v1,i=>bif decide ((Qe3 (nth p0 i) v1)<0) then(-1) else(Qdu p0 p1 n (Qe3 (nth p0 i) v1) (i+1))
def Qbs (p0:List Answer) (p1:Int):Int:=bif decide ((i64.wrap (p1 - (p0.length:Int)))<0) then(-1) else(Qdu p0 p1 (p0.length - 0) (i64.wrap (p1 - (p0.length:Int))) 0)
theorem Qmo (p0:List Answer) (p1:Int):CTs 141 [.o (.sl Answer instDatAnswer p0),.o (.c (.int .i64 p1))] [Re.c (.int .i64 (Qbs p0 p1))]:=by
 refine en Tryz.func141 Tryz.ntmps141 fun w hG hgd=>?_
 obtain⟨hg_p0,_⟩:=hgd
 have hl_p0:p0.length≤9223372036854775807:=hg_p0.1
 have hM:=Qbs.eq_1 p0 p1
 refine ad 18 ?_
 refine cd (fun h1=>?_) (fun h1=>?_)
 ·
  have hM:=hM.trans (bt h1)
  refine ad 4 ?_
  exact rz (rs:=[.tmp 4]) (congrArg (fun x=>[Re.c (.int .i64 x)]) hM)
 ·
  have hM:=hM.trans (bf h1)
  refine ad 7 ?_
  refine Run.loopM (ι:=Int×Nat) (fun s=>Qdu p0 p1 (p0.length - s.2) s.1 s.2) (fun s=>⟨27,1,[(0,.sl 0 p0.length),(1,.v (.int .i64 s.1)),(5,.v (.int .i64 (s.2:Int)))],[(0,.ros Answer instDatAnswer p0)]⟩) (fun s=>s.2≤p0.length) (fun s=>p0.length - s.2) (i64.wrap (p1 - (p0.length:Int)),0) [0] [0] hM (by first | exact⟨by omega,by simp⟩ | omega | simp | (dsimp only;omega)) su (by decide) ?_
  rintro ⟨v1,i⟩ hv hE
  try dsimp only at hE
  have hi:=hv
  try dsimp only at hi
  refine ad 8 ?_
  refine cd (fun h2=>?_) (fun h2=>?_)
  ·
   have h2l:i<p0.length:=by have:=of_decide_eq_true h2;omega
   have hM:=hE.trans ((congrArg (fun n=>Qdu p0 p1 n v1 i) (show p0.length - i=(p0.length - (i+1))+1 by omega)).trans (Qdu.eq_2 _ _ _ _ _))
   refine ad 7 ?_
   have hg4:=Qa6 (k:=i) hg_p0 om
   refine op (ix (xs:=p0) i om) ?_
   refine ad 2 ?_
   have hg5:Dat.good (nth p0 i:Answer):=hg4
   refine op (cl (Qz3 (nth p0 i) v1) Yq1) ?_
   refine ad 7 ?_
   refine cd (fun h6=>?_) (fun h6=>?_)
   ·
    have hM:=hM.trans (bt h6)
    refine ad 4 ?_
    exact rz (rs:=[.tmp 4]) (congrArg (fun x=>[Re.c (.int .i64 x)]) hM)
   ·
    have hM:=hM.trans (bf h6)
    refine ad 5 ?_
    rw[Qd7 (i:=i) (by first | omega | exact om)]
    refine ad 2 ?_
    exact Run.again ((Qe3 (nth p0 i) v1),(i+1)) [0] [1] ⟨by first | omega | exact trivial | (dsimp only;omega) | (refine⟨by omega,?_⟩;simp_all;try omega),hM⟩ rfl (by show _ - _<_ - _;(try dsimp only);omega) su (by decide)
  ·
   have h2l: ¬ (i<p0.length):=by have:=of_decide_eq_false h2;omega
   have hM:=hE.trans ((congrArg (fun n=>Qdu p0 p1 n v1 i) (show p0.length - i=0 by omega)).trans (Qdu.eq_1 _ _ _ _))
   refine ad 6 ?_
   exact rz (rs:=[.tmp 4]) (congrArg (fun x=>[Re.c (.int .i64 x)]) hM)
def Qds (p0:List ByteArray) (p1:Int):Nat→Int→Nat→Int
 | 0,v1,i=>v1
 | n+1,v1,i=>bif decide ((i64.wrap (v1 - ((nth p0 i).size:Int)))<0) then(-1) else(Qds p0 p1 n (i64.wrap (v1 - ((nth p0 i).size:Int))) (i+1))
def Qbv (p0:List ByteArray) (p1:Int):Int:=bif decide ((i64.wrap (p1 - (p0.length:Int)))<0) then(-1) else(Qds p0 p1 (p0.length - 0) (i64.wrap (p1 - (p0.length:Int))) 0)
theorem Qjt (p0:List ByteArray) (p1:Int):CTs 35 [.o (.sl ByteArray instDatByteArray p0),.o (.c (.int .i64 p1))] [Re.c (.int .i64 (Qbv p0 p1))]:=by
 refine en Tryz.func35 Tryz.ntmps35 fun w hG hgd=>?_
 obtain⟨hg_p0,_⟩:=hgd
 have hl_p0:p0.length≤9223372036854775807:=hg_p0.1
 have hM:=Qbv.eq_1 p0 p1
 refine ad 18 ?_
 refine cd (fun h1=>?_) (fun h1=>?_)
 ·
  have hM:=hM.trans (bt h1)
  refine ad 4 ?_
  exact rz (rs:=[.tmp 4]) (congrArg (fun x=>[Re.c (.int .i64 x)]) hM)
 ·
  have hM:=hM.trans (bf h1)
  refine ad 7 ?_
  refine Run.loopM (ι:=Int×Nat) (fun s=>Qds p0 p1 (p0.length - s.2) s.1 s.2) (fun s=>⟨28,1,[(0,.sl 0 p0.length),(1,.v (.int .i64 s.1)),(5,.v (.int .i64 (s.2:Int)))],[(0,.ros ByteArray instDatByteArray p0)]⟩) (fun s=>s.2≤p0.length) (fun s=>p0.length - s.2) (i64.wrap (p1 - (p0.length:Int)),0) [0] [0] hM (by first | exact⟨by omega,by simp⟩ | omega | simp | (dsimp only;omega)) su (by decide) ?_
  rintro ⟨v1,i⟩ hv hE
  try dsimp only at hE
  have hi:=hv
  try dsimp only at hi
  refine ad 8 ?_
  refine cd (fun h2=>?_) (fun h2=>?_)
  ·
   have h2l:i<p0.length:=by have:=of_decide_eq_true h2;omega
   have hM:=hE.trans ((congrArg (fun n=>Qds p0 p1 n v1 i) (show p0.length - i=(p0.length - (i+1))+1 by omega)).trans (Qds.eq_2 _ _ _ _ _))
   refine ad 8 ?_
   have hg4:=Qa6 (k:=i) hg_p0 om
   refine op (ix (xs:=p0) i om) ?_
   refine ad 10 ?_
   refine cd (fun h5=>?_) (fun h5=>?_)
   ·
    have hM:=hM.trans (bt h5)
    refine ad 4 ?_
    exact rz (rs:=[.tmp 4]) (congrArg (fun x=>[Re.c (.int .i64 x)]) hM)
   ·
    have hM:=hM.trans (bf h5)
    refine ad 5 ?_
    rw[Qd7 (i:=i) (by first | omega | exact om)]
    refine ad 2 ?_
    exact Run.again (i64.wrap (v1 - ((nth p0 i).size:Int)),(i+1)) [0] [1] ⟨by first | omega | exact trivial | (dsimp only;omega) | (refine⟨by omega,?_⟩;simp_all;try omega),hM⟩ rfl (by show _ - _<_ - _;(try dsimp only);omega) su (by decide)
  ·
   have h2l: ¬ (i<p0.length):=by have:=of_decide_eq_false h2;omega
   have hM:=hE.trans ((congrArg (fun n=>Qds p0 p1 n v1 i) (show p0.length - i=0 by omega)).trans (Qds.eq_1 _ _ _ _))
   refine ad 6 ?_
   exact rz (rs:=[.tmp 4]) (congrArg (fun x=>[Re.c (.int .i64 x)]) hM)
def Qej (p0:Touch) (p1:Int):Int:=bif decide ((Qbv p0.Reads p1)<0) then(-1) else(bif decide ((Qbv p0.Writes (Qbv p0.Reads p1))<0) then(-1) else(Qbv p0.Writes (Qbv p0.Reads p1)))
theorem Q1d (p0:Touch) (p1:Int):CTs 142 [.o (.st Touch _ inferInstance p0),.o (.c (.int .i64 p1))] [Re.c (.int .i64 (Qej p0 p1))]:=by
 refine en Tryz.func142 Tryz.ntmps142 fun w hG hgd=>?_
 obtain⟨hg_p0,_⟩:=hgd
 have hM:=Qej.eq_1 p0 p1
 refine ad 10 ?_
 refine op (cl (Qjt p0.Reads p1) Yon) ?_
 refine ad 8 ?_
 refine cd (fun h1=>?_) (fun h1=>?_)
 ·
  have hM:=hM.trans (bt h1)
  refine ad 4 ?_
  exact rz (rs:=[.tmp 4]) (congrArg (fun x=>[Re.c (.int .i64 x)]) hM)
 ·
  have hM:=hM.trans (bf h1)
  refine ad 6 ?_
  refine op (cl (Qjt p0.Writes (Qbv p0.Reads p1)) Yon) ?_
  refine ad 8 ?_
  refine cd (fun h2=>?_) (fun h2=>?_)
  ·
   have hM:=hM.trans (bt h2)
   refine ad 4 ?_
   exact rz (rs:=[.tmp 4]) (congrArg (fun x=>[Re.c (.int .i64 x)]) hM)
  ·
   have hM:=hM.trans (bf h2)
   refine ad 6 ?_
   exact rz (rs:=[.tmp 4]) (congrArg (fun x=>[Re.c (.int .i64 x)]) hM)
def Qgy (p0:List Int) (p1:Int):Int:=bif decide ((i64.wrap (p1 - (p0.length:Int)))<0) then(-1) else(i64.wrap (p1 - (p0.length:Int)))
theorem Q8q (p0:List Int) (p1:Int):CTs 143 [.o (.sl Int instDatInt p0),.o (.c (.int .i64 p1))] [Re.c (.int .i64 (Qgy p0 p1))]:=by
 refine en Tryz.func143 Tryz.ntmps143 fun w hG hgd=>?_
 obtain⟨hg_p0,_⟩:=hgd
 have hl_p0:p0.length≤9223372036854775807:=hg_p0.1
 have hM:=Qgy.eq_1 p0 p1
 refine ad 18 ?_
 refine cd (fun h1=>?_) (fun h1=>?_)
 ·
  have hM:=hM.trans (bt h1)
  refine ad 4 ?_
  exact rz (rs:=[.tmp 4]) (congrArg (fun x=>[Re.c (.int .i64 x)]) hM)
 ·
  have hM:=hM.trans (bf h1)
  refine ad 6 ?_
  exact rz (rs:=[.tmp 4]) (congrArg (fun x=>[Re.c (.int .i64 x)]) hM)
def Qhe (p0:Tx) (p1:Int):Int:=bif decide ((Qb7 p0.Calls p1)<0) then(-1) else(bif decide ((Qbs p0.Answers (Qb7 p0.Calls p1))<0) then(-1) else(bif decide ((Qej p0.Touch (Qbs p0.Answers (Qb7 p0.Calls p1)))<0) then(-1) else(bif decide ((Qgy p0.Marks (Qej p0.Touch (Qbs p0.Answers (Qb7 p0.Calls p1))))<0) then(-1) else(Qgy p0.Marks (Qej p0.Touch (Qbs p0.Answers (Qb7 p0.Calls p1)))))))
theorem Yd5 (p0:Tx) (p1:Int):CTs 75 [.o (.st Tx _ inferInstance p0),.o (.c (.int .i64 p1))] [Re.c (.int .i64 (Qhe p0 p1))]:=by
 refine en Tryz.func75 Tryz.ntmps75 fun w hG hgd=>?_
 obtain⟨hg_p0,_⟩:=hgd
 have hM:=Qhe.eq_1 p0 p1
 refine ad 10 ?_
 refine op (cl (Q1h p0.Calls p1) Yrx) ?_
 refine ad 8 ?_
 refine cd (fun h1=>?_) (fun h1=>?_)
 ·
  have hM:=hM.trans (bt h1)
  refine ad 4 ?_
  exact rz (rs:=[.tmp 4]) (congrArg (fun x=>[Re.c (.int .i64 x)]) hM)
 ·
  have hM:=hM.trans (bf h1)
  refine ad 6 ?_
  refine op (cl (Qmo p0.Answers (Qb7 p0.Calls p1)) Ynl) ?_
  refine ad 8 ?_
  refine cd (fun h2=>?_) (fun h2=>?_)
  ·
   have hM:=hM.trans (bt h2)
   refine ad 4 ?_
   exact rz (rs:=[.tmp 4]) (congrArg (fun x=>[Re.c (.int .i64 x)]) hM)
  ·
   have hM:=hM.trans (bf h2)
   refine ad 6 ?_
   have hg3:Dat.good (p0.Touch:Touch):=hg_p0.2.2.2.2.2.2.1
   refine op (cl (Q1d p0.Touch (Qbs p0.Answers (Qb7 p0.Calls p1))) Yrw) ?_
   refine ad 8 ?_
   refine cd (fun h4=>?_) (fun h4=>?_)
   ·
    have hM:=hM.trans (bt h4)
    refine ad 4 ?_
    exact rz (rs:=[.tmp 4]) (congrArg (fun x=>[Re.c (.int .i64 x)]) hM)
   ·
    have hM:=hM.trans (bf h4)
    refine ad 6 ?_
    refine op (cl (Q8q p0.Marks (Qej p0.Touch (Qbs p0.Answers (Qb7 p0.Calls p1)))) Yrv) ?_
    refine ad 8 ?_
    refine cd (fun h5=>?_) (fun h5=>?_)
    ·
     have hM:=hM.trans (bt h5)
     refine ad 4 ?_
     exact rz (rs:=[.tmp 4]) (congrArg (fun x=>[Re.c (.int .i64 x)]) hM)
    ·
     have hM:=hM.trans (bf h5)
     refine ad 6 ?_
     exact rz (rs:=[.tmp 4]) (congrArg (fun x=>[Re.c (.int .i64 x)]) hM)
def Qfy (p0:List Tx) (p1:Int):Nat→Int→Nat→Int
 | 0,v1,i=>v1
 | n+1,v1,i=>bif decide ((Qhe (nth p0 i) v1)<0) then(-1) else(Qfy p0 p1 n (Qhe (nth p0 i) v1) (i+1))
def Qc4 (p0:List Tx) (p1:Int):Int:=bif decide ((i64.wrap (p1 - (p0.length:Int)))<0) then(-1) else(Qfy p0 p1 (p0.length - 0) (i64.wrap (p1 - (p0.length:Int))) 0)
theorem Ycv (p0:List Tx) (p1:Int):CTs 32 [.o (.sl Tx instDatTx p0),.o (.c (.int .i64 p1))] [Re.c (.int .i64 (Qc4 p0 p1))]:=by
 refine en Tryz.func32 Tryz.ntmps32 fun w hG hgd=>?_
 obtain⟨hg_p0,_⟩:=hgd
 have hl_p0:p0.length≤9223372036854775807:=hg_p0.1
 have hM:=Qc4.eq_1 p0 p1
 refine ad 18 ?_
 refine cd (fun h1=>?_) (fun h1=>?_)
 ·
  have hM:=hM.trans (bt h1)
  refine ad 4 ?_
  exact rz (rs:=[.tmp 4]) (congrArg (fun x=>[Re.c (.int .i64 x)]) hM)
 ·
  have hM:=hM.trans (bf h1)
  refine ad 7 ?_
  refine Run.loopM (ι:=Int×Nat) (fun s=>Qfy p0 p1 (p0.length - s.2) s.1 s.2) (fun s=>⟨27,1,[(0,.sl 0 p0.length),(1,.v (.int .i64 s.1)),(5,.v (.int .i64 (s.2:Int)))],[(0,.ros Tx instDatTx p0)]⟩) (fun s=>s.2≤p0.length) (fun s=>p0.length - s.2) (i64.wrap (p1 - (p0.length:Int)),0) [0] [0] hM (by first | exact⟨by omega,by simp⟩ | omega | simp | (dsimp only;omega)) su (by decide) ?_
  rintro ⟨v1,i⟩ hv hE
  try dsimp only at hE
  have hi:=hv
  try dsimp only at hi
  refine ad 8 ?_
  refine cd (fun h2=>?_) (fun h2=>?_)
  ·
   have h2l:i<p0.length:=by have:=of_decide_eq_true h2;omega
   have hM:=hE.trans ((congrArg (fun n=>Qfy p0 p1 n v1 i) (show p0.length - i=(p0.length - (i+1))+1 by omega)).trans (Qfy.eq_2 _ _ _ _ _))
   refine ad 7 ?_
   have hg4:=Qa6 (k:=i) hg_p0 om
   refine op (ix (xs:=p0) i om) ?_
   refine ad 2 ?_
   have hg5:Dat.good (nth p0 i:Tx):=hg4
   refine op (cl (Yd5 (nth p0 i) v1) Yuf) ?_
   refine ad 7 ?_
   refine cd (fun h6=>?_) (fun h6=>?_)
   ·
    have hM:=hM.trans (bt h6)
    refine ad 4 ?_
    exact rz (rs:=[.tmp 4]) (congrArg (fun x=>[Re.c (.int .i64 x)]) hM)
   ·
    have hM:=hM.trans (bf h6)
    refine ad 5 ?_
    rw[Qd7 (i:=i) (by first | omega | exact om)]
    refine ad 2 ?_
    exact Run.again ((Qhe (nth p0 i) v1),(i+1)) [0] [6] ⟨by first | omega | exact trivial | (dsimp only;omega) | (refine⟨by omega,?_⟩;simp_all;try omega),hM⟩ rfl (by show _ - _<_ - _;(try dsimp only);omega) su (by decide)
  ·
   have h2l: ¬ (i<p0.length):=by have:=of_decide_eq_false h2;omega
   have hM:=hE.trans ((congrArg (fun n=>Qfy p0 p1 n v1 i) (show p0.length - i=0 by omega)).trans (Qfy.eq_1 _ _ _ _))
   refine ad 6 ?_
   exact rz (rs:=[.tmp 4]) (congrArg (fun x=>[Re.c (.int .i64 x)]) hM)
def Qf9 (p0:Slot) (p1:Int):Int:=bif decide ((Qbh p0.Cells p1)<0) then(-1) else(Qbh p0.Cells p1)
theorem Q8p (p0:Slot) (p1:Int):CTs 144 [.o (.st Slot _ inferInstance p0),.o (.c (.int .i64 p1))] [Re.c (.int .i64 (Qf9 p0 p1))]:=by
 refine en Tryz.func144 Tryz.ntmps144 fun w hG hgd=>?_
 obtain⟨hg_p0,_⟩:=hgd
 have hM:=Qf9.eq_1 p0 p1
 refine ad 10 ?_
 refine op (cl (Qog p0.Cells p1) Yqf) ?_
 refine ad 8 ?_
 refine cd (fun h1=>?_) (fun h1=>?_)
 ·
  have hM:=hM.trans (bt h1)
  refine ad 4 ?_
  exact rz (rs:=[.tmp 4]) (congrArg (fun x=>[Re.c (.int .i64 x)]) hM)
 ·
  have hM:=hM.trans (bf h1)
  refine ad 6 ?_
  exact rz (rs:=[.tmp 4]) (congrArg (fun x=>[Re.c (.int .i64 x)]) hM)
def Qez (p0:List Slot) (p1:Int):Nat→Int→Nat→Int
 | 0,v1,i=>v1
 | n+1,v1,i=>bif decide ((Qf9 (nth p0 i) v1)<0) then(-1) else(Qez p0 p1 n (Qf9 (nth p0 i) v1) (i+1))
def Qel (p0:List Slot) (p1:Int):Int:=bif decide ((i64.wrap (p1 - (p0.length:Int)))<0) then(-1) else(Qez p0 p1 (p0.length - 0) (i64.wrap (p1 - (p0.length:Int))) 0)
theorem Q1f (p0:List Slot) (p1:Int):CTs 76 [.o (.sl Slot instDatSlot p0),.o (.c (.int .i64 p1))] [Re.c (.int .i64 (Qel p0 p1))]:=by
 refine en Tryz.func76 Tryz.ntmps76 fun w hG hgd=>?_
 obtain⟨hg_p0,_⟩:=hgd
 have hl_p0:p0.length≤9223372036854775807:=hg_p0.1
 have hM:=Qel.eq_1 p0 p1
 refine ad 18 ?_
 refine cd (fun h1=>?_) (fun h1=>?_)
 ·
  have hM:=hM.trans (bt h1)
  refine ad 4 ?_
  exact rz (rs:=[.tmp 4]) (congrArg (fun x=>[Re.c (.int .i64 x)]) hM)
 ·
  have hM:=hM.trans (bf h1)
  refine ad 7 ?_
  refine Run.loopM (ι:=Int×Nat) (fun s=>Qez p0 p1 (p0.length - s.2) s.1 s.2) (fun s=>⟨27,1,[(0,.sl 0 p0.length),(1,.v (.int .i64 s.1)),(5,.v (.int .i64 (s.2:Int)))],[(0,.ros Slot instDatSlot p0)]⟩) (fun s=>s.2≤p0.length) (fun s=>p0.length - s.2) (i64.wrap (p1 - (p0.length:Int)),0) [0] [0] hM (by first | exact⟨by omega,by simp⟩ | omega | simp | (dsimp only;omega)) su (by decide) ?_
  rintro ⟨v1,i⟩ hv hE
  try dsimp only at hE
  have hi:=hv
  try dsimp only at hi
  refine ad 8 ?_
  refine cd (fun h2=>?_) (fun h2=>?_)
  ·
   have h2l:i<p0.length:=by have:=of_decide_eq_true h2;omega
   have hM:=hE.trans ((congrArg (fun n=>Qez p0 p1 n v1 i) (show p0.length - i=(p0.length - (i+1))+1 by omega)).trans (Qez.eq_2 _ _ _ _ _))
   refine ad 7 ?_
   have hg4:=Qa6 (k:=i) hg_p0 om
   refine op (ix (xs:=p0) i om) ?_
   refine ad 2 ?_
   have hg5:Dat.good (nth p0 i:Slot):=hg4
   refine op (cl (Q8p (nth p0 i) v1) Yru) ?_
   refine ad 7 ?_
   refine cd (fun h6=>?_) (fun h6=>?_)
   ·
    have hM:=hM.trans (bt h6)
    refine ad 4 ?_
    exact rz (rs:=[.tmp 4]) (congrArg (fun x=>[Re.c (.int .i64 x)]) hM)
   ·
    have hM:=hM.trans (bf h6)
    refine ad 5 ?_
    rw[Qd7 (i:=i) (by first | omega | exact om)]
    refine ad 2 ?_
    exact Run.again ((Qf9 (nth p0 i) v1),(i+1)) [0] [2] ⟨by first | omega | exact trivial | (dsimp only;omega) | (refine⟨by omega,?_⟩;simp_all;try omega),hM⟩ rfl (by show _ - _<_ - _;(try dsimp only);omega) su (by decide)
  ·
   have h2l: ¬ (i<p0.length):=by have:=of_decide_eq_false h2;omega
   have hM:=hE.trans ((congrArg (fun n=>Qez p0 p1 n v1 i) (show p0.length - i=0 by omega)).trans (Qez.eq_1 _ _ _ _))
   refine ad 6 ?_
   exact rz (rs:=[.tmp 4]) (congrArg (fun x=>[Re.c (.int .i64 x)]) hM)
def Qfh (p0:Journal) (p1:Int):Int:=bif decide ((i64.wrap (p1 - (p0.Text.size:Int)))<0) then(-1) else(i64.wrap (p1 - (p0.Text.size:Int)))
theorem Qyb (p0:Journal) (p1:Int):CTs 77 [.o (.st Journal _ inferInstance p0),.o (.c (.int .i64 p1))] [Re.c (.int .i64 (Qfh p0 p1))]:=by
 refine en Tryz.func77 Tryz.ntmps77 fun w hG hgd=>?_
 obtain⟨hg_p0,_⟩:=hgd
 have hM:=Qfh.eq_1 p0 p1
 refine ad 20 ?_
 refine cd (fun h1=>?_) (fun h1=>?_)
 ·
  have hM:=hM.trans (bt h1)
  refine ad 4 ?_
  exact rz (rs:=[.tmp 4]) (congrArg (fun x=>[Re.c (.int .i64 x)]) hM)
 ·
  have hM:=hM.trans (bf h1)
  refine ad 6 ?_
  exact rz (rs:=[.tmp 4]) (congrArg (fun x=>[Re.c (.int .i64 x)]) hM)
def Qdf (p0:Disk) (p1:Int):Int:=bif decide ((Qel p0.Slots p1)<0) then(-1) else(bif decide ((Qfh p0.Journal (Qel p0.Slots p1))<0) then(-1) else(Qfh p0.Journal (Qel p0.Slots p1)))
theorem Q8r (p0:Disk) (p1:Int):CTs 33 [.o (.st Disk _ inferInstance p0),.o (.c (.int .i64 p1))] [Re.c (.int .i64 (Qdf p0 p1))]:=by
 refine en Tryz.func33 Tryz.ntmps33 fun w hG hgd=>?_
 obtain⟨hg_p0,_⟩:=hgd
 have hM:=Qdf.eq_1 p0 p1
 refine ad 10 ?_
 refine op (cl (Q1f p0.Slots p1) Yue) ?_
 refine ad 8 ?_
 refine cd (fun h1=>?_) (fun h1=>?_)
 ·
  have hM:=hM.trans (bt h1)
  refine ad 4 ?_
  exact rz (rs:=[.tmp 4]) (congrArg (fun x=>[Re.c (.int .i64 x)]) hM)
 ·
  have hM:=hM.trans (bf h1)
  refine ad 6 ?_
  have hg2:Dat.good (p0.Journal:Journal):=hg_p0.2
  refine op (cl (Qyb p0.Journal (Qel p0.Slots p1)) Yud) ?_
  refine ad 8 ?_
  refine cd (fun h3=>?_) (fun h3=>?_)
  ·
   have hM:=hM.trans (bt h3)
   refine ad 4 ?_
   exact rz (rs:=[.tmp 4]) (congrArg (fun x=>[Re.c (.int .i64 x)]) hM)
  ·
   have hM:=hM.trans (bf h3)
   refine ad 6 ?_
   exact rz (rs:=[.tmp 4]) (congrArg (fun x=>[Re.c (.int .i64 x)]) hM)
def Qf8 (p0:Step) (p1:Int):Int:=bif decide ((Qe2 p0.Call p1)<0) then(-1) else(Qe2 p0.Call p1)
theorem Q8o (p0:Step) (p1:Int):CTs 208 [.o (.st Step _ inferInstance p0),.o (.c (.int .i64 p1))] [Re.c (.int .i64 (Qf8 p0 p1))]:=by
 refine en Tryz.func208 Tryz.ntmps208 fun w hG hgd=>?_
 obtain⟨hg_p0,_⟩:=hgd
 have hM:=Qf8.eq_1 p0 p1
 refine ad 10 ?_
 have hg1:Dat.good (p0.Call:Call):=hg_p0.2
 refine op (cl (Qqp p0.Call p1) Ynd) ?_
 refine ad 8 ?_
 refine cd (fun h2=>?_) (fun h2=>?_)
 ·
  have hM:=hM.trans (bt h2)
  refine ad 4 ?_
  exact rz (rs:=[.tmp 4]) (congrArg (fun x=>[Re.c (.int .i64 x)]) hM)
 ·
  have hM:=hM.trans (bf h2)
  refine ad 6 ?_
  exact rz (rs:=[.tmp 4]) (congrArg (fun x=>[Re.c (.int .i64 x)]) hM)
def Qey (p0:List Step) (p1:Int):Nat→Int→Nat→Int
 | 0,v1,i=>v1
 | n+1,v1,i=>bif decide ((Qf8 (nth p0 i) v1)<0) then(-1) else(Qey p0 p1 n (Qf8 (nth p0 i) v1) (i+1))
def Qek (p0:List Step) (p1:Int):Int:=bif decide ((i64.wrap (p1 - (p0.length:Int)))<0) then(-1) else(Qey p0 p1 (p0.length - 0) (i64.wrap (p1 - (p0.length:Int))) 0)
theorem Q1e (p0:List Step) (p1:Int):CTs 145 [.o (.sl Step instDatStep p0),.o (.c (.int .i64 p1))] [Re.c (.int .i64 (Qek p0 p1))]:=by
 refine en Tryz.func145 Tryz.ntmps145 fun w hG hgd=>?_
 obtain⟨hg_p0,_⟩:=hgd
 have hl_p0:p0.length≤9223372036854775807:=hg_p0.1
 have hM:=Qek.eq_1 p0 p1
 refine ad 18 ?_
 refine cd (fun h1=>?_) (fun h1=>?_)
 ·
  have hM:=hM.trans (bt h1)
  refine ad 4 ?_
  exact rz (rs:=[.tmp 4]) (congrArg (fun x=>[Re.c (.int .i64 x)]) hM)
 ·
  have hM:=hM.trans (bf h1)
  refine ad 7 ?_
  refine Run.loopM (ι:=Int×Nat) (fun s=>Qey p0 p1 (p0.length - s.2) s.1 s.2) (fun s=>⟨27,1,[(0,.sl 0 p0.length),(1,.v (.int .i64 s.1)),(5,.v (.int .i64 (s.2:Int)))],[(0,.ros Step instDatStep p0)]⟩) (fun s=>s.2≤p0.length) (fun s=>p0.length - s.2) (i64.wrap (p1 - (p0.length:Int)),0) [0] [0] hM (by first | exact⟨by omega,by simp⟩ | omega | simp | (dsimp only;omega)) su (by decide) ?_
  rintro ⟨v1,i⟩ hv hE
  try dsimp only at hE
  have hi:=hv
  try dsimp only at hi
  refine ad 8 ?_
  refine cd (fun h2=>?_) (fun h2=>?_)
  ·
   have h2l:i<p0.length:=by have:=of_decide_eq_true h2;omega
   have hM:=hE.trans ((congrArg (fun n=>Qey p0 p1 n v1 i) (show p0.length - i=(p0.length - (i+1))+1 by omega)).trans (Qey.eq_2 _ _ _ _ _))
   refine ad 7 ?_
   have hg4:=Qa6 (k:=i) hg_p0 om
   refine op (ix (xs:=p0) i om) ?_
   refine ad 2 ?_
   have hg5:Dat.good (nth p0 i:Step):=hg4
   refine op (cl (Q8o (nth p0 i) v1) Yq0) ?_
   refine ad 7 ?_
   refine cd (fun h6=>?_) (fun h6=>?_)
   ·
    have hM:=hM.trans (bt h6)
    refine ad 4 ?_
    exact rz (rs:=[.tmp 4]) (congrArg (fun x=>[Re.c (.int .i64 x)]) hM)
   ·
    have hM:=hM.trans (bf h6)
    refine ad 5 ?_
    rw[Qd7 (i:=i) (by first | omega | exact om)]
    refine ad 2 ?_
    exact Run.again ((Qf8 (nth p0 i) v1),(i+1)) [0] [1] ⟨by first | omega | exact trivial | (dsimp only;omega) | (refine⟨by omega,?_⟩;simp_all;try omega),hM⟩ rfl (by show _ - _<_ - _;(try dsimp only);omega) su (by decide)
  ·
   have h2l: ¬ (i<p0.length):=by have:=of_decide_eq_false h2;omega
   have hM:=hE.trans ((congrArg (fun n=>Qey p0 p1 n v1 i) (show p0.length - i=0 by omega)).trans (Qey.eq_1 _ _ _ _))
   refine ad 6 ?_
   exact rz (rs:=[.tmp 4]) (congrArg (fun x=>[Re.c (.int .i64 x)]) hM)
def Qfl (p0:Entry) (p1:Int):Int:=bif decide ((Qek p0.Steps p1)<0) then(-1) else(bif decide ((Qbs p0.Answers (Qek p0.Steps p1))<0) then(-1) else(Qbs p0.Answers (Qek p0.Steps p1)))
theorem Q1g (p0:Entry) (p1:Int):CTs 78 [.o (.st Entry _ inferInstance p0),.o (.c (.int .i64 p1))] [Re.c (.int .i64 (Qfl p0 p1))]:=by
 refine en Tryz.func78 Tryz.ntmps78 fun w hG hgd=>?_
 obtain⟨hg_p0,_⟩:=hgd
 have hM:=Qfl.eq_1 p0 p1
 refine ad 10 ?_
 refine op (cl (Q1e p0.Steps p1) Yrt) ?_
 refine ad 8 ?_
 refine cd (fun h1=>?_) (fun h1=>?_)
 ·
  have hM:=hM.trans (bt h1)
  refine ad 4 ?_
  exact rz (rs:=[.tmp 4]) (congrArg (fun x=>[Re.c (.int .i64 x)]) hM)
 ·
  have hM:=hM.trans (bf h1)
  refine ad 6 ?_
  refine op (cl (Qmo p0.Answers (Qek p0.Steps p1)) Ynl) ?_
  refine ad 8 ?_
  refine cd (fun h2=>?_) (fun h2=>?_)
  ·
   have hM:=hM.trans (bt h2)
   refine ad 4 ?_
   exact rz (rs:=[.tmp 4]) (congrArg (fun x=>[Re.c (.int .i64 x)]) hM)
  ·
   have hM:=hM.trans (bf h2)
   refine ad 6 ?_
   exact rz (rs:=[.tmp 4]) (congrArg (fun x=>[Re.c (.int .i64 x)]) hM)
def Qee (p0:List Entry) (p1:Int):Nat→Int→Nat→Int
 | 0,v1,i=>v1
 | n+1,v1,i=>bif decide ((Qfl (nth p0 i) v1)<0) then(-1) else(Qee p0 p1 n (Qfl (nth p0 i) v1) (i+1))
def Qdt (p0:List Entry) (p1:Int):Int:=bif decide ((i64.wrap (p1 - (p0.length:Int)))<0) then(-1) else(Qee p0 p1 (p0.length - 0) (i64.wrap (p1 - (p0.length:Int))) 0)
theorem Qz2 (p0:List Entry) (p1:Int):CTs 34 [.o (.sl Entry instDatEntry p0),.o (.c (.int .i64 p1))] [Re.c (.int .i64 (Qdt p0 p1))]:=by
 refine en Tryz.func34 Tryz.ntmps34 fun w hG hgd=>?_
 obtain⟨hg_p0,_⟩:=hgd
 have hl_p0:p0.length≤9223372036854775807:=hg_p0.1
 have hM:=Qdt.eq_1 p0 p1
 refine ad 18 ?_
 refine cd (fun h1=>?_) (fun h1=>?_)
 ·
  have hM:=hM.trans (bt h1)
  refine ad 4 ?_
  exact rz (rs:=[.tmp 4]) (congrArg (fun x=>[Re.c (.int .i64 x)]) hM)
 ·
  have hM:=hM.trans (bf h1)
  refine ad 7 ?_
  refine Run.loopM (ι:=Int×Nat) (fun s=>Qee p0 p1 (p0.length - s.2) s.1 s.2) (fun s=>⟨27,1,[(0,.sl 0 p0.length),(1,.v (.int .i64 s.1)),(5,.v (.int .i64 (s.2:Int)))],[(0,.ros Entry instDatEntry p0)]⟩) (fun s=>s.2≤p0.length) (fun s=>p0.length - s.2) (i64.wrap (p1 - (p0.length:Int)),0) [0] [0] hM (by first | exact⟨by omega,by simp⟩ | omega | simp | (dsimp only;omega)) su (by decide) ?_
  rintro ⟨v1,i⟩ hv hE
  try dsimp only at hE
  have hi:=hv
  try dsimp only at hi
  refine ad 8 ?_
  refine cd (fun h2=>?_) (fun h2=>?_)
  ·
   have h2l:i<p0.length:=by have:=of_decide_eq_true h2;omega
   have hM:=hE.trans ((congrArg (fun n=>Qee p0 p1 n v1 i) (show p0.length - i=(p0.length - (i+1))+1 by omega)).trans (Qee.eq_2 _ _ _ _ _))
   refine ad 7 ?_
   have hg4:=Qa6 (k:=i) hg_p0 om
   refine op (ix (xs:=p0) i om) ?_
   refine ad 2 ?_
   have hg5:Dat.good (nth p0 i:Entry):=hg4
   refine op (cl (Q1g (nth p0 i) v1) Yuc) ?_
   refine ad 7 ?_
   refine cd (fun h6=>?_) (fun h6=>?_)
   ·
    have hM:=hM.trans (bt h6)
    refine ad 4 ?_
    exact rz (rs:=[.tmp 4]) (congrArg (fun x=>[Re.c (.int .i64 x)]) hM)
   ·
    have hM:=hM.trans (bf h6)
    refine ad 5 ?_
    rw[Qd7 (i:=i) (by first | omega | exact om)]
    refine ad 2 ?_
    exact Run.again ((Qfl (nth p0 i) v1),(i+1)) [0] [3] ⟨by first | omega | exact trivial | (dsimp only;omega) | (refine⟨by omega,?_⟩;simp_all;try omega),hM⟩ rfl (by show _ - _<_ - _;(try dsimp only);omega) su (by decide)
  ·
   have h2l: ¬ (i<p0.length):=by have:=of_decide_eq_false h2;omega
   have hM:=hE.trans ((congrArg (fun n=>Qee p0 p1 n v1 i) (show p0.length - i=0 by omega)).trans (Qee.eq_1 _ _ _ _))
   refine ad 6 ?_
   exact rz (rs:=[.tmp 4]) (congrArg (fun x=>[Re.c (.int .i64 x)]) hM)
def Qgi (p0:Kernel) (p1:Int):Int:=bif decide ((Qbh p0.Store p1)<0) then(-1) else(bif decide ((Qc4 p0.Txs (Qbh p0.Store p1))<0) then(-1) else(bif decide ((Qdf p0.Disk (Qc4 p0.Txs (Qbh p0.Store p1)))<0) then(-1) else(bif decide ((Qdt p0.History (Qdf p0.Disk (Qc4 p0.Txs (Qbh p0.Store p1))))<0) then(-1) else(bif decide ((Qbv p0.Seen (Qdt p0.History (Qdf p0.Disk (Qc4 p0.Txs (Qbh p0.Store p1)))))<0) then(-1) else(Qbv p0.Seen (Qdt p0.History (Qdf p0.Disk (Qc4 p0.Txs (Qbh p0.Store p1)))))))))
theorem Qz1 (p0:Kernel) (p1:Int):CTs 9 [.o (.st Kernel _ inferInstance p0),.o (.c (.int .i64 p1))] [Re.c (.int .i64 (Qgi p0 p1))]:=by
 refine en Tryz.func9 Tryz.ntmps9 fun w hG hgd=>?_
 obtain⟨hg_p0,_⟩:=hgd
 have hM:=Qgi.eq_1 p0 p1
 refine ad 10 ?_
 refine op (cl (Qog p0.Store p1) Yqf) ?_
 refine ad 8 ?_
 refine cd (fun h1=>?_) (fun h1=>?_)
 ·
  have hM:=hM.trans (bt h1)
  refine ad 4 ?_
  exact rz (rs:=[.tmp 4]) (congrArg (fun x=>[Re.c (.int .i64 x)]) hM)
 ·
  have hM:=hM.trans (bf h1)
  refine ad 6 ?_
  refine op (cl (Ycv p0.Txs (Qbh p0.Store p1)) Yuy) ?_
  refine ad 8 ?_
  refine cd (fun h2=>?_) (fun h2=>?_)
  ·
   have hM:=hM.trans (bt h2)
   refine ad 4 ?_
   exact rz (rs:=[.tmp 4]) (congrArg (fun x=>[Re.c (.int .i64 x)]) hM)
  ·
   have hM:=hM.trans (bf h2)
   refine ad 6 ?_
   have hg3:Dat.good (p0.Disk:Disk):=hg_p0.2.2.1
   refine op (cl (Q8r p0.Disk (Qc4 p0.Txs (Qbh p0.Store p1))) Yux) ?_
   refine ad 8 ?_
   refine cd (fun h4=>?_) (fun h4=>?_)
   ·
    have hM:=hM.trans (bt h4)
    refine ad 4 ?_
    exact rz (rs:=[.tmp 4]) (congrArg (fun x=>[Re.c (.int .i64 x)]) hM)
   ·
    have hM:=hM.trans (bf h4)
    refine ad 6 ?_
    refine op (cl (Qz2 p0.History (Qdf p0.Disk (Qc4 p0.Txs (Qbh p0.Store p1)))) Yuw) ?_
    refine ad 8 ?_
    refine cd (fun h5=>?_) (fun h5=>?_)
    ·
     have hM:=hM.trans (bt h5)
     refine ad 4 ?_
     exact rz (rs:=[.tmp 4]) (congrArg (fun x=>[Re.c (.int .i64 x)]) hM)
    ·
     have hM:=hM.trans (bf h5)
     refine ad 6 ?_
     refine op (cl (Qjt p0.Seen (Qdt p0.History (Qdf p0.Disk (Qc4 p0.Txs (Qbh p0.Store p1))))) Yon) ?_
     refine ad 8 ?_
     refine cd (fun h6=>?_) (fun h6=>?_)
     ·
      have hM:=hM.trans (bt h6)
      refine ad 4 ?_
      exact rz (rs:=[.tmp 4]) (congrArg (fun x=>[Re.c (.int .i64 x)]) hM)
     ·
      have hM:=hM.trans (bf h6)
      refine ad 6 ?_
      exact rz (rs:=[.tmp 4]) (congrArg (fun x=>[Re.c (.int .i64 x)]) hM)
end
section
open Go.RowKit
theorem Ymz {α:Type} [Inhabited α] {xs:List α} {i:Nat} {x:α} (h:xs[i]?=some x):nth xs i=x:=by
 simp[nth,List.getD_eq_getElem?_getD,h]
def szL {α:Type} [Inhabited α] (f:α→Int→Int) (xs:List α):Nat→Int→Nat→Int
 | 0,s,_=>s
 | n+1,s,i=>bif decide (f (nth xs i) s<0) then(-1) else szL f xs n (f (nth xs i) s) (i+1)
theorem Qi9 {α:Type} [Inhabited α] [Dat α] {f:α→Int→Int} {xs:List α} (hf: ∀ x s,0≤s→s≤1048576→Dat.good x→ ¬ f x s<0→Dat.small 1048576 x∧0≤f x s∧f x s≤1048576) (hg: ∀ x∈xs,Dat.good x):
  ∀ (n:Nat) (s:Int) (i:Nat),n=xs.length - i→0≤s→s≤1048576→ ¬ szL f xs n s i<0→(∀ j x,i≤j→xs[j]?=some x→Dat.small 1048576 x)∧0≤szL f xs n s i∧szL f xs n s i≤1048576:=by
 intro n
 induction n with
 | zero =>
  intro s i hn h0 h1 _
  refine⟨fun j x hj hx=>?_,h0,h1⟩
  have:=(List.getElem?_eq_some_iff.1 hx).1
  omega
 | succ n ih =>
  intro s i hn h0 h1 h
  unfold szL at h ⊢
  by_cases hc:f (nth xs i) s<0
  ·rw[decide_eq_true hc] at h
   exact absurd (show((-1:Int))<0 by decide) h
  ·rw[decide_eq_false hc] at h ⊢
   have hi:i<xs.length:=by omega
   have hx:xs[i]?=some xs[i]:=List.getElem?_eq_getElem hi
   have hgi:Dat.good (nth xs i):=by rw[Ymz hx];exact hg _ (List.getElem_mem hi)
   obtain⟨h2,h3,h4⟩:=hf _ _ h0 h1 hgi hc
   obtain⟨h5,h6,h7⟩:=ih _ (i+1) (by omega) h3 h4 h
   refine⟨fun j x hj hjx=>?_,h6,h7⟩
   by_cases e:j=i
   ·subst e
    rw[←Ymz hjx]
    exact h2
   ·exact h5 j x (by omega) hjx
theorem Qk1 {s:ByteArray} (h:Dat.good s):s.size≤9223372036854775807:=by
 have h':s.size≤maxLen:=h
 unfold maxLen at h'
 omega
theorem Qge {a:Int} {n:Nat} (h0:0≤a) (h1:a≤1048576) (hn:n≤9223372036854775807):IntKind.i64.wrap (a - (n:Int))=a - n:=IntWalk.i64_in _ (by omega)
def Qhp (x:ByteArray) (s:Int):Int:=IntKind.i64.wrap (s - (x.size:Int))
theorem Qox (p0:ByteArray) (p1:Int) (h0:0≤p1) (h1:p1≤1048576) (hg:Dat.good p0) (h: ¬ Qhp p0 p1<0):Dat.small 1048576 p0∧0≤Qhp p0 p1∧Qhp p0 p1≤1048576:=by
 unfold Qhp at h ⊢
 rw[Qge h0 h1 (Qk1 hg)] at h ⊢
 have e:p0.size≤1048576:=by omega
 exact⟨e,by omega,by omega⟩
theorem Qfs {a:Int} {x:Int} (h: ¬ (bif decide (a<0) then(-1:Int) else x)<0): ¬ a<0:=fun hc=>h (by rw[decide_eq_true hc];show(-1:Int)<0;decide)
theorem Qrc (p0:Cell) (p1:Int) (h0:0≤p1) (h1:p1≤1048576) (hg:Dat.good p0) (h: ¬ Qga p0 p1<0):Dat.small 1048576 p0∧0≤Qga p0 p1∧Qga p0 p1≤1048576:=by
 unfold Qga at h ⊢
 obtain⟨g0,g1⟩:=hg
 rw[Qge (a:=p1) h0 h1 (n:=p0.Key.size) (Qk1 g0)] at h ⊢
 have c1: ¬ (p1 - (p0.Key.size:Int))<0:=Qfs h
 rw[decide_eq_false c1,cond_false] at h ⊢
 have b1:0≤(p1 - (p0.Key.size:Int)):=by omega
 have e1:(p1 - (p0.Key.size:Int))≤1048576:=by omega
 have s0:p0.Key.size≤1048576:=by omega
 rw[Qge (a:=(p1 - (p0.Key.size:Int))) b1 e1 (n:=p0.Val.size) (Qk1 g1)] at h ⊢
 have c2: ¬ ((p1 - (p0.Key.size:Int)) - (p0.Val.size:Int))<0:=Qfs h
 rw[decide_eq_false c2,cond_false] at h ⊢
 have b2:0≤((p1 - (p0.Key.size:Int)) - (p0.Val.size:Int)):=by omega
 have e2:((p1 - (p0.Key.size:Int)) - (p0.Val.size:Int))≤1048576:=by omega
 have s1:p0.Val.size≤1048576:=by omega
 exact⟨⟨s0,s1⟩,b2,e2⟩
theorem Qpy (p0:List Cell) (p1:Int): ∀ n s i,Qe0 p0 p1 n s i=szL Qga p0 n s i:=by
 intro n
 induction n with
 | zero=>intro s i;rfl
 | succ n ih=>intro s i;rw[Qe0,szL,ih]
theorem Qky (p0:List Cell) (p1:Int) (h0:0≤p1) (h1:p1≤1048576) (hg:Dat.good p0) (h: ¬ Qbh p0 p1<0):Dat.small 1048576 p0∧0≤Qbh p0 p1∧Qbh p0 p1≤1048576:=by
 unfold Qbh at h ⊢
 rw[Qge h0 h1 hg.1] at h ⊢
 have hc:=Qfs h
 rw[decide_eq_false hc,cond_false,Qpy] at h ⊢
 obtain⟨h2,h3,h4⟩:=Qi9 (f:=Qga) (xs:=p0) Qrc hg.2 _ _ 0 rfl (by omega) (by omega) h
 refine⟨⟨by omega,fun x hx=>?_⟩,h3,h4⟩
 obtain⟨j,hj⟩:=List.getElem?_of_mem hx
 exact h2 j x (Nat.zero_le _) hj
theorem Qlp (p0:Call) (p1:Int) (h0:0≤p1) (h1:p1≤1048576) (hg:Dat.good p0) (h: ¬ Qe2 p0 p1<0):Dat.small 1048576 p0∧0≤Qe2 p0 p1∧Qe2 p0 p1≤1048576:=by
 unfold Qe2 at h ⊢
 obtain⟨g0,g1,g2,g3,g4,g5⟩:=hg
 rw[Qge (a:=p1) h0 h1 (n:=p0.Name.size) (Qk1 g1)] at h ⊢
 have c1: ¬ (p1 - (p0.Name.size:Int))<0:=Qfs h
 rw[decide_eq_false c1,cond_false] at h ⊢
 have b1:0≤(p1 - (p0.Name.size:Int)):=by omega
 have e1:(p1 - (p0.Name.size:Int))≤1048576:=by omega
 have s1:p0.Name.size≤1048576:=by omega
 rw[Qge (a:=(p1 - (p0.Name.size:Int))) b1 e1 (n:=p0.To.size) (Qk1 g2)] at h ⊢
 have c2: ¬ ((p1 - (p0.Name.size:Int)) - (p0.To.size:Int))<0:=Qfs h
 rw[decide_eq_false c2,cond_false] at h ⊢
 have b2:0≤((p1 - (p0.Name.size:Int)) - (p0.To.size:Int)):=by omega
 have e2:((p1 - (p0.Name.size:Int)) - (p0.To.size:Int))≤1048576:=by omega
 have s2:p0.To.size≤1048576:=by omega
 rw[Qge (a:=((p1 - (p0.Name.size:Int)) - (p0.To.size:Int))) b2 e2 (n:=p0.Text.size) (Qk1 g5)] at h ⊢
 have c3: ¬ (((p1 - (p0.Name.size:Int)) - (p0.To.size:Int)) - (p0.Text.size:Int))<0:=Qfs h
 rw[decide_eq_false c3,cond_false] at h ⊢
 have b3:0≤(((p1 - (p0.Name.size:Int)) - (p0.To.size:Int)) - (p0.Text.size:Int)):=by omega
 have e3:(((p1 - (p0.Name.size:Int)) - (p0.To.size:Int)) - (p0.Text.size:Int))≤1048576:=by omega
 have s5:p0.Text.size≤1048576:=by omega
 exact⟨⟨trivial,s1,s2,trivial,trivial,s5⟩,b3,e3⟩
theorem Qp0 (p0:List Call) (p1:Int): ∀ n s i,Qe1 p0 p1 n s i=szL Qe2 p0 n s i:=by
 intro n
 induction n with
 | zero=>intro s i;rfl
 | succ n ih=>intro s i;rw[Qe1,szL,ih]
theorem Qpz (p0:List Call) (p1:Int) (h0:0≤p1) (h1:p1≤1048576) (hg:Dat.good p0) (h: ¬ Qb7 p0 p1<0):Dat.small 1048576 p0∧0≤Qb7 p0 p1∧Qb7 p0 p1≤1048576:=by
 unfold Qb7 at h ⊢
 rw[Qge h0 h1 hg.1] at h ⊢
 have hc:=Qfs h
 rw[decide_eq_false hc,cond_false,Qp0] at h ⊢
 obtain⟨h2,h3,h4⟩:=Qi9 (f:=Qe2) (xs:=p0) Qlp hg.2 _ _ 0 rfl (by omega) (by omega) h
 refine⟨⟨by omega,fun x hx=>?_⟩,h3,h4⟩
 obtain⟨j,hj⟩:=List.getElem?_of_mem hx
 exact h2 j x (Nat.zero_le _) hj
theorem Qo0 (p0:Answer) (p1:Int) (h0:0≤p1) (h1:p1≤1048576) (hg:Dat.good p0) (h: ¬ Qe3 p0 p1<0):Dat.small 1048576 p0∧0≤Qe3 p0 p1∧Qe3 p0 p1≤1048576:=by
 unfold Qe3 at h ⊢
 obtain⟨g0,g1,g2⟩:=hg
 rw[Qge (a:=p1) h0 h1 (n:=p0.Text.size) (Qk1 g2)] at h ⊢
 have c1: ¬ (p1 - (p0.Text.size:Int))<0:=Qfs h
 rw[decide_eq_false c1,cond_false] at h ⊢
 have b1:0≤(p1 - (p0.Text.size:Int)):=by omega
 have e1:(p1 - (p0.Text.size:Int))≤1048576:=by omega
 have s2:p0.Text.size≤1048576:=by omega
 exact⟨⟨trivial,trivial,s2⟩,b1,e1⟩
theorem Qn1 (p0:List Answer) (p1:Int): ∀ n s i,Qdu p0 p1 n s i=szL Qe3 p0 n s i:=by
 intro n
 induction n with
 | zero=>intro s i;rfl
 | succ n ih=>intro s i;rw[Qdu,szL,ih]
theorem Qjw (p0:List Answer) (p1:Int) (h0:0≤p1) (h1:p1≤1048576) (hg:Dat.good p0) (h: ¬ Qbs p0 p1<0):Dat.small 1048576 p0∧0≤Qbs p0 p1∧Qbs p0 p1≤1048576:=by
 unfold Qbs at h ⊢
 rw[Qge h0 h1 hg.1] at h ⊢
 have hc:=Qfs h
 rw[decide_eq_false hc,cond_false,Qn1] at h ⊢
 obtain⟨h2,h3,h4⟩:=Qi9 (f:=Qe3) (xs:=p0) Qo0 hg.2 _ _ 0 rfl (by omega) (by omega) h
 refine⟨⟨by omega,fun x hx=>?_⟩,h3,h4⟩
 obtain⟨j,hj⟩:=List.getElem?_of_mem hx
 exact h2 j x (Nat.zero_le _) hj
theorem Qnz (p0:List ByteArray) (p1:Int): ∀ n s i,Qds p0 p1 n s i=szL Qhp p0 n s i:=by
 intro n
 induction n with
 | zero=>intro s i;rfl
 | succ n ih=>intro s i;rw[Qds,szL,ih];rfl
theorem Qhu (p0:List ByteArray) (p1:Int) (h0:0≤p1) (h1:p1≤1048576) (hg:Dat.good p0) (h: ¬ Qbv p0 p1<0):Dat.small 1048576 p0∧0≤Qbv p0 p1∧Qbv p0 p1≤1048576:=by
 unfold Qbv at h ⊢
 rw[Qge h0 h1 hg.1] at h ⊢
 have hc:=Qfs h
 rw[decide_eq_false hc,cond_false,Qnz] at h ⊢
 obtain⟨h2,h3,h4⟩:=Qi9 (f:=Qhp) (xs:=p0) Qox hg.2 _ _ 0 rfl (by omega) (by omega) h
 refine⟨⟨by omega,fun x hx=>?_⟩,h3,h4⟩
 obtain⟨j,hj⟩:=List.getElem?_of_mem hx
 exact h2 j x (Nat.zero_le _) hj
theorem Qps (p0:Touch) (p1:Int) (h0:0≤p1) (h1:p1≤1048576) (hg:Dat.good p0) (h: ¬ Qej p0 p1<0):Dat.small 1048576 p0∧0≤Qej p0 p1∧Qej p0 p1≤1048576:=by
 unfold Qej at h ⊢
 obtain⟨g0,g1⟩:=hg
 have c1: ¬ (Qbv p0.Reads p1)<0:=Qfs h
 rw[decide_eq_false c1,cond_false] at h ⊢
 obtain⟨s0,b1,e1⟩:=Qhu p0.Reads p1 h0 h1 g0 c1
 have c2: ¬ (Qbv p0.Writes (Qbv p0.Reads p1))<0:=Qfs h
 rw[decide_eq_false c2,cond_false] at h ⊢
 obtain⟨s1,b2,e2⟩:=Qhu p0.Writes (Qbv p0.Reads p1) b1 e1 g1 c2
 exact⟨⟨s0,s1⟩,b2,e2⟩
theorem Qra (p0:List Int) (p1:Int) (h0:0≤p1) (h1:p1≤1048576) (hg:Dat.good p0) (h: ¬ Qgy p0 p1<0):Dat.small 1048576 p0∧0≤Qgy p0 p1∧Qgy p0 p1≤1048576:=by
 unfold Qgy at h ⊢
 rw[Qge h0 h1 hg.1] at h ⊢
 have hc:=Qfs h
 rw[decide_eq_false hc] at h ⊢
 exact⟨⟨by omega,fun _ _=>trivial⟩,by show 0≤p1 - (p0.length:Int);omega,by show p1 - (p0.length:Int)≤1048576;omega⟩
theorem Qze (p0:Tx) (p1:Int) (h0:0≤p1) (h1:p1≤1048576) (hg:Dat.good p0) (h: ¬ Qhe p0 p1<0):Dat.small 1048576 p0∧0≤Qhe p0 p1∧Qhe p0 p1≤1048576:=by
 unfold Qhe at h ⊢
 obtain⟨g0,g1,g2,g3,g4,g5,g6,g7,g8⟩:=hg
 have c1: ¬ (Qb7 p0.Calls p1)<0:=Qfs h
 rw[decide_eq_false c1,cond_false] at h ⊢
 obtain⟨s4,b1,e1⟩:=Qpz p0.Calls p1 h0 h1 g4 c1
 have c2: ¬ (Qbs p0.Answers (Qb7 p0.Calls p1))<0:=Qfs h
 rw[decide_eq_false c2,cond_false] at h ⊢
 obtain⟨s5,b2,e2⟩:=Qjw p0.Answers (Qb7 p0.Calls p1) b1 e1 g5 c2
 have c3: ¬ (Qej p0.Touch (Qbs p0.Answers (Qb7 p0.Calls p1)))<0:=Qfs h
 rw[decide_eq_false c3,cond_false] at h ⊢
 obtain⟨s6,b3,e3⟩:=Qps p0.Touch (Qbs p0.Answers (Qb7 p0.Calls p1)) b2 e2 g6 c3
 have c4: ¬ (Qgy p0.Marks (Qej p0.Touch (Qbs p0.Answers (Qb7 p0.Calls p1))))<0:=Qfs h
 rw[decide_eq_false c4,cond_false] at h ⊢
 obtain⟨s7,b4,e4⟩:=Qra p0.Marks (Qej p0.Touch (Qbs p0.Answers (Qb7 p0.Calls p1))) b3 e3 g7 c4
 exact⟨⟨trivial,trivial,trivial,trivial,s4,s5,s6,s7,trivial⟩,b4,e4⟩
theorem Qxx (p0:List Tx) (p1:Int): ∀ n s i,Qfy p0 p1 n s i=szL Qhe p0 n s i:=by
 intro n
 induction n with
 | zero=>intro s i;rfl
 | succ n ih=>intro s i;rw[Qfy,szL,ih]
theorem Qxw (p0:List Tx) (p1:Int) (h0:0≤p1) (h1:p1≤1048576) (hg:Dat.good p0) (h: ¬ Qc4 p0 p1<0):Dat.small 1048576 p0∧0≤Qc4 p0 p1∧Qc4 p0 p1≤1048576:=by
 unfold Qc4 at h ⊢
 rw[Qge h0 h1 hg.1] at h ⊢
 have hc:=Qfs h
 rw[decide_eq_false hc,cond_false,Qxx] at h ⊢
 obtain⟨h2,h3,h4⟩:=Qi9 (f:=Qhe) (xs:=p0) Qze hg.2 _ _ 0 rfl (by omega) (by omega) h
 refine⟨⟨by omega,fun x hx=>?_⟩,h3,h4⟩
 obtain⟨j,hj⟩:=List.getElem?_of_mem hx
 exact h2 j x (Nat.zero_le _) hj
theorem Qq9 (p0:Slot) (p1:Int) (h0:0≤p1) (h1:p1≤1048576) (hg:Dat.good p0) (h: ¬ Qf9 p0 p1<0):Dat.small 1048576 p0∧0≤Qf9 p0 p1∧Qf9 p0 p1≤1048576:=by
 unfold Qf9 at h ⊢
 obtain⟨g0,g1,g2⟩:=hg
 have c1: ¬ (Qbh p0.Cells p1)<0:=Qfs h
 rw[decide_eq_false c1,cond_false] at h ⊢
 obtain⟨s1,b1,e1⟩:=Qky p0.Cells p1 h0 h1 g1 c1
 exact⟨⟨trivial,s1,trivial⟩,b1,e1⟩
theorem Qpw (p0:List Slot) (p1:Int): ∀ n s i,Qez p0 p1 n s i=szL Qf9 p0 n s i:=by
 intro n
 induction n with
 | zero=>intro s i;rfl
 | succ n ih=>intro s i;rw[Qez,szL,ih]
theorem Qpv (p0:List Slot) (p1:Int) (h0:0≤p1) (h1:p1≤1048576) (hg:Dat.good p0) (h: ¬ Qel p0 p1<0):Dat.small 1048576 p0∧0≤Qel p0 p1∧Qel p0 p1≤1048576:=by
 unfold Qel at h ⊢
 rw[Qge h0 h1 hg.1] at h ⊢
 have hc:=Qfs h
 rw[decide_eq_false hc,cond_false,Qpw] at h ⊢
 obtain⟨h2,h3,h4⟩:=Qi9 (f:=Qf9) (xs:=p0) Qq9 hg.2 _ _ 0 rfl (by omega) (by omega) h
 refine⟨⟨by omega,fun x hx=>?_⟩,h3,h4⟩
 obtain⟨j,hj⟩:=List.getElem?_of_mem hx
 exact h2 j x (Nat.zero_le _) hj
theorem Qn0 (p0:Journal) (p1:Int) (h0:0≤p1) (h1:p1≤1048576) (hg:Dat.good p0) (h: ¬ Qfh p0 p1<0):Dat.small 1048576 p0∧0≤Qfh p0 p1∧Qfh p0 p1≤1048576:=by
 unfold Qfh at h ⊢
 obtain⟨g0,g1⟩:=hg
 rw[Qge (a:=p1) h0 h1 (n:=p0.Text.size) (Qk1 g0)] at h ⊢
 have c1: ¬ (p1 - (p0.Text.size:Int))<0:=Qfs h
 rw[decide_eq_false c1,cond_false] at h ⊢
 have b1:0≤(p1 - (p0.Text.size:Int)):=by omega
 have e1:(p1 - (p0.Text.size:Int))≤1048576:=by omega
 have s0:p0.Text.size≤1048576:=by omega
 exact⟨⟨s0,trivial⟩,b1,e1⟩
theorem Qrb (p0:Disk) (p1:Int) (h0:0≤p1) (h1:p1≤1048576) (hg:Dat.good p0) (h: ¬ Qdf p0 p1<0):Dat.small 1048576 p0∧0≤Qdf p0 p1∧Qdf p0 p1≤1048576:=by
 unfold Qdf at h ⊢
 obtain⟨g0,g1⟩:=hg
 have c1: ¬ (Qel p0.Slots p1)<0:=Qfs h
 rw[decide_eq_false c1,cond_false] at h ⊢
 obtain⟨s0,b1,e1⟩:=Qpv p0.Slots p1 h0 h1 g0 c1
 have c2: ¬ (Qfh p0.Journal (Qel p0.Slots p1))<0:=Qfs h
 rw[decide_eq_false c2,cond_false] at h ⊢
 obtain⟨s1,b2,e2⟩:=Qn0 p0.Journal (Qel p0.Slots p1) b1 e1 g1 c2
 exact⟨⟨s0,s1⟩,b2,e2⟩
theorem Qq8 (p0:Step) (p1:Int) (h0:0≤p1) (h1:p1≤1048576) (hg:Dat.good p0) (h: ¬ Qf8 p0 p1<0):Dat.small 1048576 p0∧0≤Qf8 p0 p1∧Qf8 p0 p1≤1048576:=by
 unfold Qf8 at h ⊢
 obtain⟨g0,g1⟩:=hg
 have c1: ¬ (Qe2 p0.Call p1)<0:=Qfs h
 rw[decide_eq_false c1,cond_false] at h ⊢
 obtain⟨s1,b1,e1⟩:=Qlp p0.Call p1 h0 h1 g1 c1
 exact⟨⟨trivial,s1⟩,b1,e1⟩
theorem Qpu (p0:List Step) (p1:Int): ∀ n s i,Qey p0 p1 n s i=szL Qf8 p0 n s i:=by
 intro n
 induction n with
 | zero=>intro s i;rfl
 | succ n ih=>intro s i;rw[Qey,szL,ih]
theorem Qpt (p0:List Step) (p1:Int) (h0:0≤p1) (h1:p1≤1048576) (hg:Dat.good p0) (h: ¬ Qek p0 p1<0):Dat.small 1048576 p0∧0≤Qek p0 p1∧Qek p0 p1≤1048576:=by
 unfold Qek at h ⊢
 rw[Qge h0 h1 hg.1] at h ⊢
 have hc:=Qfs h
 rw[decide_eq_false hc,cond_false,Qpu] at h ⊢
 obtain⟨h2,h3,h4⟩:=Qi9 (f:=Qf8) (xs:=p0) Qq8 hg.2 _ _ 0 rfl (by omega) (by omega) h
 refine⟨⟨by omega,fun x hx=>?_⟩,h3,h4⟩
 obtain⟨j,hj⟩:=List.getElem?_of_mem hx
 exact h2 j x (Nat.zero_le _) hj
theorem Qpx (p0:Entry) (p1:Int) (h0:0≤p1) (h1:p1≤1048576) (hg:Dat.good p0) (h: ¬ Qfl p0 p1<0):Dat.small 1048576 p0∧0≤Qfl p0 p1∧Qfl p0 p1≤1048576:=by
 unfold Qfl at h ⊢
 obtain⟨g0,g1,g2,g3,g4,g5,g6,g7⟩:=hg
 have c1: ¬ (Qek p0.Steps p1)<0:=Qfs h
 rw[decide_eq_false c1,cond_false] at h ⊢
 obtain⟨s3,b1,e1⟩:=Qpt p0.Steps p1 h0 h1 g3 c1
 have c2: ¬ (Qbs p0.Answers (Qek p0.Steps p1))<0:=Qfs h
 rw[decide_eq_false c2,cond_false] at h ⊢
 obtain⟨s4,b2,e2⟩:=Qjw p0.Answers (Qek p0.Steps p1) b1 e1 g4 c2
 exact⟨⟨trivial,trivial,trivial,s3,s4,trivial,trivial,trivial⟩,b2,e2⟩
theorem Qoz (p0:List Entry) (p1:Int): ∀ n s i,Qee p0 p1 n s i=szL Qfl p0 n s i:=by
 intro n
 induction n with
 | zero=>intro s i;rfl
 | succ n ih=>intro s i;rw[Qee,szL,ih]
theorem Qoy (p0:List Entry) (p1:Int) (h0:0≤p1) (h1:p1≤1048576) (hg:Dat.good p0) (h: ¬ Qdt p0 p1<0):Dat.small 1048576 p0∧0≤Qdt p0 p1∧Qdt p0 p1≤1048576:=by
 unfold Qdt at h ⊢
 rw[Qge h0 h1 hg.1] at h ⊢
 have hc:=Qfs h
 rw[decide_eq_false hc,cond_false,Qoz] at h ⊢
 obtain⟨h2,h3,h4⟩:=Qi9 (f:=Qfl) (xs:=p0) Qpx hg.2 _ _ 0 rfl (by omega) (by omega) h
 refine⟨⟨by omega,fun x hx=>?_⟩,h3,h4⟩
 obtain⟨j,hj⟩:=List.getElem?_of_mem hx
 exact h2 j x (Nat.zero_le _) hj
theorem Qke (p0:Kernel) (p1:Int) (h0:0≤p1) (h1:p1≤1048576) (hg:Dat.good p0) (h: ¬ Qgi p0 p1<0):Dat.small 1048576 p0∧0≤Qgi p0 p1∧Qgi p0 p1≤1048576:=by
 unfold Qgi at h ⊢
 obtain⟨g0,g1,g2,g3,g4,g5,g6,g7,g8⟩:=hg
 have c1: ¬ (Qbh p0.Store p1)<0:=Qfs h
 rw[decide_eq_false c1,cond_false] at h ⊢
 obtain⟨s0,b1,e1⟩:=Qky p0.Store p1 h0 h1 g0 c1
 have c2: ¬ (Qc4 p0.Txs (Qbh p0.Store p1))<0:=Qfs h
 rw[decide_eq_false c2,cond_false] at h ⊢
 obtain⟨s1,b2,e2⟩:=Qxw p0.Txs (Qbh p0.Store p1) b1 e1 g1 c2
 have c3: ¬ (Qdf p0.Disk (Qc4 p0.Txs (Qbh p0.Store p1)))<0:=Qfs h
 rw[decide_eq_false c3,cond_false] at h ⊢
 obtain⟨s2,b3,e3⟩:=Qrb p0.Disk (Qc4 p0.Txs (Qbh p0.Store p1)) b2 e2 g2 c3
 have c4: ¬ (Qdt p0.History (Qdf p0.Disk (Qc4 p0.Txs (Qbh p0.Store p1))))<0:=Qfs h
 rw[decide_eq_false c4,cond_false] at h ⊢
 obtain⟨s6,b4,e4⟩:=Qoy p0.History (Qdf p0.Disk (Qc4 p0.Txs (Qbh p0.Store p1))) b3 e3 g6 c4
 have c5: ¬ (Qbv p0.Seen (Qdt p0.History (Qdf p0.Disk (Qc4 p0.Txs (Qbh p0.Store p1)))))<0:=Qfs h
 rw[decide_eq_false c5,cond_false] at h ⊢
 obtain⟨s7,b5,e5⟩:=Qhu p0.Seen (Qdt p0.History (Qdf p0.Disk (Qc4 p0.Txs (Qbh p0.Store p1)))) b4 e4 g7 c5
 exact⟨⟨s0,s1,s2,trivial,trivial,trivial,s6,s7,trivial⟩,b5,e5⟩
end
section
open Go.RowKit
set_option maxHeartbeats 2000000
theorem Yif:FnOk Tryz.prog 18:=⟨_,Tryz.func18,rfl,by kernel_rfl⟩
theorem Yu0:FnOk Tryz.prog 24:=⟨_,Tryz.func24,rfl,by kernel_rfl⟩
theorem Yqe:FnOk Tryz.prog 38:=⟨_,Tryz.func38,rfl,by kernel_rfl⟩
theorem Yuu:FnOk Tryz.prog 39:=⟨_,Tryz.func39,rfl,by kernel_rfl⟩
theorem Yut:FnOk Tryz.prog 40:=⟨_,Tryz.func40,rfl,by kernel_rfl⟩
theorem Yus:FnOk Tryz.prog 41:=⟨_,Tryz.func41,rfl,by kernel_rfl⟩
theorem Yom:FnOk Tryz.prog 42:=⟨_,Tryz.func42,rfl,by kernel_rfl⟩
theorem Yqd:FnOk Tryz.prog 45:=⟨_,Tryz.func45,rfl,by kernel_rfl⟩
theorem Yuq:FnOk Tryz.prog 46:=⟨_,Tryz.func46,rfl,by kernel_rfl⟩
theorem Yup:FnOk Tryz.prog 47:=⟨_,Tryz.func47,rfl,by kernel_rfl⟩
theorem Yuh:FnOk Tryz.prog 63:=⟨_,Tryz.func63,rfl,by kernel_rfl⟩
theorem Yt9:FnOk Tryz.prog 83:=⟨_,Tryz.func83,rfl,by kernel_rfl⟩
theorem Yt8:FnOk Tryz.prog 84:=⟨_,Tryz.func84,rfl,by kernel_rfl⟩
theorem Yt7:FnOk Tryz.prog 85:=⟨_,Tryz.func85,rfl,by kernel_rfl⟩
theorem Yt6:FnOk Tryz.prog 86:=⟨_,Tryz.func86,rfl,by kernel_rfl⟩
theorem Yt5:FnOk Tryz.prog 87:=⟨_,Tryz.func87,rfl,by kernel_rfl⟩
theorem Yt2:FnOk Tryz.prog 94:=⟨_,Tryz.func94,rfl,by kernel_rfl⟩
theorem Yt1:FnOk Tryz.prog 95:=⟨_,Tryz.func95,rfl,by kernel_rfl⟩
theorem Yt0:FnOk Tryz.prog 96:=⟨_,Tryz.func96,rfl,by kernel_rfl⟩
theorem Ytz:FnOk Tryz.prog 97:=⟨_,Tryz.func97,rfl,by kernel_rfl⟩
theorem Yry:FnOk Tryz.prog 122:=⟨_,Tryz.func122,rfl,by kernel_rfl⟩
theorem Ynm:FnOk Tryz.prog 123:=⟨_,Tryz.func123,rfl,by kernel_rfl⟩
theorem Yro:FnOk Tryz.prog 152:=⟨_,Tryz.func152,rfl,by kernel_rfl⟩
theorem Ynj:FnOk Tryz.prog 153:=⟨_,Tryz.func153,rfl,by kernel_rfl⟩
theorem Yrn:FnOk Tryz.prog 154:=⟨_,Tryz.func154,rfl,by kernel_rfl⟩
theorem Yrm:FnOk Tryz.prog 155:=⟨_,Tryz.func155,rfl,by kernel_rfl⟩
theorem Yrl:FnOk Tryz.prog 156:=⟨_,Tryz.func156,rfl,by kernel_rfl⟩
theorem Yrk:FnOk Tryz.prog 157:=⟨_,Tryz.func157,rfl,by kernel_rfl⟩
theorem Yrd:FnOk Tryz.prog 169:=⟨_,Tryz.func169,rfl,by kernel_rfl⟩
theorem Yrb:FnOk Tryz.prog 170:=⟨_,Tryz.func170,rfl,by kernel_rfl⟩
theorem Yra:FnOk Tryz.prog 171:=⟨_,Tryz.func171,rfl,by kernel_rfl⟩
theorem Yq9:FnOk Tryz.prog 172:=⟨_,Tryz.func172,rfl,by kernel_rfl⟩
theorem Yq4:FnOk Tryz.prog 183:=⟨_,Tryz.func183,rfl,by kernel_rfl⟩
theorem Yq3:FnOk Tryz.prog 184:=⟨_,Tryz.func184,rfl,by kernel_rfl⟩
theorem Ynb:FnOk Tryz.prog 212:=⟨_,Tryz.func212,rfl,by kernel_rfl⟩
theorem Yqx:FnOk Tryz.prog 213:=⟨_,Tryz.func213,rfl,by kernel_rfl⟩
theorem Yqw:FnOk Tryz.prog 214:=⟨_,Tryz.func214,rfl,by kernel_rfl⟩
theorem Ym9:FnOk Tryz.prog 223:=⟨_,Tryz.func223,rfl,by kernel_rfl⟩
def Qhd (p0:Cell):Cell:=p0
theorem Q8n (p0:Cell):CTs 83 [.o (.st Cell _ inferInstance p0)] [Re.st Cell _ inferInstance (Qhd p0)]:=by
 refine en Tryz.func83 Tryz.ntmps83 fun w hG hgd=>?_
 obtain⟨hg_p0,_⟩:=hgd
 have hM:=Qhd.eq_1 p0
 refine ad 28 ?_
 exact rz (rs:=[.cell 2 114]) (congrArg (fun x=>[Re.st Cell _ inferInstance x]) hM)
def Qew (p0:List Cell):Nat→(List Cell)→Nat→(List Cell)
 | 0,w1,i=>w1
 | n+1,w1,i=>Qew p0 n (w1.set i (Qhd (nth p0 i))) (i+1)
def Qgu (p0:List Cell):(List Cell):=Qew p0 (p0.length - 0) (List.replicate p0.length (Cell.mk ⟨#[]⟩ ⟨#[]⟩)) 0
theorem Qof (p0:List Cell) (hs:Dat.small 1048576 p0):CTs 38 [.o (.sl Cell instDatCell p0)] [Re.sl Cell instDatCell (Qgu p0)]:=by
 refine en Tryz.func38 Tryz.ntmps38 fun w hG hgd=>?_
 obtain⟨hg_p0,_⟩:=hgd
 have hl_p0:p0.length≤9223372036854775807:=hg_p0.1
 have hM:=Qgu.eq_1 p0
 have hs0:p0.length≤1048576:=hs.1
 refine ad 8 ?_
 refine op (ma p0.length (Cell.mk ⟨#[]⟩ ⟨#[]⟩)) ?_
 refine ad 8 ?_
 refine Run.loopM (ι:=(List Cell)×Nat) (fun s=>Qew p0 (p0.length - s.2) s.1 s.2) (fun s=>⟨23,2,[(0,.sl 0 p0.length),(3,.sl 1 s.1.length),(4,.v (.int .i64 (s.2:Int)))],[(0,.ros Cell instDatCell p0),(1,.own Cell instDatCell s.1)]⟩) (fun s=>s.2≤p0.length∧s.1.length=p0.length) (fun s=>p0.length - s.2) ((List.replicate p0.length (Cell.mk ⟨#[]⟩ ⟨#[]⟩)),0) [0,1] [1,0] hM (by first | exact⟨by omega,by simp⟩ | omega | simp | (dsimp only;omega)) su (by decide) ?_
 rintro ⟨w1,i⟩ hv hE
 try dsimp only at hE
 obtain⟨hi,hv0⟩:=hv
 try dsimp only at hi hv0
 refine ad 8 ?_
 refine cd (fun h1=>?_) (fun h1=>?_)
 ·
  have h1l:i<p0.length:=by have:=of_decide_eq_true h1;omega
  have hM:=hE.trans ((congrArg (fun n=>Qew p0 n w1 i) (show p0.length - i=(p0.length - (i+1))+1 by omega)).trans (Qew.eq_2 _ _ _ _))
  refine ad 8 ?_
  have hg3:=Qa6 (k:=i) hg_p0 om
  refine op (ix (xs:=p0) i om) ?_
  refine ad 1 ?_
  have hg4:Dat.good (nth p0 i:Cell):=hg3
  refine og (clg (Q8n (nth p0 i)) Yt9) fun hgq=>?_
  obtain⟨hg5,_⟩:=hgq
  refine op (oi (xs:=w1) i om) ?_
  refine op (se (xs:=w1) i (Qhd (nth p0 i)) hg5 om) ?_
  refine ad 5 ?_
  rw[Qd7 (i:=i) (by first | omega | exact om)]
  refine ad 2 ?_
  exact Run.again ((w1.set i (Qhd (nth p0 i))),(i+1)) [0,3] [2,0] ⟨by first | omega | exact trivial | (dsimp only;omega) | (refine⟨by omega,?_⟩;simp_all;try omega),hM⟩ rfl (by show _ - _<_ - _;(try dsimp only);omega) su (by decide)
 ·
  have h1l: ¬ (i<p0.length):=by have:=of_decide_eq_false h1;omega
  have hM:=hE.trans ((congrArg (fun n=>Qew p0 n w1 i) (show p0.length - i=0 by omega)).trans (Qew.eq_1 _ _ _))
  refine ad 6 ?_
  exact rz (rs:=[.tmp 2]) (congrArg (fun x=>[Re.sl Cell instDatCell x]) hM)
def Qgm (p0:Call):Call:=p0
theorem Qqo (p0:Call):CTs 212 [.o (.st Call _ inferInstance p0)] [Re.st Call _ inferInstance (Qgm p0)]:=by
 refine en Tryz.func212 Tryz.ntmps212 fun w hG hgd=>?_
 obtain⟨hg_p0,_⟩:=hgd
 have hM:=Qgm.eq_1 p0
 refine ad 56 ?_
 exact rz (rs:=[.cell 2 149]) (congrArg (fun x=>[Re.st Call _ inferInstance x]) hM)
def Qex (p0:List Call):Nat→(List Call)→Nat→(List Call)
 | 0,w1,i=>w1
 | n+1,w1,i=>Qex p0 n (w1.set i (Qgm (nth p0 i))) (i+1)
def Qh8 (p0:List Call):(List Call):=Qex p0 (p0.length - 0) (List.replicate p0.length (Call.mk 0 ⟨#[]⟩ ⟨#[]⟩ 0 0 ⟨#[]⟩)) 0
theorem Q1c (p0:List Call) (hs:Dat.small 1048576 p0):CTs 152 [.o (.sl Call instDatCall p0)] [Re.sl Call instDatCall (Qh8 p0)]:=by
 refine en Tryz.func152 Tryz.ntmps152 fun w hG hgd=>?_
 obtain⟨hg_p0,_⟩:=hgd
 have hl_p0:p0.length≤9223372036854775807:=hg_p0.1
 have hM:=Qh8.eq_1 p0
 have hs0:p0.length≤1048576:=hs.1
 refine ad 8 ?_
 refine op (ma p0.length (Call.mk 0 ⟨#[]⟩ ⟨#[]⟩ 0 0 ⟨#[]⟩) (ho:=gdz)) ?_
 refine ad 8 ?_
 refine Run.loopM (ι:=(List Call)×Nat) (fun s=>Qex p0 (p0.length - s.2) s.1 s.2) (fun s=>⟨23,2,[(0,.sl 0 p0.length),(3,.sl 1 s.1.length),(4,.v (.int .i64 (s.2:Int)))],[(0,.ros Call instDatCall p0),(1,.own Call instDatCall s.1)]⟩) (fun s=>s.2≤p0.length∧s.1.length=p0.length) (fun s=>p0.length - s.2) ((List.replicate p0.length (Call.mk 0 ⟨#[]⟩ ⟨#[]⟩ 0 0 ⟨#[]⟩)),0) [0,1] [1,0] hM (by first | exact⟨by omega,by simp⟩ | omega | simp | (dsimp only;omega)) su (by decide) ?_
 rintro ⟨w1,i⟩ hv hE
 try dsimp only at hE
 obtain⟨hi,hv0⟩:=hv
 try dsimp only at hi hv0
 refine ad 8 ?_
 refine cd (fun h1=>?_) (fun h1=>?_)
 ·
  have h1l:i<p0.length:=by have:=of_decide_eq_true h1;omega
  have hM:=hE.trans ((congrArg (fun n=>Qex p0 n w1 i) (show p0.length - i=(p0.length - (i+1))+1 by omega)).trans (Qex.eq_2 _ _ _ _))
  refine ad 8 ?_
  have hg3:=Qa6 (k:=i) hg_p0 om
  refine op (ix (xs:=p0) i om) ?_
  refine ad 1 ?_
  have hg4:Dat.good (nth p0 i:Call):=hg3
  refine og (clg (Qqo (nth p0 i)) Ynb) fun hgq=>?_
  obtain⟨hg5,_⟩:=hgq
  refine op (oi (xs:=w1) i om) ?_
  refine op (se (xs:=w1) i (Qgm (nth p0 i)) hg5 om) ?_
  refine ad 5 ?_
  rw[Qd7 (i:=i) (by first | omega | exact om)]
  refine ad 2 ?_
  exact Run.again ((w1.set i (Qgm (nth p0 i))),(i+1)) [0,3] [2,0] ⟨by first | omega | exact trivial | (dsimp only;omega) | (refine⟨by omega,?_⟩;simp_all;try omega),hM⟩ rfl (by show _ - _<_ - _;(try dsimp only);omega) su (by decide)
 ·
  have h1l: ¬ (i<p0.length):=by have:=of_decide_eq_false h1;omega
  have hM:=hE.trans ((congrArg (fun n=>Qex p0 n w1 i) (show p0.length - i=0 by omega)).trans (Qex.eq_1 _ _ _))
  refine ad 6 ?_
  exact rz (rs:=[.tmp 2]) (congrArg (fun x=>[Re.sl Call instDatCall x]) hM)
def Qgh (p0:Answer):Answer:=p0
theorem Qz0 (p0:Answer):CTs 213 [.o (.st Answer _ inferInstance p0)] [Re.st Answer _ inferInstance (Qgh p0)]:=by
 refine en Tryz.func213 Tryz.ntmps213 fun w hG hgd=>?_
 obtain⟨hg_p0,_⟩:=hgd
 have hM:=Qgh.eq_1 p0
 refine ad 35 ?_
 exact rz (rs:=[.cell 2 154]) (congrArg (fun x=>[Re.st Answer _ inferInstance x]) hM)
def Qdr (p0:List Answer):Nat→(List Answer)→Nat→(List Answer)
 | 0,w1,i=>w1
 | n+1,w1,i=>Qdr p0 n (w1.set i (Qgh (nth p0 i))) (i+1)
def Qf3 (p0:List Answer):(List Answer):=Qdr p0 (p0.length - 0) (List.replicate p0.length (Answer.mk 0 0 ⟨#[]⟩)) 0
theorem Qmn (p0:List Answer) (hs:Dat.small 1048576 p0):CTs 153 [.o (.sl Answer instDatAnswer p0)] [Re.sl Answer instDatAnswer (Qf3 p0)]:=by
 refine en Tryz.func153 Tryz.ntmps153 fun w hG hgd=>?_
 obtain⟨hg_p0,_⟩:=hgd
 have hl_p0:p0.length≤9223372036854775807:=hg_p0.1
 have hM:=Qf3.eq_1 p0
 have hs0:p0.length≤1048576:=hs.1
 refine ad 8 ?_
 refine op (ma p0.length (Answer.mk 0 0 ⟨#[]⟩) (ho:=gdz)) ?_
 refine ad 8 ?_
 refine Run.loopM (ι:=(List Answer)×Nat) (fun s=>Qdr p0 (p0.length - s.2) s.1 s.2) (fun s=>⟨23,2,[(0,.sl 0 p0.length),(3,.sl 1 s.1.length),(4,.v (.int .i64 (s.2:Int)))],[(0,.ros Answer instDatAnswer p0),(1,.own Answer instDatAnswer s.1)]⟩) (fun s=>s.2≤p0.length∧s.1.length=p0.length) (fun s=>p0.length - s.2) ((List.replicate p0.length (Answer.mk 0 0 ⟨#[]⟩)),0) [0,1] [1,0] hM (by first | exact⟨by omega,by simp⟩ | omega | simp | (dsimp only;omega)) su (by decide) ?_
 rintro ⟨w1,i⟩ hv hE
 try dsimp only at hE
 obtain⟨hi,hv0⟩:=hv
 try dsimp only at hi hv0
 refine ad 8 ?_
 refine cd (fun h1=>?_) (fun h1=>?_)
 ·
  have h1l:i<p0.length:=by have:=of_decide_eq_true h1;omega
  have hM:=hE.trans ((congrArg (fun n=>Qdr p0 n w1 i) (show p0.length - i=(p0.length - (i+1))+1 by omega)).trans (Qdr.eq_2 _ _ _ _))
  refine ad 8 ?_
  have hg3:=Qa6 (k:=i) hg_p0 om
  refine op (ix (xs:=p0) i om) ?_
  refine ad 1 ?_
  have hg4:Dat.good (nth p0 i:Answer):=hg3
  refine og (clg (Qz0 (nth p0 i)) Yqx) fun hgq=>?_
  obtain⟨hg5,_⟩:=hgq
  refine op (oi (xs:=w1) i om) ?_
  refine op (se (xs:=w1) i (Qgh (nth p0 i)) hg5 om) ?_
  refine ad 5 ?_
  rw[Qd7 (i:=i) (by first | omega | exact om)]
  refine ad 2 ?_
  exact Run.again ((w1.set i (Qgh (nth p0 i))),(i+1)) [0,3] [2,0] ⟨by first | omega | exact trivial | (dsimp only;omega) | (refine⟨by omega,?_⟩;simp_all;try omega),hM⟩ rfl (by show _ - _<_ - _;(try dsimp only);omega) su (by decide)
 ·
  have h1l: ¬ (i<p0.length):=by have:=of_decide_eq_false h1;omega
  have hM:=hE.trans ((congrArg (fun n=>Qdr p0 n w1 i) (show p0.length - i=0 by omega)).trans (Qdr.eq_1 _ _ _))
  refine ad 6 ?_
  exact rz (rs:=[.tmp 2]) (congrArg (fun x=>[Re.sl Answer instDatAnswer x]) hM)
def Qdq (p0:List ByteArray):Nat→(List ByteArray)→Nat→(List ByteArray)
 | 0,w1,i=>w1
 | n+1,w1,i=>Qdq p0 n (w1.set i (nth p0 i)) (i+1)
def Qeq (p0:List ByteArray):(List ByteArray):=Qdq p0 (p0.length - 0) (List.replicate p0.length (⟨#[]⟩:ByteArray)) 0
theorem Qjs (p0:List ByteArray) (hs:Dat.small 1048576 p0):CTs 42 [.o (.sl ByteArray instDatByteArray p0)] [Re.sl ByteArray instDatByteArray (Qeq p0)]:=by
 refine en Tryz.func42 Tryz.ntmps42 fun w hG hgd=>?_
 obtain⟨hg_p0,_⟩:=hgd
 have hl_p0:p0.length≤9223372036854775807:=hg_p0.1
 have hM:=Qeq.eq_1 p0
 have hs0:p0.length≤1048576:=hs.1
 refine ad 8 ?_
 refine op (ma p0.length (⟨#[]⟩:ByteArray)) ?_
 refine ad 8 ?_
 refine Run.loopM (ι:=(List ByteArray)×Nat) (fun s=>Qdq p0 (p0.length - s.2) s.1 s.2) (fun s=>⟨22,2,[(0,.sl 0 p0.length),(3,.sl 1 s.1.length),(4,.v (.int .i64 (s.2:Int)))],[(0,.ros ByteArray instDatByteArray p0),(1,.own ByteArray instDatByteArray s.1)]⟩) (fun s=>s.2≤p0.length∧s.1.length=p0.length) (fun s=>p0.length - s.2) ((List.replicate p0.length (⟨#[]⟩:ByteArray)),0) [0,1] [1,0] hM (by first | exact⟨by omega,by simp⟩ | omega | simp | (dsimp only;omega)) su (by decide) ?_
 rintro ⟨w1,i⟩ hv hE
 try dsimp only at hE
 obtain⟨hi,hv0⟩:=hv
 try dsimp only at hi hv0
 refine ad 8 ?_
 refine cd (fun h1=>?_) (fun h1=>?_)
 ·
  have h1l:i<p0.length:=by have:=of_decide_eq_true h1;omega
  have hM:=hE.trans ((congrArg (fun n=>Qdq p0 n w1 i) (show p0.length - i=(p0.length - (i+1))+1 by omega)).trans (Qdq.eq_2 _ _ _ _))
  refine ad 8 ?_
  have hg3:=Qa6 (k:=i) hg_p0 om
  refine op (ix (xs:=p0) i om) ?_
  refine ad 1 ?_
  refine op (oi (xs:=w1) i om) ?_
  refine op (se (xs:=w1) i (nth p0 i) hg3 om) ?_
  refine ad 5 ?_
  rw[Qd7 (i:=i) (by first | omega | exact om)]
  refine ad 2 ?_
  exact Run.again ((w1.set i (nth p0 i)),(i+1)) [0,3] [2,0] ⟨by first | omega | exact trivial | (dsimp only;omega) | (refine⟨by omega,?_⟩;simp_all;try omega),hM⟩ rfl (by show _ - _<_ - _;(try dsimp only);omega) su (by decide)
 ·
  have h1l: ¬ (i<p0.length):=by have:=of_decide_eq_false h1;omega
  have hM:=hE.trans ((congrArg (fun n=>Qdq p0 n w1 i) (show p0.length - i=0 by omega)).trans (Qdq.eq_1 _ _ _))
  refine ad 6 ?_
  exact rz (rs:=[.tmp 2]) (congrArg (fun x=>[Re.sl ByteArray instDatByteArray x]) hM)
def Qh5 (p0:Touch):Touch:=(Touch.mk (Qeq p0.Reads) (Qeq p0.Writes))
theorem Q08 (p0:Touch) (hs:Dat.small 1048576 p0):CTs 154 [.o (.st Touch _ inferInstance p0)] [Re.st Touch _ inferInstance (Qh5 p0)]:=by
 refine en Tryz.func154 Tryz.ntmps154 fun w hG hgd=>?_
 obtain⟨hg_p0,_⟩:=hgd
 have hM:=Qh5.eq_1 p0
 have hs0:Dat.small 1048576 p0.Reads:=hs.1
 have hs1:Dat.small 1048576 p0.Writes:=hs.2
 refine ad 13 ?_
 refine og (clg (Qjs p0.Reads (by first | assumption | exact Qcs hs (by omega))) Yom) fun hgq=>?_
 obtain⟨hg1,_⟩:=hgq
 refine ad 7 ?_
 refine og (clg (Qjs p0.Writes (by first | assumption | exact Qcs hs (by omega))) Yom) fun hgq=>?_
 obtain⟨hg2,_⟩:=hgq
 refine ad 8 ?_
 have hg3:Dat.good (Touch.mk (Qeq p0.Reads) (Qeq p0.Writes):Touch):=⟨hg1,hg2⟩
 exact rz (rs:=[.cell 2 117]) (congrArg (fun x=>[Re.st Touch _ inferInstance x]) hM)
def Qfg (p0:List Int):Nat→(List Int)→Nat→(List Int)
 | 0,w1,i=>w1
 | n+1,w1,i=>Qfg p0 n (w1.set i (nth p0 i)) (i+1)
def Qi0 (p0:List Int):(List Int):=Qfg p0 (p0.length - 0) (List.replicate p0.length (0:Int)) 0
theorem Q8l (p0:List Int) (hs:Dat.small 1048576 p0):CTs 155 [.o (.sl Int instDatInt p0)] [Re.sl Int instDatInt (Qi0 p0)]:=by
 refine en Tryz.func155 Tryz.ntmps155 fun w hG hgd=>?_
 obtain⟨hg_p0,_⟩:=hgd
 have hl_p0:p0.length≤9223372036854775807:=hg_p0.1
 have hM:=Qi0.eq_1 p0
 have hs0:p0.length≤1048576:=hs.1
 refine ad 8 ?_
 refine op (ma p0.length (0:Int)) ?_
 refine ad 8 ?_
 refine Run.loopM (ι:=(List Int)×Nat) (fun s=>Qfg p0 (p0.length - s.2) s.1 s.2) (fun s=>⟨22,2,[(0,.sl 0 p0.length),(3,.sl 1 s.1.length),(4,.v (.int .i64 (s.2:Int)))],[(0,.ros Int instDatInt p0),(1,.own Int instDatInt s.1)]⟩) (fun s=>s.2≤p0.length∧s.1.length=p0.length) (fun s=>p0.length - s.2) ((List.replicate p0.length (0:Int)),0) [0,1] [1,0] hM (by first | exact⟨by omega,by simp⟩ | omega | simp | (dsimp only;omega)) su (by decide) ?_
 rintro ⟨w1,i⟩ hv hE
 try dsimp only at hE
 obtain⟨hi,hv0⟩:=hv
 try dsimp only at hi hv0
 refine ad 8 ?_
 refine cd (fun h1=>?_) (fun h1=>?_)
 ·
  have h1l:i<p0.length:=by have:=of_decide_eq_true h1;omega
  have hM:=hE.trans ((congrArg (fun n=>Qfg p0 n w1 i) (show p0.length - i=(p0.length - (i+1))+1 by omega)).trans (Qfg.eq_2 _ _ _ _))
  refine ad 8 ?_
  have hg3:=Qa6 (k:=i) hg_p0 om
  refine op (ix (xs:=p0) i om) ?_
  refine ad 1 ?_
  refine op (oi (xs:=w1) i om) ?_
  refine op (se (xs:=w1) i (nth p0 i) hg3 om) ?_
  refine ad 5 ?_
  rw[Qd7 (i:=i) (by first | omega | exact om)]
  refine ad 2 ?_
  exact Run.again ((w1.set i (nth p0 i)),(i+1)) [0,3] [2,0] ⟨by first | omega | exact trivial | (dsimp only;omega) | (refine⟨by omega,?_⟩;simp_all;try omega),hM⟩ rfl (by show _ - _<_ - _;(try dsimp only);omega) su (by decide)
 ·
  have h1l: ¬ (i<p0.length):=by have:=of_decide_eq_false h1;omega
  have hM:=hE.trans ((congrArg (fun n=>Qfg p0 n w1 i) (show p0.length - i=0 by omega)).trans (Qfg.eq_1 _ _ _))
  refine ad 6 ?_
  exact rz (rs:=[.tmp 2]) (congrArg (fun x=>[Re.sl Int instDatInt x]) hM)
def Qjc (p0:Tx):Tx:=(Tx.mk p0.Id p0.Age p0.Proc p0.Began (Qh8 p0.Calls) (Qf3 p0.Answers) (Qh5 p0.Touch) (Qi0 p0.Marks) p0.State)
theorem Yd4 (p0:Tx) (hs:Dat.small 1048576 p0):CTs 84 [.o (.st Tx _ inferInstance p0)] [Re.st Tx _ inferInstance (Qjc p0)]:=by
 refine en Tryz.func84 Tryz.ntmps84 fun w hG hgd=>?_
 obtain⟨hg_p0,_⟩:=hgd
 have hM:=Qjc.eq_1 p0
 have hs4:Dat.small 1048576 p0.Calls:=hs.2.2.2.2.1
 have hs5:Dat.small 1048576 p0.Answers:=hs.2.2.2.2.2.1
 have hs6:Dat.small 1048576 p0.Touch:=hs.2.2.2.2.2.2.1
 have hs7:Dat.small 1048576 p0.Marks:=hs.2.2.2.2.2.2.2.1
 refine ad 41 ?_
 refine og (clg (Q1c p0.Calls (by first | assumption | exact Qcs hs (by omega))) Yro) fun hgq=>?_
 obtain⟨hg1,_⟩:=hgq
 refine ad 7 ?_
 refine og (clg (Qmn p0.Answers (by first | assumption | exact Qcs hs (by omega))) Ynj) fun hgq=>?_
 obtain⟨hg2,_⟩:=hgq
 refine ad 7 ?_
 have hg3:Dat.good (p0.Touch:Touch):=hg_p0.2.2.2.2.2.2.1
 refine og (clg (Q08 p0.Touch (by first | assumption | exact Qcs hs (by omega))) Yrn) fun hgq=>?_
 obtain⟨hg4,_⟩:=hgq
 refine ad 7 ?_
 refine og (clg (Q8l p0.Marks (by first | assumption | exact Qcs hs (by omega))) Yrm) fun hgq=>?_
 obtain⟨hg5,_⟩:=hgq
 refine ad 15 ?_
 have hg6:Dat.good (Tx.mk p0.Id p0.Age p0.Proc p0.Began (Qh8 p0.Calls) (Qf3 p0.Answers) (Qh5 p0.Touch) (Qi0 p0.Marks) p0.State:Tx):=⟨hg_p0.1,hg_p0.2.1,hg_p0.2.2.1,hg_p0.2.2.2.1,hg1,hg2,hg4,hg5,hg_p0.2.2.2.2.2.2.2.2⟩
 exact rz (rs:=[.cell 2 119]) (congrArg (fun x=>[Re.st Tx _ inferInstance x]) hM)
def Qfx (p0:List Tx):Nat→(List Tx)→Nat→(List Tx)
 | 0,w1,i=>w1
 | n+1,w1,i=>Qfx p0 n (w1.set i (Qjc (nth p0 i))) (i+1)
def Qj5 (p0:List Tx):(List Tx):=Qfx p0 (p0.length - 0) (List.replicate p0.length (Tx.mk 0 0 0 0 [] [] (Touch.mk [] []) [] 0)) 0
theorem Ycu (p0:List Tx) (hs:Dat.small 1048576 p0):CTs 39 [.o (.sl Tx instDatTx p0)] [Re.sl Tx instDatTx (Qj5 p0)]:=by
 refine en Tryz.func39 Tryz.ntmps39 fun w hG hgd=>?_
 obtain⟨hg_p0,_⟩:=hgd
 have hl_p0:p0.length≤9223372036854775807:=hg_p0.1
 have hM:=Qj5.eq_1 p0
 have hs0:p0.length≤1048576:=hs.1
 refine ad 8 ?_
 refine op (ma p0.length (Tx.mk 0 0 0 0 [] [] (Touch.mk [] []) [] 0) (ho:=gdz)) ?_
 refine ad 8 ?_
 refine Run.loopM (ι:=(List Tx)×Nat) (fun s=>Qfx p0 (p0.length - s.2) s.1 s.2) (fun s=>⟨23,2,[(0,.sl 0 p0.length),(3,.sl 1 s.1.length),(4,.v (.int .i64 (s.2:Int)))],[(0,.ros Tx instDatTx p0),(1,.own Tx instDatTx s.1)]⟩) (fun s=>s.2≤p0.length∧s.1.length=p0.length) (fun s=>p0.length - s.2) ((List.replicate p0.length (Tx.mk 0 0 0 0 [] [] (Touch.mk [] []) [] 0)),0) [0,1] [1,0] hM (by first | exact⟨by omega,by simp⟩ | omega | simp | (dsimp only;omega)) su (by decide) ?_
 rintro ⟨w1,i⟩ hv hE
 try dsimp only at hE
 obtain⟨hi,hv0⟩:=hv
 try dsimp only at hi hv0
 refine ad 8 ?_
 refine cd (fun h1=>?_) (fun h1=>?_)
 ·
  have h1l:i<p0.length:=by have:=of_decide_eq_true h1;omega
  have hM:=hE.trans ((congrArg (fun n=>Qfx p0 n w1 i) (show p0.length - i=(p0.length - (i+1))+1 by omega)).trans (Qfx.eq_2 _ _ _ _))
  refine ad 8 ?_
  have hg3:=Qa6 (k:=i) hg_p0 om
  refine op (ix (xs:=p0) i om) ?_
  refine ad 1 ?_
  have hg4:Dat.good (nth p0 i:Tx):=hg3
  refine og (clg (Yd4 (nth p0 i) (by first | assumption | exact Qcs hs (by omega))) Yt8) fun hgq=>?_
  obtain⟨hg5,_⟩:=hgq
  refine op (oi (xs:=w1) i om) ?_
  refine op (se (xs:=w1) i (Qjc (nth p0 i)) hg5 om) ?_
  refine ad 5 ?_
  rw[Qd7 (i:=i) (by first | omega | exact om)]
  refine ad 2 ?_
  exact Run.again ((w1.set i (Qjc (nth p0 i))),(i+1)) [0,13] [7,0] ⟨by first | omega | exact trivial | (dsimp only;omega) | (refine⟨by omega,?_⟩;simp_all;try omega),hM⟩ rfl (by show _ - _<_ - _;(try dsimp only);omega) su (by decide)
 ·
  have h1l: ¬ (i<p0.length):=by have:=of_decide_eq_false h1;omega
  have hM:=hE.trans ((congrArg (fun n=>Qfx p0 n w1 i) (show p0.length - i=0 by omega)).trans (Qfx.eq_1 _ _ _))
  refine ad 6 ?_
  exact rz (rs:=[.tmp 2]) (congrArg (fun x=>[Re.sl Tx instDatTx x]) hM)
def Qhc (p0:Slot):Slot:=(Slot.mk p0.Seq (Qgu p0.Cells) p0.Whole)
theorem Q8k (p0:Slot) (hs:Dat.small 1048576 p0):CTs 156 [.o (.st Slot _ inferInstance p0)] [Re.st Slot _ inferInstance (Qhc p0)]:=by
 refine en Tryz.func156 Tryz.ntmps156 fun w hG hgd=>?_
 obtain⟨hg_p0,_⟩:=hgd
 have hM:=Qhc.eq_1 p0
 have hs1:Dat.small 1048576 p0.Cells:=hs.2.1
 refine ad 20 ?_
 refine og (clg (Qof p0.Cells (by first | assumption | exact Qcs hs (by omega))) Yqe) fun hgq=>?_
 obtain⟨hg1,_⟩:=hgq
 refine ad 15 ?_
 have hg2:Dat.good (Slot.mk p0.Seq (Qgu p0.Cells) p0.Whole:Slot):=⟨hg_p0.1,hg1,hg_p0.2.2⟩
 exact rz (rs:=[.cell 2 108]) (congrArg (fun x=>[Re.st Slot _ inferInstance x]) hM)
def Qev (p0:List Slot):Nat→(List Slot)→Nat→(List Slot)
 | 0,w1,i=>w1
 | n+1,w1,i=>Qev p0 n (w1.set i (Qhc (nth p0 i))) (i+1)
def Qh7 (p0:List Slot):(List Slot):=Qev p0 (p0.length - 0) (List.replicate p0.length (Slot.mk 0 [] false)) 0
theorem Q1a (p0:List Slot) (hs:Dat.small 1048576 p0):CTs 85 [.o (.sl Slot instDatSlot p0)] [Re.sl Slot instDatSlot (Qh7 p0)]:=by
 refine en Tryz.func85 Tryz.ntmps85 fun w hG hgd=>?_
 obtain⟨hg_p0,_⟩:=hgd
 have hl_p0:p0.length≤9223372036854775807:=hg_p0.1
 have hM:=Qh7.eq_1 p0
 have hs0:p0.length≤1048576:=hs.1
 refine ad 8 ?_
 refine op (ma p0.length (Slot.mk 0 [] false) (ho:=gdz)) ?_
 refine ad 8 ?_
 refine Run.loopM (ι:=(List Slot)×Nat) (fun s=>Qev p0 (p0.length - s.2) s.1 s.2) (fun s=>⟨23,2,[(0,.sl 0 p0.length),(3,.sl 1 s.1.length),(4,.v (.int .i64 (s.2:Int)))],[(0,.ros Slot instDatSlot p0),(1,.own Slot instDatSlot s.1)]⟩) (fun s=>s.2≤p0.length∧s.1.length=p0.length) (fun s=>p0.length - s.2) ((List.replicate p0.length (Slot.mk 0 [] false)),0) [0,1] [1,0] hM (by first | exact⟨by omega,by simp⟩ | omega | simp | (dsimp only;omega)) su (by decide) ?_
 rintro ⟨w1,i⟩ hv hE
 try dsimp only at hE
 obtain⟨hi,hv0⟩:=hv
 try dsimp only at hi hv0
 refine ad 8 ?_
 refine cd (fun h1=>?_) (fun h1=>?_)
 ·
  have h1l:i<p0.length:=by have:=of_decide_eq_true h1;omega
  have hM:=hE.trans ((congrArg (fun n=>Qev p0 n w1 i) (show p0.length - i=(p0.length - (i+1))+1 by omega)).trans (Qev.eq_2 _ _ _ _))
  refine ad 8 ?_
  have hg3:=Qa6 (k:=i) hg_p0 om
  refine op (ix (xs:=p0) i om) ?_
  refine ad 1 ?_
  have hg4:Dat.good (nth p0 i:Slot):=hg3
  refine og (clg (Q8k (nth p0 i) (by first | assumption | exact Qcs hs (by omega))) Yrl) fun hgq=>?_
  obtain⟨hg5,_⟩:=hgq
  refine op (oi (xs:=w1) i om) ?_
  refine op (se (xs:=w1) i (Qhc (nth p0 i)) hg5 om) ?_
  refine ad 5 ?_
  rw[Qd7 (i:=i) (by first | omega | exact om)]
  refine ad 2 ?_
  exact Run.again ((w1.set i (Qhc (nth p0 i))),(i+1)) [0,5] [3,0] ⟨by first | omega | exact trivial | (dsimp only;omega) | (refine⟨by omega,?_⟩;simp_all;try omega),hM⟩ rfl (by show _ - _<_ - _;(try dsimp only);omega) su (by decide)
 ·
  have h1l: ¬ (i<p0.length):=by have:=of_decide_eq_false h1;omega
  have hM:=hE.trans ((congrArg (fun n=>Qev p0 n w1 i) (show p0.length - i=0 by omega)).trans (Qev.eq_1 _ _ _))
  refine ad 6 ?_
  exact rz (rs:=[.tmp 2]) (congrArg (fun x=>[Re.sl Slot instDatSlot x]) hM)
def Qg5 (p0:Journal):Journal:=p0
theorem Qya (p0:Journal):CTs 86 [.o (.st Journal _ inferInstance p0)] [Re.st Journal _ inferInstance (Qg5 p0)]:=by
 refine en Tryz.func86 Tryz.ntmps86 fun w hG hgd=>?_
 obtain⟨hg_p0,_⟩:=hgd
 have hM:=Qg5.eq_1 p0
 refine ad 28 ?_
 exact rz (rs:=[.cell 2 38]) (congrArg (fun x=>[Re.st Journal _ inferInstance x]) hM)
def Qi1 (p0:Disk):Disk:=(Disk.mk (Qh7 p0.Slots) (Qg5 p0.Journal))
theorem Q8m (p0:Disk) (hs:Dat.small 1048576 p0):CTs 40 [.o (.st Disk _ inferInstance p0)] [Re.st Disk _ inferInstance (Qi1 p0)]:=by
 refine en Tryz.func40 Tryz.ntmps40 fun w hG hgd=>?_
 obtain⟨hg_p0,_⟩:=hgd
 have hM:=Qi1.eq_1 p0
 have hs0:Dat.small 1048576 p0.Slots:=hs.1
 have hs1:Dat.small 1048576 p0.Journal:=hs.2
 refine ad 13 ?_
 refine og (clg (Q1a p0.Slots (by first | assumption | exact Qcs hs (by omega))) Yt7) fun hgq=>?_
 obtain⟨hg1,_⟩:=hgq
 refine ad 7 ?_
 have hg2:Dat.good (p0.Journal:Journal):=hg_p0.2
 refine og (clg (Qya p0.Journal) Yt6) fun hgq=>?_
 obtain⟨hg3,_⟩:=hgq
 refine ad 8 ?_
 have hg4:Dat.good (Disk.mk (Qh7 p0.Slots) (Qg5 p0.Journal):Disk):=⟨hg1,hg3⟩
 exact rz (rs:=[.cell 2 40]) (congrArg (fun x=>[Re.st Disk _ inferInstance x]) hM)
def Qhb (p0:Step):Step:=(Step.mk p0.Proc (Qgm p0.Call))
theorem Q8j (p0:Step):CTs 214 [.o (.st Step _ inferInstance p0)] [Re.st Step _ inferInstance (Qhb p0)]:=by
 refine en Tryz.func214 Tryz.ntmps214 fun w hG hgd=>?_
 obtain⟨hg_p0,_⟩:=hgd
 have hM:=Qhb.eq_1 p0
 refine ad 20 ?_
 have hg1:Dat.good (p0.Call:Call):=hg_p0.2
 refine og (clg (Qqo p0.Call) Ynb) fun hgq=>?_
 obtain⟨hg2,_⟩:=hgq
 refine ad 8 ?_
 have hg3:Dat.good (Step.mk p0.Proc (Qgm p0.Call):Step):=⟨hg_p0.1,hg2⟩
 exact rz (rs:=[.cell 2 151]) (congrArg (fun x=>[Re.st Step _ inferInstance x]) hM)
def Qeu (p0:List Step):Nat→(List Step)→Nat→(List Step)
 | 0,w1,i=>w1
 | n+1,w1,i=>Qeu p0 n (w1.set i (Qhb (nth p0 i))) (i+1)
def Qh6 (p0:List Step):(List Step):=Qeu p0 (p0.length - 0) (List.replicate p0.length (Step.mk 0 (Call.mk 0 ⟨#[]⟩ ⟨#[]⟩ 0 0 ⟨#[]⟩))) 0
theorem Q09 (p0:List Step) (hs:Dat.small 1048576 p0):CTs 157 [.o (.sl Step instDatStep p0)] [Re.sl Step instDatStep (Qh6 p0)]:=by
 refine en Tryz.func157 Tryz.ntmps157 fun w hG hgd=>?_
 obtain⟨hg_p0,_⟩:=hgd
 have hl_p0:p0.length≤9223372036854775807:=hg_p0.1
 have hM:=Qh6.eq_1 p0
 have hs0:p0.length≤1048576:=hs.1
 refine ad 8 ?_
 refine op (ma p0.length (Step.mk 0 (Call.mk 0 ⟨#[]⟩ ⟨#[]⟩ 0 0 ⟨#[]⟩)) (ho:=gdz)) ?_
 refine ad 8 ?_
 refine Run.loopM (ι:=(List Step)×Nat) (fun s=>Qeu p0 (p0.length - s.2) s.1 s.2) (fun s=>⟨23,2,[(0,.sl 0 p0.length),(3,.sl 1 s.1.length),(4,.v (.int .i64 (s.2:Int)))],[(0,.ros Step instDatStep p0),(1,.own Step instDatStep s.1)]⟩) (fun s=>s.2≤p0.length∧s.1.length=p0.length) (fun s=>p0.length - s.2) ((List.replicate p0.length (Step.mk 0 (Call.mk 0 ⟨#[]⟩ ⟨#[]⟩ 0 0 ⟨#[]⟩))),0) [0,1] [1,0] hM (by first | exact⟨by omega,by simp⟩ | omega | simp | (dsimp only;omega)) su (by decide) ?_
 rintro ⟨w1,i⟩ hv hE
 try dsimp only at hE
 obtain⟨hi,hv0⟩:=hv
 try dsimp only at hi hv0
 refine ad 8 ?_
 refine cd (fun h1=>?_) (fun h1=>?_)
 ·
  have h1l:i<p0.length:=by have:=of_decide_eq_true h1;omega
  have hM:=hE.trans ((congrArg (fun n=>Qeu p0 n w1 i) (show p0.length - i=(p0.length - (i+1))+1 by omega)).trans (Qeu.eq_2 _ _ _ _))
  refine ad 8 ?_
  have hg3:=Qa6 (k:=i) hg_p0 om
  refine op (ix (xs:=p0) i om) ?_
  refine ad 1 ?_
  have hg4:Dat.good (nth p0 i:Step):=hg3
  refine og (clg (Q8j (nth p0 i)) Yqw) fun hgq=>?_
  obtain⟨hg5,_⟩:=hgq
  refine op (oi (xs:=w1) i om) ?_
  refine op (se (xs:=w1) i (Qhb (nth p0 i)) hg5 om) ?_
  refine ad 5 ?_
  rw[Qd7 (i:=i) (by first | omega | exact om)]
  refine ad 2 ?_
  exact Run.again ((w1.set i (Qhb (nth p0 i))),(i+1)) [0,3] [2,0] ⟨by first | omega | exact trivial | (dsimp only;omega) | (refine⟨by omega,?_⟩;simp_all;try omega),hM⟩ rfl (by show _ - _<_ - _;(try dsimp only);omega) su (by decide)
 ·
  have h1l: ¬ (i<p0.length):=by have:=of_decide_eq_false h1;omega
  have hM:=hE.trans ((congrArg (fun n=>Qeu p0 n w1 i) (show p0.length - i=0 by omega)).trans (Qeu.eq_1 _ _ _))
  refine ad 6 ?_
  exact rz (rs:=[.tmp 2]) (congrArg (fun x=>[Re.sl Step instDatStep x]) hM)
def Qgt (p0:Entry):Entry:=(Entry.mk p0.Seq p0.Kind p0.Tx (Qh6 p0.Steps) (Qf3 p0.Answers) p0.Began p0.Ended p0.Laid)
theorem Q1b (p0:Entry) (hs:Dat.small 1048576 p0):CTs 87 [.o (.st Entry _ inferInstance p0)] [Re.st Entry _ inferInstance (Qgt p0)]:=by
 refine en Tryz.func87 Tryz.ntmps87 fun w hG hgd=>?_
 obtain⟨hg_p0,_⟩:=hgd
 have hM:=Qgt.eq_1 p0
 have hs3:Dat.small 1048576 p0.Steps:=hs.2.2.2.1
 have hs4:Dat.small 1048576 p0.Answers:=hs.2.2.2.2.1
 refine ad 34 ?_
 refine og (clg (Q09 p0.Steps (by first | assumption | exact Qcs hs (by omega))) Yrk) fun hgq=>?_
 obtain⟨hg1,_⟩:=hgq
 refine ad 7 ?_
 refine og (clg (Qmn p0.Answers (by first | assumption | exact Qcs hs (by omega))) Ynj) fun hgq=>?_
 obtain⟨hg2,_⟩:=hgq
 refine ad 29 ?_
 have hg3:Dat.good (Entry.mk p0.Seq p0.Kind p0.Tx (Qh6 p0.Steps) (Qf3 p0.Answers) p0.Began p0.Ended p0.Laid:Entry):=⟨hg_p0.1,hg_p0.2.1,hg_p0.2.2.1,hg1,hg2,hg_p0.2.2.2.2.2.1,hg_p0.2.2.2.2.2.2.1,hg_p0.2.2.2.2.2.2.2⟩
 exact rz (rs:=[.cell 2 80]) (congrArg (fun x=>[Re.st Entry _ inferInstance x]) hM)
def Qed (p0:List Entry):Nat→(List Entry)→Nat→(List Entry)
 | 0,w1,i=>w1
 | n+1,w1,i=>Qed p0 n (w1.set i (Qgt (nth p0 i))) (i+1)
def Qho (p0:List Entry):(List Entry):=Qed p0 (p0.length - 0) (List.replicate p0.length (Entry.mk 0 0 0 [] [] 0 0 false)) 0
theorem Qzz (p0:List Entry) (hs:Dat.small 1048576 p0):CTs 41 [.o (.sl Entry instDatEntry p0)] [Re.sl Entry instDatEntry (Qho p0)]:=by
 refine en Tryz.func41 Tryz.ntmps41 fun w hG hgd=>?_
 obtain⟨hg_p0,_⟩:=hgd
 have hl_p0:p0.length≤9223372036854775807:=hg_p0.1
 have hM:=Qho.eq_1 p0
 have hs0:p0.length≤1048576:=hs.1
 refine ad 8 ?_
 refine op (ma p0.length (Entry.mk 0 0 0 [] [] 0 0 false) (ho:=gdz)) ?_
 refine ad 8 ?_
 refine Run.loopM (ι:=(List Entry)×Nat) (fun s=>Qed p0 (p0.length - s.2) s.1 s.2) (fun s=>⟨23,2,[(0,.sl 0 p0.length),(3,.sl 1 s.1.length),(4,.v (.int .i64 (s.2:Int)))],[(0,.ros Entry instDatEntry p0),(1,.own Entry instDatEntry s.1)]⟩) (fun s=>s.2≤p0.length∧s.1.length=p0.length) (fun s=>p0.length - s.2) ((List.replicate p0.length (Entry.mk 0 0 0 [] [] 0 0 false)),0) [0,1] [1,0] hM (by first | exact⟨by omega,by simp⟩ | omega | simp | (dsimp only;omega)) su (by decide) ?_
 rintro ⟨w1,i⟩ hv hE
 try dsimp only at hE
 obtain⟨hi,hv0⟩:=hv
 try dsimp only at hi hv0
 refine ad 8 ?_
 refine cd (fun h1=>?_) (fun h1=>?_)
 ·
  have h1l:i<p0.length:=by have:=of_decide_eq_true h1;omega
  have hM:=hE.trans ((congrArg (fun n=>Qed p0 n w1 i) (show p0.length - i=(p0.length - (i+1))+1 by omega)).trans (Qed.eq_2 _ _ _ _))
  refine ad 8 ?_
  have hg3:=Qa6 (k:=i) hg_p0 om
  refine op (ix (xs:=p0) i om) ?_
  refine ad 1 ?_
  have hg4:Dat.good (nth p0 i:Entry):=hg3
  refine og (clg (Q1b (nth p0 i) (by first | assumption | exact Qcs hs (by omega))) Yt5) fun hgq=>?_
  obtain⟨hg5,_⟩:=hgq
  refine op (oi (xs:=w1) i om) ?_
  refine op (se (xs:=w1) i (Qgt (nth p0 i)) hg5 om) ?_
  refine ad 5 ?_
  rw[Qd7 (i:=i) (by first | omega | exact om)]
  refine ad 2 ?_
  exact Run.again ((w1.set i (Qgt (nth p0 i))),(i+1)) [0,7] [4,0] ⟨by first | omega | exact trivial | (dsimp only;omega) | (refine⟨by omega,?_⟩;simp_all;try omega),hM⟩ rfl (by show _ - _<_ - _;(try dsimp only);omega) su (by decide)
 ·
  have h1l: ¬ (i<p0.length):=by have:=of_decide_eq_false h1;omega
  have hM:=hE.trans ((congrArg (fun n=>Qed p0 n w1 i) (show p0.length - i=0 by omega)).trans (Qed.eq_1 _ _ _))
  refine ad 6 ?_
  exact rz (rs:=[.tmp 2]) (congrArg (fun x=>[Re.sl Entry instDatEntry x]) hM)
def Qay (p0:Kernel):Kernel:=(Kernel.mk (Qgu p0.Store) (Qj5 p0.Txs) (Qi1 p0.Disk) p0.Seq p0.Next p0.Time (Qho p0.History) (Qeq p0.Seen) p0.Room)
theorem Qip (p0:Kernel) (hs:Dat.small 1048576 p0):CTs 11 [.o (.st Kernel _ inferInstance p0)] [Re.st Kernel _ inferInstance (Qay p0)]:=by
 refine en Tryz.func11 Tryz.ntmps11 fun w hG hgd=>?_
 obtain⟨hg_p0,_⟩:=hgd
 have hM:=Qay.eq_1 p0
 have hs0:Dat.small 1048576 p0.Store:=hs.1
 have hs1:Dat.small 1048576 p0.Txs:=hs.2.1
 have hs2:Dat.small 1048576 p0.Disk:=hs.2.2.1
 have hs6:Dat.small 1048576 p0.History:=hs.2.2.2.2.2.2.1
 have hs7:Dat.small 1048576 p0.Seen:=hs.2.2.2.2.2.2.2.1
 refine ad 13 ?_
 refine og (clg (Qof p0.Store (by first | assumption | exact Qcs hs (by omega))) Yqe) fun hgq=>?_
 obtain⟨hg1,_⟩:=hgq
 refine ad 7 ?_
 refine og (clg (Ycu p0.Txs (by first | assumption | exact Qcs hs (by omega))) Yuu) fun hgq=>?_
 obtain⟨hg2,_⟩:=hgq
 refine ad 7 ?_
 have hg3:Dat.good (p0.Disk:Disk):=hg_p0.2.2.1
 refine og (clg (Q8m p0.Disk (by first | assumption | exact Qcs hs (by omega))) Yut) fun hgq=>?_
 obtain⟨hg4,_⟩:=hgq
 refine ad 28 ?_
 refine og (clg (Qzz p0.History (by first | assumption | exact Qcs hs (by omega))) Yus) fun hgq=>?_
 obtain⟨hg5,_⟩:=hgq
 refine ad 7 ?_
 refine og (clg (Qjs p0.Seen (by first | assumption | exact Qcs hs (by omega))) Yom) fun hgq=>?_
 obtain⟨hg6,_⟩:=hgq
 refine ad 15 ?_
 have hg7:Dat.good (Kernel.mk (Qgu p0.Store) (Qj5 p0.Txs) (Qi1 p0.Disk) p0.Seq p0.Next p0.Time (Qho p0.History) (Qeq p0.Seen) p0.Room:Kernel):=⟨hg1,hg2,hg4,hg_p0.2.2.2.1,hg_p0.2.2.2.2.1,hg_p0.2.2.2.2.2.1,hg5,hg6,hg_p0.2.2.2.2.2.2.2.2⟩
 exact rz (rs:=[.cell 2 43]) (congrArg (fun x=>[Re.st Kernel _ inferInstance x]) hM)
def Qi4 (p0:Cell) (p1:Cell):Bool:=bif !decide (p0.Key=p1.Key) then false else(bif !decide (p0.Val=p1.Val) then false else true)
theorem Q8x (p0:Cell) (p1:Cell):CTs 94 [.o (.st Cell _ inferInstance p0),.o (.st Cell _ inferInstance p1)] [Re.c (.bool (Qi4 p0 p1))]:=by
 refine en Tryz.func94 Tryz.ntmps94 fun w hG hgd=>?_
 obtain⟨hg_p0,hg_p1,_⟩:=hgd
 have hM:=Qi4.eq_1 p0 p1
 refine ad 15 ?_
 refine cd (fun h1=>?_) (fun h1=>?_)
 ·
  have hM:=hM.trans (bt h1)
  refine ad 4 ?_
  exact rz (rs:=[.tmp 4]) (congrArg (fun x=>[Re.c (.bool x)]) hM)
 ·
  have hM:=hM.trans (bf h1)
  refine ad 10 ?_
  refine cd (fun h2=>?_) (fun h2=>?_)
  ·
   have hM:=hM.trans (bt h2)
   refine ad 4 ?_
   exact rz (rs:=[.tmp 4]) (congrArg (fun x=>[Re.c (.bool x)]) hM)
  ·
   have hM:=hM.trans (bf h2)
   refine ad 5 ?_
   exact rz (rs:=[.tmp 4]) (congrArg (fun x=>[Re.c (.bool x)]) hM)
def Qe6 (p0:List Cell) (p1:List Cell):Nat→Nat→Bool
 | 0,i=>true
 | n+1,i=>bif !(Qi4 (nth p0 i) (nth p1 i)) then false else(Qe6 p0 p1 n (i+1))
def Qia (p0:List Cell) (p1:List Cell):Bool:=bif !decide ((p0.length:Int)=(p1.length:Int)) then false else(Qe6 p0 p1 (p0.length - 0) 0)
theorem Qoh (p0:List Cell) (p1:List Cell):CTs 45 [.o (.sl Cell instDatCell p0),.o (.sl Cell instDatCell p1)] [Re.c (.bool (Qia p0 p1))]:=by
 refine en Tryz.func45 Tryz.ntmps45 fun w hG hgd=>?_
 obtain⟨hg_p0,hg_p1,_⟩:=hgd
 have hl_p0:p0.length≤9223372036854775807:=hg_p0.1
 have hl_p1:p1.length≤9223372036854775807:=hg_p1.1
 have hM:=Qia.eq_1 p0 p1
 refine ad 13 ?_
 refine cd (fun h1=>?_) (fun h1=>?_)
 ·
  have hM:=hM.trans (bt h1)
  refine ad 4 ?_
  exact rz (rs:=[.tmp 4]) (congrArg (fun x=>[Re.c (.bool x)]) hM)
 ·
  have hM:=hM.trans (bf h1)
  refine ad 7 ?_
  refine Run.loopM (ι:=Nat) (fun s=>Qe6 p0 p1 (p0.length - s) s) (fun s=>⟨27,2,[(0,.sl 0 p0.length),(1,.sl 1 p1.length),(5,.v (.int .i64 (s:Int)))],[(0,.ros Cell instDatCell p0),(1,.ros Cell instDatCell p1)]⟩) (fun s=>s≤p0.length) (fun s=>p0.length - s) 0 [0,1] [0,1] hM (by first | exact⟨by omega,by simp⟩ | omega | simp | (dsimp only;omega)) su (by decide) ?_
  rintro i hv hE
  try dsimp only at hE
  have hi:=hv
  try dsimp only at hi
  refine ad 8 ?_
  refine cd (fun h2=>?_) (fun h2=>?_)
  ·
   have h2l:i<p0.length:=by have:=of_decide_eq_true h2;omega
   have hM:=hE.trans ((congrArg (fun n=>Qe6 p0 p1 n i) (show p0.length - i=(p0.length - (i+1))+1 by omega)).trans (Qe6.eq_2 _ _ _ _))
   refine ad 4 ?_
   refine dr 10 fun _ _ _ _ _ hb=>?_
   refine tk [0,1] ?_
   have hg3:=Qa6 (k:=i) hg_p0 om
   refine tx 2 (dx (xs:=p0) i om) ?_
   refine tk [3,4,5] ?_
   have hg4:=Qa6 (k:=i) hg_p1 om
   refine tx 6 (dx (xs:=p1) i om) ?_
   refine tk [7] ?_
   have hg5:Dat.good (nth p0 i:Cell):=hg3
   have hg6:Dat.good (nth p1 i:Cell):=hg4
   refine on 8 [2,3] (cl (Q8x (nth p0 i) (nth p1 i)) Yt2) ?_
   refine tk [9] ?_
   refine dn hb ?_
   refine cd (fun h7=>?_) (fun h7=>?_)
   ·
    have hM:=hM.trans (bt h7)
    refine ad 4 ?_
    exact rz (rs:=[.tmp 4]) (congrArg (fun x=>[Re.c (.bool x)]) hM)
   ·
    have hM:=hM.trans (bf h7)
    refine ad 5 ?_
    rw[Qd7 (i:=i) (by first | omega | exact om)]
    refine ad 2 ?_
    exact Run.again (i+1) [0,1] [2,3] ⟨by first | omega | exact trivial | (dsimp only;omega) | (refine⟨by omega,?_⟩;simp_all;try omega),hM⟩ rfl (by show _ - _<_ - _;(try dsimp only);omega) su (by decide)
  ·
   have h2l: ¬ (i<p0.length):=by have:=of_decide_eq_false h2;omega
   have hM:=hE.trans ((congrArg (fun n=>Qe6 p0 p1 n i) (show p0.length - i=0 by omega)).trans (Qe6.eq_1 _ _ _))
   refine ad 5 ?_
   exact rz (rs:=[.tmp 4]) (congrArg (fun x=>[Re.c (.bool x)]) hM)
def Qh1 (p0:Call) (p1:Call):Bool:=bif !decide (p0.Kind=p1.Kind) then false else(bif !decide (p0.Name=p1.Name) then false else(bif !decide (p0.To=p1.To) then false else(bif !decide (p0.A=p1.A) then false else(bif !decide (p0.B=p1.B) then false else(bif !decide (p0.Text=p1.Text) then false else true)))))
theorem Qqr (p0:Call) (p1:Call):CTs 223 [.o (.st Call _ inferInstance p0),.o (.st Call _ inferInstance p1)] [Re.c (.bool (Qh1 p0 p1))]:=by
 refine en Tryz.func223 Tryz.ntmps223 fun w hG hgd=>?_
 obtain⟨hg_p0,hg_p1,_⟩:=hgd
 have hM:=Qh1.eq_1 p0 p1
 refine ad 15 ?_
 refine cd (fun h1=>?_) (fun h1=>?_)
 ·
  have hM:=hM.trans (bt h1)
  refine ad 4 ?_
  exact rz (rs:=[.tmp 4]) (congrArg (fun x=>[Re.c (.bool x)]) hM)
 ·
  have hM:=hM.trans (bf h1)
  refine ad 10 ?_
  refine cd (fun h2=>?_) (fun h2=>?_)
  ·
   have hM:=hM.trans (bt h2)
   refine ad 4 ?_
   exact rz (rs:=[.tmp 4]) (congrArg (fun x=>[Re.c (.bool x)]) hM)
  ·
   have hM:=hM.trans (bf h2)
   refine ad 10 ?_
   refine cd (fun h3=>?_) (fun h3=>?_)
   ·
    have hM:=hM.trans (bt h3)
    refine ad 4 ?_
    exact rz (rs:=[.tmp 4]) (congrArg (fun x=>[Re.c (.bool x)]) hM)
   ·
    have hM:=hM.trans (bf h3)
    refine ad 10 ?_
    refine cd (fun h4=>?_) (fun h4=>?_)
    ·
     have hM:=hM.trans (bt h4)
     refine ad 4 ?_
     exact rz (rs:=[.tmp 4]) (congrArg (fun x=>[Re.c (.bool x)]) hM)
    ·
     have hM:=hM.trans (bf h4)
     refine ad 10 ?_
     refine cd (fun h5=>?_) (fun h5=>?_)
     ·
      have hM:=hM.trans (bt h5)
      refine ad 4 ?_
      exact rz (rs:=[.tmp 4]) (congrArg (fun x=>[Re.c (.bool x)]) hM)
     ·
      have hM:=hM.trans (bf h5)
      refine ad 10 ?_
      refine cd (fun h6=>?_) (fun h6=>?_)
      ·
       have hM:=hM.trans (bt h6)
       refine ad 4 ?_
       exact rz (rs:=[.tmp 4]) (congrArg (fun x=>[Re.c (.bool x)]) hM)
      ·
       have hM:=hM.trans (bf h6)
       refine ad 5 ?_
       exact rz (rs:=[.tmp 4]) (congrArg (fun x=>[Re.c (.bool x)]) hM)
def Qe7 (p0:List Call) (p1:List Call):Nat→Nat→Bool
 | 0,i=>true
 | n+1,i=>bif !(Qh1 (nth p0 i) (nth p1 i)) then false else(Qe7 p0 p1 n (i+1))
def Qjg (p0:List Call) (p1:List Call):Bool:=bif !decide ((p0.length:Int)=(p1.length:Int)) then false else(Qe7 p0 p1 (p0.length - 0) 0)
theorem Q1n (p0:List Call) (p1:List Call):CTs 169 [.o (.sl Call instDatCall p0),.o (.sl Call instDatCall p1)] [Re.c (.bool (Qjg p0 p1))]:=by
 refine en Tryz.func169 Tryz.ntmps169 fun w hG hgd=>?_
 obtain⟨hg_p0,hg_p1,_⟩:=hgd
 have hl_p0:p0.length≤9223372036854775807:=hg_p0.1
 have hl_p1:p1.length≤9223372036854775807:=hg_p1.1
 have hM:=Qjg.eq_1 p0 p1
 refine ad 13 ?_
 refine cd (fun h1=>?_) (fun h1=>?_)
 ·
  have hM:=hM.trans (bt h1)
  refine ad 4 ?_
  exact rz (rs:=[.tmp 4]) (congrArg (fun x=>[Re.c (.bool x)]) hM)
 ·
  have hM:=hM.trans (bf h1)
  refine ad 7 ?_
  refine Run.loopM (ι:=Nat) (fun s=>Qe7 p0 p1 (p0.length - s) s) (fun s=>⟨27,2,[(0,.sl 0 p0.length),(1,.sl 1 p1.length),(5,.v (.int .i64 (s:Int)))],[(0,.ros Call instDatCall p0),(1,.ros Call instDatCall p1)]⟩) (fun s=>s≤p0.length) (fun s=>p0.length - s) 0 [0,1] [0,1] hM (by first | exact⟨by omega,by simp⟩ | omega | simp | (dsimp only;omega)) su (by decide) ?_
  rintro i hv hE
  try dsimp only at hE
  have hi:=hv
  try dsimp only at hi
  refine ad 8 ?_
  refine cd (fun h2=>?_) (fun h2=>?_)
  ·
   have h2l:i<p0.length:=by have:=of_decide_eq_true h2;omega
   have hM:=hE.trans ((congrArg (fun n=>Qe7 p0 p1 n i) (show p0.length - i=(p0.length - (i+1))+1 by omega)).trans (Qe7.eq_2 _ _ _ _))
   refine ad 4 ?_
   refine dr 10 fun _ _ _ _ _ hb=>?_
   refine tk [0,1] ?_
   have hg3:=Qa6 (k:=i) hg_p0 om
   refine tx 2 (dx (xs:=p0) i om) ?_
   refine tk [3,4,5] ?_
   have hg4:=Qa6 (k:=i) hg_p1 om
   refine tx 6 (dx (xs:=p1) i om) ?_
   refine tk [7] ?_
   have hg5:Dat.good (nth p0 i:Call):=hg3
   have hg6:Dat.good (nth p1 i:Call):=hg4
   refine on 8 [2,3] (cl (Qqr (nth p0 i) (nth p1 i)) Ym9) ?_
   refine tk [9] ?_
   refine dn hb ?_
   refine cd (fun h7=>?_) (fun h7=>?_)
   ·
    have hM:=hM.trans (bt h7)
    refine ad 4 ?_
    exact rz (rs:=[.tmp 4]) (congrArg (fun x=>[Re.c (.bool x)]) hM)
   ·
    have hM:=hM.trans (bf h7)
    refine ad 5 ?_
    rw[Qd7 (i:=i) (by first | omega | exact om)]
    refine ad 2 ?_
    exact Run.again (i+1) [0,1] [2,3] ⟨by first | omega | exact trivial | (dsimp only;omega) | (refine⟨by omega,?_⟩;simp_all;try omega),hM⟩ rfl (by show _ - _<_ - _;(try dsimp only);omega) su (by decide)
  ·
   have h2l: ¬ (i<p0.length):=by have:=of_decide_eq_false h2;omega
   have hM:=hE.trans ((congrArg (fun n=>Qe7 p0 p1 n i) (show p0.length - i=0 by omega)).trans (Qe7.eq_1 _ _ _))
   refine ad 5 ?_
   exact rz (rs:=[.tmp 4]) (congrArg (fun x=>[Re.c (.bool x)]) hM)
def Qhq (p0:Answer) (p1:Answer):Bool:=bif !decide (p0.Code=p1.Code) then false else(bif !decide (p0.N=p1.N) then false else(bif !decide (p0.Text=p1.Text) then false else true))
theorem Qz8 (p0:Answer) (p1:Answer):CTs 184 [.o (.st Answer _ inferInstance p0),.o (.st Answer _ inferInstance p1)] [Re.c (.bool (Qhq p0 p1))]:=by
 refine en Tryz.func184 Tryz.ntmps184 fun w hG hgd=>?_
 obtain⟨hg_p0,hg_p1,_⟩:=hgd
 have hM:=Qhq.eq_1 p0 p1
 refine ad 15 ?_
 refine cd (fun h1=>?_) (fun h1=>?_)
 ·
  have hM:=hM.trans (bt h1)
  refine ad 4 ?_
  exact rz (rs:=[.tmp 4]) (congrArg (fun x=>[Re.c (.bool x)]) hM)
 ·
  have hM:=hM.trans (bf h1)
  refine ad 10 ?_
  refine cd (fun h2=>?_) (fun h2=>?_)
  ·
   have hM:=hM.trans (bt h2)
   refine ad 4 ?_
   exact rz (rs:=[.tmp 4]) (congrArg (fun x=>[Re.c (.bool x)]) hM)
  ·
   have hM:=hM.trans (bf h2)
   refine ad 10 ?_
   refine cd (fun h3=>?_) (fun h3=>?_)
   ·
    have hM:=hM.trans (bt h3)
    refine ad 4 ?_
    exact rz (rs:=[.tmp 4]) (congrArg (fun x=>[Re.c (.bool x)]) hM)
   ·
    have hM:=hM.trans (bf h3)
    refine ad 5 ?_
    exact rz (rs:=[.tmp 4]) (congrArg (fun x=>[Re.c (.bool x)]) hM)
def Qdz (p0:List Answer) (p1:List Answer):Nat→Nat→Bool
 | 0,i=>true
 | n+1,i=>bif !(Qhq (nth p0 i) (nth p1 i)) then false else(Qdz p0 p1 n (i+1))
def Qg6 (p0:List Answer) (p1:List Answer):Bool:=bif !decide ((p0.length:Int)=(p1.length:Int)) then false else(Qdz p0 p1 (p0.length - 0) 0)
theorem Qmq (p0:List Answer) (p1:List Answer):CTs 123 [.o (.sl Answer instDatAnswer p0),.o (.sl Answer instDatAnswer p1)] [Re.c (.bool (Qg6 p0 p1))]:=by
 refine en Tryz.func123 Tryz.ntmps123 fun w hG hgd=>?_
 obtain⟨hg_p0,hg_p1,_⟩:=hgd
 have hl_p0:p0.length≤9223372036854775807:=hg_p0.1
 have hl_p1:p1.length≤9223372036854775807:=hg_p1.1
 have hM:=Qg6.eq_1 p0 p1
 refine ad 13 ?_
 refine cd (fun h1=>?_) (fun h1=>?_)
 ·
  have hM:=hM.trans (bt h1)
  refine ad 4 ?_
  exact rz (rs:=[.tmp 4]) (congrArg (fun x=>[Re.c (.bool x)]) hM)
 ·
  have hM:=hM.trans (bf h1)
  refine ad 7 ?_
  refine Run.loopM (ι:=Nat) (fun s=>Qdz p0 p1 (p0.length - s) s) (fun s=>⟨27,2,[(0,.sl 0 p0.length),(1,.sl 1 p1.length),(5,.v (.int .i64 (s:Int)))],[(0,.ros Answer instDatAnswer p0),(1,.ros Answer instDatAnswer p1)]⟩) (fun s=>s≤p0.length) (fun s=>p0.length - s) 0 [0,1] [0,1] hM (by first | exact⟨by omega,by simp⟩ | omega | simp | (dsimp only;omega)) su (by decide) ?_
  rintro i hv hE
  try dsimp only at hE
  have hi:=hv
  try dsimp only at hi
  refine ad 8 ?_
  refine cd (fun h2=>?_) (fun h2=>?_)
  ·
   have h2l:i<p0.length:=by have:=of_decide_eq_true h2;omega
   have hM:=hE.trans ((congrArg (fun n=>Qdz p0 p1 n i) (show p0.length - i=(p0.length - (i+1))+1 by omega)).trans (Qdz.eq_2 _ _ _ _))
   refine ad 4 ?_
   refine dr 10 fun _ _ _ _ _ hb=>?_
   refine tk [0,1] ?_
   have hg3:=Qa6 (k:=i) hg_p0 om
   refine tx 2 (dx (xs:=p0) i om) ?_
   refine tk [3,4,5] ?_
   have hg4:=Qa6 (k:=i) hg_p1 om
   refine tx 6 (dx (xs:=p1) i om) ?_
   refine tk [7] ?_
   have hg5:Dat.good (nth p0 i:Answer):=hg3
   have hg6:Dat.good (nth p1 i:Answer):=hg4
   refine on 8 [2,3] (cl (Qz8 (nth p0 i) (nth p1 i)) Yq3) ?_
   refine tk [9] ?_
   refine dn hb ?_
   refine cd (fun h7=>?_) (fun h7=>?_)
   ·
    have hM:=hM.trans (bt h7)
    refine ad 4 ?_
    exact rz (rs:=[.tmp 4]) (congrArg (fun x=>[Re.c (.bool x)]) hM)
   ·
    have hM:=hM.trans (bf h7)
    refine ad 5 ?_
    rw[Qd7 (i:=i) (by first | omega | exact om)]
    refine ad 2 ?_
    exact Run.again (i+1) [0,1] [2,3] ⟨by first | omega | exact trivial | (dsimp only;omega) | (refine⟨by omega,?_⟩;simp_all;try omega),hM⟩ rfl (by show _ - _<_ - _;(try dsimp only);omega) su (by decide)
  ·
   have h2l: ¬ (i<p0.length):=by have:=of_decide_eq_false h2;omega
   have hM:=hE.trans ((congrArg (fun n=>Qdz p0 p1 n i) (show p0.length - i=0 by omega)).trans (Qdz.eq_1 _ _ _))
   refine ad 5 ?_
   exact rz (rs:=[.tmp 4]) (congrArg (fun x=>[Re.c (.bool x)]) hM)
def Qdy (p0:List ByteArray) (p1:List ByteArray):Nat→Nat→Bool
 | 0,i=>true
 | n+1,i=>bif !decide ((nth p0 i)=(nth p1 i)) then false else(Qdy p0 p1 n (i+1))
def Qer (p0:List ByteArray) (p1:List ByteArray):Bool:=bif !decide ((p0.length:Int)=(p1.length:Int)) then false else(Qdy p0 p1 (p0.length - 0) 0)
theorem Qgd (p0:List ByteArray) (p1:List ByteArray):CTs 18 [.o (.sl ByteArray instDatByteArray p0),.o (.sl ByteArray instDatByteArray p1)] [Re.c (.bool (Qer p0 p1))]:=by
 refine en Tryz.func18 Tryz.ntmps18 fun w hG hgd=>?_
 obtain⟨hg_p0,hg_p1,_⟩:=hgd
 have hl_p0:p0.length≤9223372036854775807:=hg_p0.1
 have hl_p1:p1.length≤9223372036854775807:=hg_p1.1
 have hM:=Qer.eq_1 p0 p1
 refine ad 13 ?_
 refine cd (fun h1=>?_) (fun h1=>?_)
 ·
  have hM:=hM.trans (bt h1)
  refine ad 4 ?_
  exact rz (rs:=[.tmp 4]) (congrArg (fun x=>[Re.c (.bool x)]) hM)
 ·
  have hM:=hM.trans (bf h1)
  refine ad 7 ?_
  refine Run.loopM (ι:=Nat) (fun s=>Qdy p0 p1 (p0.length - s) s) (fun s=>⟨26,2,[(0,.sl 0 p0.length),(1,.sl 1 p1.length),(5,.v (.int .i64 (s:Int)))],[(0,.ros ByteArray instDatByteArray p0),(1,.ros ByteArray instDatByteArray p1)]⟩) (fun s=>s≤p0.length) (fun s=>p0.length - s) 0 [0,1] [0,1] hM (by first | exact⟨by omega,by simp⟩ | omega | simp | (dsimp only;omega)) su (by decide) ?_
  rintro i hv hE
  try dsimp only at hE
  have hi:=hv
  try dsimp only at hi
  refine ad 8 ?_
  refine cd (fun h2=>?_) (fun h2=>?_)
  ·
   have h2l:i<p0.length:=by have:=of_decide_eq_true h2;omega
   have hM:=hE.trans ((congrArg (fun n=>Qdy p0 p1 n i) (show p0.length - i=(p0.length - (i+1))+1 by omega)).trans (Qdy.eq_2 _ _ _ _))
   refine ad 4 ?_
   refine dr 9 fun _ _ _ _ _ hb=>?_
   refine tk [0,1] ?_
   have hg3:=Qa6 (k:=i) hg_p0 om
   refine tx 2 (dx (xs:=p0) i om) ?_
   refine tk [3,4,5] ?_
   have hg4:=Qa6 (k:=i) hg_p1 om
   refine tx 6 (dx (xs:=p1) i om) ?_
   refine tk [7,8] ?_
   refine dn hb ?_
   refine cd (fun h5=>?_) (fun h5=>?_)
   ·
    have hM:=hM.trans (bt h5)
    refine ad 4 ?_
    exact rz (rs:=[.tmp 4]) (congrArg (fun x=>[Re.c (.bool x)]) hM)
   ·
    have hM:=hM.trans (bf h5)
    refine ad 5 ?_
    rw[Qd7 (i:=i) (by first | omega | exact om)]
    refine ad 2 ?_
    exact Run.again (i+1) [0,1] [2,3] ⟨by first | omega | exact trivial | (dsimp only;omega) | (refine⟨by omega,?_⟩;simp_all;try omega),hM⟩ rfl (by show _ - _<_ - _;(try dsimp only);omega) su (by decide)
  ·
   have h2l: ¬ (i<p0.length):=by have:=of_decide_eq_false h2;omega
   have hM:=hE.trans ((congrArg (fun n=>Qdy p0 p1 n i) (show p0.length - i=0 by omega)).trans (Qdy.eq_1 _ _ _))
   refine ad 5 ?_
   exact rz (rs:=[.tmp 4]) (congrArg (fun x=>[Re.c (.bool x)]) hM)
def Qjd (p0:Touch) (p1:Touch):Bool:=bif !(Qer p0.Reads p1.Reads) then false else(bif !(Qer p0.Writes p1.Writes) then false else true)
theorem Q1j (p0:Touch) (p1:Touch):CTs 170 [.o (.st Touch _ inferInstance p0),.o (.st Touch _ inferInstance p1)] [Re.c (.bool (Qjd p0 p1))]:=by
 refine en Tryz.func170 Tryz.ntmps170 fun w hG hgd=>?_
 obtain⟨hg_p0,hg_p1,_⟩:=hgd
 have hM:=Qjd.eq_1 p0 p1
 refine ad 13 ?_
 refine op (cl (Qgd p0.Reads p1.Reads) Yif) ?_
 refine ad 2 ?_
 refine cd (fun h1=>?_) (fun h1=>?_)
 ·
  have hM:=hM.trans (bt h1)
  refine ad 4 ?_
  exact rz (rs:=[.tmp 4]) (congrArg (fun x=>[Re.c (.bool x)]) hM)
 ·
  have hM:=hM.trans (bf h1)
  refine ad 8 ?_
  refine op (cl (Qgd p0.Writes p1.Writes) Yif) ?_
  refine ad 2 ?_
  refine cd (fun h2=>?_) (fun h2=>?_)
  ·
   have hM:=hM.trans (bt h2)
   refine ad 4 ?_
   exact rz (rs:=[.tmp 4]) (congrArg (fun x=>[Re.c (.bool x)]) hM)
  ·
   have hM:=hM.trans (bf h2)
   refine ad 5 ?_
   exact rz (rs:=[.tmp 4]) (congrArg (fun x=>[Re.c (.bool x)]) hM)
def Qfi (p0:List Int) (p1:List Int):Nat→Nat→Bool
 | 0,i=>true
 | n+1,i=>bif !decide ((nth p0 i)=(nth p1 i)) then false else(Qfi p0 p1 n (i+1))
def Qkg (p0:List Int) (p1:List Int):Bool:=bif !decide ((p0.length:Int)=(p1.length:Int)) then false else(Qfi p0 p1 (p0.length - 0) 0)
theorem Q8v (p0:List Int) (p1:List Int):CTs 171 [.o (.sl Int instDatInt p0),.o (.sl Int instDatInt p1)] [Re.c (.bool (Qkg p0 p1))]:=by
 refine en Tryz.func171 Tryz.ntmps171 fun w hG hgd=>?_
 obtain⟨hg_p0,hg_p1,_⟩:=hgd
 have hl_p0:p0.length≤9223372036854775807:=hg_p0.1
 have hl_p1:p1.length≤9223372036854775807:=hg_p1.1
 have hM:=Qkg.eq_1 p0 p1
 refine ad 13 ?_
 refine cd (fun h1=>?_) (fun h1=>?_)
 ·
  have hM:=hM.trans (bt h1)
  refine ad 4 ?_
  exact rz (rs:=[.tmp 4]) (congrArg (fun x=>[Re.c (.bool x)]) hM)
 ·
  have hM:=hM.trans (bf h1)
  refine ad 7 ?_
  refine Run.loopM (ι:=Nat) (fun s=>Qfi p0 p1 (p0.length - s) s) (fun s=>⟨26,2,[(0,.sl 0 p0.length),(1,.sl 1 p1.length),(5,.v (.int .i64 (s:Int)))],[(0,.ros Int instDatInt p0),(1,.ros Int instDatInt p1)]⟩) (fun s=>s≤p0.length) (fun s=>p0.length - s) 0 [0,1] [0,1] hM (by first | exact⟨by omega,by simp⟩ | omega | simp | (dsimp only;omega)) su (by decide) ?_
  rintro i hv hE
  try dsimp only at hE
  have hi:=hv
  try dsimp only at hi
  refine ad 8 ?_
  refine cd (fun h2=>?_) (fun h2=>?_)
  ·
   have h2l:i<p0.length:=by have:=of_decide_eq_true h2;omega
   have hM:=hE.trans ((congrArg (fun n=>Qfi p0 p1 n i) (show p0.length - i=(p0.length - (i+1))+1 by omega)).trans (Qfi.eq_2 _ _ _ _))
   refine ad 4 ?_
   refine dr 9 fun _ _ _ _ _ hb=>?_
   refine tk [0,1] ?_
   have hg3:=Qa6 (k:=i) hg_p0 om
   refine tx 2 (dx (xs:=p0) i om) ?_
   refine tk [3,4,5] ?_
   have hg4:=Qa6 (k:=i) hg_p1 om
   refine tx 6 (dx (xs:=p1) i om) ?_
   refine tk [7,8] ?_
   refine dn hb ?_
   refine cd (fun h5=>?_) (fun h5=>?_)
   ·
    have hM:=hM.trans (bt h5)
    refine ad 4 ?_
    exact rz (rs:=[.tmp 4]) (congrArg (fun x=>[Re.c (.bool x)]) hM)
   ·
    have hM:=hM.trans (bf h5)
    refine ad 5 ?_
    rw[Qd7 (i:=i) (by first | omega | exact om)]
    refine ad 2 ?_
    exact Run.again (i+1) [0,1] [2,3] ⟨by first | omega | exact trivial | (dsimp only;omega) | (refine⟨by omega,?_⟩;simp_all;try omega),hM⟩ rfl (by show _ - _<_ - _;(try dsimp only);omega) su (by decide)
  ·
   have h2l: ¬ (i<p0.length):=by have:=of_decide_eq_false h2;omega
   have hM:=hE.trans ((congrArg (fun n=>Qfi p0 p1 n i) (show p0.length - i=0 by omega)).trans (Qfi.eq_1 _ _ _))
   refine ad 5 ?_
   exact rz (rs:=[.tmp 4]) (congrArg (fun x=>[Re.c (.bool x)]) hM)
def Qls (p0:Tx) (p1:Tx):Bool:=bif !decide (p0.Id=p1.Id) then false else(bif !decide (p0.Age=p1.Age) then false else(bif !decide (p0.Proc=p1.Proc) then false else(bif !decide (p0.Began=p1.Began) then false else(bif !(Qjg p0.Calls p1.Calls) then false else(bif !(Qg6 p0.Answers p1.Answers) then false else(bif !(Qjd p0.Touch p1.Touch) then false else(bif !(Qkg p0.Marks p1.Marks) then false else(bif !decide (p0.State=p1.State) then false else true))))))))
theorem Yd6 (p0:Tx) (p1:Tx):CTs 95 [.o (.st Tx _ inferInstance p0),.o (.st Tx _ inferInstance p1)] [Re.c (.bool (Qls p0 p1))]:=by
 refine en Tryz.func95 Tryz.ntmps95 fun w hG hgd=>?_
 obtain⟨hg_p0,hg_p1,_⟩:=hgd
 have hM:=Qls.eq_1 p0 p1
 refine ad 15 ?_
 refine cd (fun h1=>?_) (fun h1=>?_)
 ·
  have hM:=hM.trans (bt h1)
  refine ad 4 ?_
  exact rz (rs:=[.tmp 4]) (congrArg (fun x=>[Re.c (.bool x)]) hM)
 ·
  have hM:=hM.trans (bf h1)
  refine ad 10 ?_
  refine cd (fun h2=>?_) (fun h2=>?_)
  ·
   have hM:=hM.trans (bt h2)
   refine ad 4 ?_
   exact rz (rs:=[.tmp 4]) (congrArg (fun x=>[Re.c (.bool x)]) hM)
  ·
   have hM:=hM.trans (bf h2)
   refine ad 10 ?_
   refine cd (fun h3=>?_) (fun h3=>?_)
   ·
    have hM:=hM.trans (bt h3)
    refine ad 4 ?_
    exact rz (rs:=[.tmp 4]) (congrArg (fun x=>[Re.c (.bool x)]) hM)
   ·
    have hM:=hM.trans (bf h3)
    refine ad 10 ?_
    refine cd (fun h4=>?_) (fun h4=>?_)
    ·
     have hM:=hM.trans (bt h4)
     refine ad 4 ?_
     exact rz (rs:=[.tmp 4]) (congrArg (fun x=>[Re.c (.bool x)]) hM)
    ·
     have hM:=hM.trans (bf h4)
     refine ad 8 ?_
     refine op (cl (Q1n p0.Calls p1.Calls) Yrd) ?_
     refine ad 2 ?_
     refine cd (fun h5=>?_) (fun h5=>?_)
     ·
      have hM:=hM.trans (bt h5)
      refine ad 4 ?_
      exact rz (rs:=[.tmp 4]) (congrArg (fun x=>[Re.c (.bool x)]) hM)
     ·
      have hM:=hM.trans (bf h5)
      refine ad 8 ?_
      refine op (cl (Qmq p0.Answers p1.Answers) Ynm) ?_
      refine ad 2 ?_
      refine cd (fun h6=>?_) (fun h6=>?_)
      ·
       have hM:=hM.trans (bt h6)
       refine ad 4 ?_
       exact rz (rs:=[.tmp 4]) (congrArg (fun x=>[Re.c (.bool x)]) hM)
      ·
       have hM:=hM.trans (bf h6)
       refine ad 8 ?_
       have hg7:Dat.good (p0.Touch:Touch):=hg_p0.2.2.2.2.2.2.1
       have hg8:Dat.good (p1.Touch:Touch):=hg_p1.2.2.2.2.2.2.1
       refine op (cl (Q1j p0.Touch p1.Touch) Yrb) ?_
       refine ad 2 ?_
       refine cd (fun h9=>?_) (fun h9=>?_)
       ·
        have hM:=hM.trans (bt h9)
        refine ad 4 ?_
        exact rz (rs:=[.tmp 4]) (congrArg (fun x=>[Re.c (.bool x)]) hM)
       ·
        have hM:=hM.trans (bf h9)
        refine ad 8 ?_
        refine op (cl (Q8v p0.Marks p1.Marks) Yra) ?_
        refine ad 2 ?_
        refine cd (fun h10=>?_) (fun h10=>?_)
        ·
         have hM:=hM.trans (bt h10)
         refine ad 4 ?_
         exact rz (rs:=[.tmp 4]) (congrArg (fun x=>[Re.c (.bool x)]) hM)
        ·
         have hM:=hM.trans (bf h10)
         refine ad 10 ?_
         refine cd (fun h11=>?_) (fun h11=>?_)
         ·
          have hM:=hM.trans (bt h11)
          refine ad 4 ?_
          exact rz (rs:=[.tmp 4]) (congrArg (fun x=>[Re.c (.bool x)]) hM)
         ·
          have hM:=hM.trans (bf h11)
          refine ad 5 ?_
          exact rz (rs:=[.tmp 4]) (congrArg (fun x=>[Re.c (.bool x)]) hM)
def Qfz (p0:List Tx) (p1:List Tx):Nat→Nat→Bool
 | 0,i=>true
 | n+1,i=>bif !(Qls (nth p0 i) (nth p1 i)) then false else(Qfz p0 p1 n (i+1))
def Qlr (p0:List Tx) (p1:List Tx):Bool:=bif !decide ((p0.length:Int)=(p1.length:Int)) then false else(Qfz p0 p1 (p0.length - 0) 0)
theorem Ycw (p0:List Tx) (p1:List Tx):CTs 46 [.o (.sl Tx instDatTx p0),.o (.sl Tx instDatTx p1)] [Re.c (.bool (Qlr p0 p1))]:=by
 refine en Tryz.func46 Tryz.ntmps46 fun w hG hgd=>?_
 obtain⟨hg_p0,hg_p1,_⟩:=hgd
 have hl_p0:p0.length≤9223372036854775807:=hg_p0.1
 have hl_p1:p1.length≤9223372036854775807:=hg_p1.1
 have hM:=Qlr.eq_1 p0 p1
 refine ad 13 ?_
 refine cd (fun h1=>?_) (fun h1=>?_)
 ·
  have hM:=hM.trans (bt h1)
  refine ad 4 ?_
  exact rz (rs:=[.tmp 4]) (congrArg (fun x=>[Re.c (.bool x)]) hM)
 ·
  have hM:=hM.trans (bf h1)
  refine ad 7 ?_
  refine Run.loopM (ι:=Nat) (fun s=>Qfz p0 p1 (p0.length - s) s) (fun s=>⟨27,2,[(0,.sl 0 p0.length),(1,.sl 1 p1.length),(5,.v (.int .i64 (s:Int)))],[(0,.ros Tx instDatTx p0),(1,.ros Tx instDatTx p1)]⟩) (fun s=>s≤p0.length) (fun s=>p0.length - s) 0 [0,1] [0,1] hM (by first | exact⟨by omega,by simp⟩ | omega | simp | (dsimp only;omega)) su (by decide) ?_
  rintro i hv hE
  try dsimp only at hE
  have hi:=hv
  try dsimp only at hi
  refine ad 8 ?_
  refine cd (fun h2=>?_) (fun h2=>?_)
  ·
   have h2l:i<p0.length:=by have:=of_decide_eq_true h2;omega
   have hM:=hE.trans ((congrArg (fun n=>Qfz p0 p1 n i) (show p0.length - i=(p0.length - (i+1))+1 by omega)).trans (Qfz.eq_2 _ _ _ _))
   refine ad 4 ?_
   refine dr 10 fun _ _ _ _ _ hb=>?_
   refine tk [0,1] ?_
   have hg3:=Qa6 (k:=i) hg_p0 om
   refine tx 2 (dx (xs:=p0) i om) ?_
   refine tk [3,4,5] ?_
   have hg4:=Qa6 (k:=i) hg_p1 om
   refine tx 6 (dx (xs:=p1) i om) ?_
   refine tk [7] ?_
   have hg5:Dat.good (nth p0 i:Tx):=hg3
   have hg6:Dat.good (nth p1 i:Tx):=hg4
   refine on 8 [12,13] (cl (Yd6 (nth p0 i) (nth p1 i)) Yt1) ?_
   refine tk [9] ?_
   refine dn hb ?_
   refine cd (fun h7=>?_) (fun h7=>?_)
   ·
    have hM:=hM.trans (bt h7)
    refine ad 4 ?_
    exact rz (rs:=[.tmp 4]) (congrArg (fun x=>[Re.c (.bool x)]) hM)
   ·
    have hM:=hM.trans (bf h7)
    refine ad 5 ?_
    rw[Qd7 (i:=i) (by first | omega | exact om)]
    refine ad 2 ?_
    exact Run.again (i+1) [0,1] [12,13] ⟨by first | omega | exact trivial | (dsimp only;omega) | (refine⟨by omega,?_⟩;simp_all;try omega),hM⟩ rfl (by show _ - _<_ - _;(try dsimp only);omega) su (by decide)
  ·
   have h2l: ¬ (i<p0.length):=by have:=of_decide_eq_false h2;omega
   have hM:=hE.trans ((congrArg (fun n=>Qfz p0 p1 n i) (show p0.length - i=0 by omega)).trans (Qfz.eq_1 _ _ _))
   refine ad 5 ?_
   exact rz (rs:=[.tmp 4]) (congrArg (fun x=>[Re.c (.bool x)]) hM)
def Qi3 (p0:Slot) (p1:Slot):Bool:=bif !decide (p0.Seq=p1.Seq) then false else(bif !(Qia p0.Cells p1.Cells) then false else(bif !decide (p0.Whole=p1.Whole) then false else true))
theorem Q8u (p0:Slot) (p1:Slot):CTs 172 [.o (.st Slot _ inferInstance p0),.o (.st Slot _ inferInstance p1)] [Re.c (.bool (Qi3 p0 p1))]:=by
 refine en Tryz.func172 Tryz.ntmps172 fun w hG hgd=>?_
 obtain⟨hg_p0,hg_p1,_⟩:=hgd
 have hM:=Qi3.eq_1 p0 p1
 refine ad 15 ?_
 refine cd (fun h1=>?_) (fun h1=>?_)
 ·
  have hM:=hM.trans (bt h1)
  refine ad 4 ?_
  exact rz (rs:=[.tmp 4]) (congrArg (fun x=>[Re.c (.bool x)]) hM)
 ·
  have hM:=hM.trans (bf h1)
  refine ad 8 ?_
  refine op (cl (Qoh p0.Cells p1.Cells) Yqd) ?_
  refine ad 2 ?_
  refine cd (fun h2=>?_) (fun h2=>?_)
  ·
   have hM:=hM.trans (bt h2)
   refine ad 4 ?_
   exact rz (rs:=[.tmp 4]) (congrArg (fun x=>[Re.c (.bool x)]) hM)
  ·
   have hM:=hM.trans (bf h2)
   refine ad 10 ?_
   refine cd (fun h3=>?_) (fun h3=>?_)
   ·
    have hM:=hM.trans (bt h3)
    refine ad 4 ?_
    exact rz (rs:=[.tmp 4]) (congrArg (fun x=>[Re.c (.bool x)]) hM)
   ·
    have hM:=hM.trans (bf h3)
    refine ad 5 ?_
    exact rz (rs:=[.tmp 4]) (congrArg (fun x=>[Re.c (.bool x)]) hM)
def Qe5 (p0:List Slot) (p1:List Slot):Nat→Nat→Bool
 | 0,i=>true
 | n+1,i=>bif !(Qi3 (nth p0 i) (nth p1 i)) then false else(Qe5 p0 p1 n (i+1))
def Qjf (p0:List Slot) (p1:List Slot):Bool:=bif !decide ((p0.length:Int)=(p1.length:Int)) then false else(Qe5 p0 p1 (p0.length - 0) 0)
theorem Q1l (p0:List Slot) (p1:List Slot):CTs 96 [.o (.sl Slot instDatSlot p0),.o (.sl Slot instDatSlot p1)] [Re.c (.bool (Qjf p0 p1))]:=by
 refine en Tryz.func96 Tryz.ntmps96 fun w hG hgd=>?_
 obtain⟨hg_p0,hg_p1,_⟩:=hgd
 have hl_p0:p0.length≤9223372036854775807:=hg_p0.1
 have hl_p1:p1.length≤9223372036854775807:=hg_p1.1
 have hM:=Qjf.eq_1 p0 p1
 refine ad 13 ?_
 refine cd (fun h1=>?_) (fun h1=>?_)
 ·
  have hM:=hM.trans (bt h1)
  refine ad 4 ?_
  exact rz (rs:=[.tmp 4]) (congrArg (fun x=>[Re.c (.bool x)]) hM)
 ·
  have hM:=hM.trans (bf h1)
  refine ad 7 ?_
  refine Run.loopM (ι:=Nat) (fun s=>Qe5 p0 p1 (p0.length - s) s) (fun s=>⟨27,2,[(0,.sl 0 p0.length),(1,.sl 1 p1.length),(5,.v (.int .i64 (s:Int)))],[(0,.ros Slot instDatSlot p0),(1,.ros Slot instDatSlot p1)]⟩) (fun s=>s≤p0.length) (fun s=>p0.length - s) 0 [0,1] [0,1] hM (by first | exact⟨by omega,by simp⟩ | omega | simp | (dsimp only;omega)) su (by decide) ?_
  rintro i hv hE
  try dsimp only at hE
  have hi:=hv
  try dsimp only at hi
  refine ad 8 ?_
  refine cd (fun h2=>?_) (fun h2=>?_)
  ·
   have h2l:i<p0.length:=by have:=of_decide_eq_true h2;omega
   have hM:=hE.trans ((congrArg (fun n=>Qe5 p0 p1 n i) (show p0.length - i=(p0.length - (i+1))+1 by omega)).trans (Qe5.eq_2 _ _ _ _))
   refine ad 4 ?_
   refine dr 10 fun _ _ _ _ _ hb=>?_
   refine tk [0,1] ?_
   have hg3:=Qa6 (k:=i) hg_p0 om
   refine tx 2 (dx (xs:=p0) i om) ?_
   refine tk [3,4,5] ?_
   have hg4:=Qa6 (k:=i) hg_p1 om
   refine tx 6 (dx (xs:=p1) i om) ?_
   refine tk [7] ?_
   have hg5:Dat.good (nth p0 i:Slot):=hg3
   have hg6:Dat.good (nth p1 i:Slot):=hg4
   refine on 8 [4,5] (cl (Q8u (nth p0 i) (nth p1 i)) Yq9) ?_
   refine tk [9] ?_
   refine dn hb ?_
   refine cd (fun h7=>?_) (fun h7=>?_)
   ·
    have hM:=hM.trans (bt h7)
    refine ad 4 ?_
    exact rz (rs:=[.tmp 4]) (congrArg (fun x=>[Re.c (.bool x)]) hM)
   ·
    have hM:=hM.trans (bf h7)
    refine ad 5 ?_
    rw[Qd7 (i:=i) (by first | omega | exact om)]
    refine ad 2 ?_
    exact Run.again (i+1) [0,1] [4,5] ⟨by first | omega | exact trivial | (dsimp only;omega) | (refine⟨by omega,?_⟩;simp_all;try omega),hM⟩ rfl (by show _ - _<_ - _;(try dsimp only);omega) su (by decide)
  ·
   have h2l: ¬ (i<p0.length):=by have:=of_decide_eq_false h2;omega
   have hM:=hE.trans ((congrArg (fun n=>Qe5 p0 p1 n i) (show p0.length - i=0 by omega)).trans (Qe5.eq_1 _ _ _))
   refine ad 5 ?_
   exact rz (rs:=[.tmp 4]) (congrArg (fun x=>[Re.c (.bool x)]) hM)
def Qhv (p0:Journal) (p1:Journal):Bool:=bif !decide (p0.Text=p1.Text) then false else(bif !decide (p0.Sure=p1.Sure) then false else true)
theorem Qyf (p0:Journal) (p1:Journal):CTs 97 [.o (.st Journal _ inferInstance p0),.o (.st Journal _ inferInstance p1)] [Re.c (.bool (Qhv p0 p1))]:=by
 refine en Tryz.func97 Tryz.ntmps97 fun w hG hgd=>?_
 obtain⟨hg_p0,hg_p1,_⟩:=hgd
 have hM:=Qhv.eq_1 p0 p1
 refine ad 15 ?_
 refine cd (fun h1=>?_) (fun h1=>?_)
 ·
  have hM:=hM.trans (bt h1)
  refine ad 4 ?_
  exact rz (rs:=[.tmp 4]) (congrArg (fun x=>[Re.c (.bool x)]) hM)
 ·
  have hM:=hM.trans (bf h1)
  refine ad 10 ?_
  refine cd (fun h2=>?_) (fun h2=>?_)
  ·
   have hM:=hM.trans (bt h2)
   refine ad 4 ?_
   exact rz (rs:=[.tmp 4]) (congrArg (fun x=>[Re.c (.bool x)]) hM)
  ·
   have hM:=hM.trans (bf h2)
   refine ad 5 ?_
   exact rz (rs:=[.tmp 4]) (congrArg (fun x=>[Re.c (.bool x)]) hM)
def Qkh (p0:Disk) (p1:Disk):Bool:=bif !(Qjf p0.Slots p1.Slots) then false else(bif !(Qhv p0.Journal p1.Journal) then false else true)
theorem Q8w (p0:Disk) (p1:Disk):CTs 47 [.o (.st Disk _ inferInstance p0),.o (.st Disk _ inferInstance p1)] [Re.c (.bool (Qkh p0 p1))]:=by
 refine en Tryz.func47 Tryz.ntmps47 fun w hG hgd=>?_
 obtain⟨hg_p0,hg_p1,_⟩:=hgd
 have hM:=Qkh.eq_1 p0 p1
 refine ad 13 ?_
 refine op (cl (Q1l p0.Slots p1.Slots) Yt0) ?_
 refine ad 2 ?_
 refine cd (fun h1=>?_) (fun h1=>?_)
 ·
  have hM:=hM.trans (bt h1)
  refine ad 4 ?_
  exact rz (rs:=[.tmp 4]) (congrArg (fun x=>[Re.c (.bool x)]) hM)
 ·
  have hM:=hM.trans (bf h1)
  refine ad 8 ?_
  have hg2:Dat.good (p0.Journal:Journal):=hg_p0.2
  have hg3:Dat.good (p1.Journal:Journal):=hg_p1.2
  refine op (cl (Qyf p0.Journal p1.Journal) Ytz) ?_
  refine ad 2 ?_
  refine cd (fun h4=>?_) (fun h4=>?_)
  ·
   have hM:=hM.trans (bt h4)
   refine ad 4 ?_
   exact rz (rs:=[.tmp 4]) (congrArg (fun x=>[Re.c (.bool x)]) hM)
  ·
   have hM:=hM.trans (bf h4)
   refine ad 5 ?_
   exact rz (rs:=[.tmp 4]) (congrArg (fun x=>[Re.c (.bool x)]) hM)
def Qi2 (p0:Step) (p1:Step):Bool:=bif !decide (p0.Proc=p1.Proc) then false else(bif !(Qh1 p0.Call p1.Call) then false else true)
theorem Q8t (p0:Step) (p1:Step):CTs 183 [.o (.st Step _ inferInstance p0),.o (.st Step _ inferInstance p1)] [Re.c (.bool (Qi2 p0 p1))]:=by
 refine en Tryz.func183 Tryz.ntmps183 fun w hG hgd=>?_
 obtain⟨hg_p0,hg_p1,_⟩:=hgd
 have hM:=Qi2.eq_1 p0 p1
 refine ad 15 ?_
 refine cd (fun h1=>?_) (fun h1=>?_)
 ·
  have hM:=hM.trans (bt h1)
  refine ad 4 ?_
  exact rz (rs:=[.tmp 4]) (congrArg (fun x=>[Re.c (.bool x)]) hM)
 ·
  have hM:=hM.trans (bf h1)
  refine ad 8 ?_
  have hg2:Dat.good (p0.Call:Call):=hg_p0.2
  have hg3:Dat.good (p1.Call:Call):=hg_p1.2
  refine op (cl (Qqr p0.Call p1.Call) Ym9) ?_
  refine ad 2 ?_
  refine cd (fun h4=>?_) (fun h4=>?_)
  ·
   have hM:=hM.trans (bt h4)
   refine ad 4 ?_
   exact rz (rs:=[.tmp 4]) (congrArg (fun x=>[Re.c (.bool x)]) hM)
  ·
   have hM:=hM.trans (bf h4)
   refine ad 5 ?_
   exact rz (rs:=[.tmp 4]) (congrArg (fun x=>[Re.c (.bool x)]) hM)
def Qe4 (p0:List Step) (p1:List Step):Nat→Nat→Bool
 | 0,i=>true
 | n+1,i=>bif !(Qi2 (nth p0 i) (nth p1 i)) then false else(Qe4 p0 p1 n (i+1))
def Qje (p0:List Step) (p1:List Step):Bool:=bif !decide ((p0.length:Int)=(p1.length:Int)) then false else(Qe4 p0 p1 (p0.length - 0) 0)
theorem Q1k (p0:List Step) (p1:List Step):CTs 122 [.o (.sl Step instDatStep p0),.o (.sl Step instDatStep p1)] [Re.c (.bool (Qje p0 p1))]:=by
 refine en Tryz.func122 Tryz.ntmps122 fun w hG hgd=>?_
 obtain⟨hg_p0,hg_p1,_⟩:=hgd
 have hl_p0:p0.length≤9223372036854775807:=hg_p0.1
 have hl_p1:p1.length≤9223372036854775807:=hg_p1.1
 have hM:=Qje.eq_1 p0 p1
 refine ad 13 ?_
 refine cd (fun h1=>?_) (fun h1=>?_)
 ·
  have hM:=hM.trans (bt h1)
  refine ad 4 ?_
  exact rz (rs:=[.tmp 4]) (congrArg (fun x=>[Re.c (.bool x)]) hM)
 ·
  have hM:=hM.trans (bf h1)
  refine ad 7 ?_
  refine Run.loopM (ι:=Nat) (fun s=>Qe4 p0 p1 (p0.length - s) s) (fun s=>⟨27,2,[(0,.sl 0 p0.length),(1,.sl 1 p1.length),(5,.v (.int .i64 (s:Int)))],[(0,.ros Step instDatStep p0),(1,.ros Step instDatStep p1)]⟩) (fun s=>s≤p0.length) (fun s=>p0.length - s) 0 [0,1] [0,1] hM (by first | exact⟨by omega,by simp⟩ | omega | simp | (dsimp only;omega)) su (by decide) ?_
  rintro i hv hE
  try dsimp only at hE
  have hi:=hv
  try dsimp only at hi
  refine ad 8 ?_
  refine cd (fun h2=>?_) (fun h2=>?_)
  ·
   have h2l:i<p0.length:=by have:=of_decide_eq_true h2;omega
   have hM:=hE.trans ((congrArg (fun n=>Qe4 p0 p1 n i) (show p0.length - i=(p0.length - (i+1))+1 by omega)).trans (Qe4.eq_2 _ _ _ _))
   refine ad 4 ?_
   refine dr 10 fun _ _ _ _ _ hb=>?_
   refine tk [0,1] ?_
   have hg3:=Qa6 (k:=i) hg_p0 om
   refine tx 2 (dx (xs:=p0) i om) ?_
   refine tk [3,4,5] ?_
   have hg4:=Qa6 (k:=i) hg_p1 om
   refine tx 6 (dx (xs:=p1) i om) ?_
   refine tk [7] ?_
   have hg5:Dat.good (nth p0 i:Step):=hg3
   have hg6:Dat.good (nth p1 i:Step):=hg4
   refine on 8 [2,3] (cl (Q8t (nth p0 i) (nth p1 i)) Yq4) ?_
   refine tk [9] ?_
   refine dn hb ?_
   refine cd (fun h7=>?_) (fun h7=>?_)
   ·
    have hM:=hM.trans (bt h7)
    refine ad 4 ?_
    exact rz (rs:=[.tmp 4]) (congrArg (fun x=>[Re.c (.bool x)]) hM)
   ·
    have hM:=hM.trans (bf h7)
    refine ad 5 ?_
    rw[Qd7 (i:=i) (by first | omega | exact om)]
    refine ad 2 ?_
    exact Run.again (i+1) [0,1] [2,3] ⟨by first | omega | exact trivial | (dsimp only;omega) | (refine⟨by omega,?_⟩;simp_all;try omega),hM⟩ rfl (by show _ - _<_ - _;(try dsimp only);omega) su (by decide)
  ·
   have h2l: ¬ (i<p0.length):=by have:=of_decide_eq_false h2;omega
   have hM:=hE.trans ((congrArg (fun n=>Qe4 p0 p1 n i) (show p0.length - i=0 by omega)).trans (Qe4.eq_1 _ _ _))
   refine ad 5 ?_
   exact rz (rs:=[.tmp 4]) (congrArg (fun x=>[Re.c (.bool x)]) hM)
def Qh9 (p0:Entry) (p1:Entry):Bool:=bif !decide (p0.Seq=p1.Seq) then false else(bif !decide (p0.Kind=p1.Kind) then false else(bif !decide (p0.Tx=p1.Tx) then false else(bif !(Qje p0.Steps p1.Steps) then false else(bif !(Qg6 p0.Answers p1.Answers) then false else(bif !decide (p0.Began=p1.Began) then false else(bif !decide (p0.Ended=p1.Ended) then false else(bif !decide (p0.Laid=p1.Laid) then false else true)))))))
theorem Q1m (p0:Entry) (p1:Entry):CTs 63 [.o (.st Entry _ inferInstance p0),.o (.st Entry _ inferInstance p1)] [Re.c (.bool (Qh9 p0 p1))]:=by
 refine en Tryz.func63 Tryz.ntmps63 fun w hG hgd=>?_
 obtain⟨hg_p0,hg_p1,_⟩:=hgd
 have hM:=Qh9.eq_1 p0 p1
 refine ad 15 ?_
 refine cd (fun h1=>?_) (fun h1=>?_)
 ·
  have hM:=hM.trans (bt h1)
  refine ad 4 ?_
  exact rz (rs:=[.tmp 4]) (congrArg (fun x=>[Re.c (.bool x)]) hM)
 ·
  have hM:=hM.trans (bf h1)
  refine ad 10 ?_
  refine cd (fun h2=>?_) (fun h2=>?_)
  ·
   have hM:=hM.trans (bt h2)
   refine ad 4 ?_
   exact rz (rs:=[.tmp 4]) (congrArg (fun x=>[Re.c (.bool x)]) hM)
  ·
   have hM:=hM.trans (bf h2)
   refine ad 10 ?_
   refine cd (fun h3=>?_) (fun h3=>?_)
   ·
    have hM:=hM.trans (bt h3)
    refine ad 4 ?_
    exact rz (rs:=[.tmp 4]) (congrArg (fun x=>[Re.c (.bool x)]) hM)
   ·
    have hM:=hM.trans (bf h3)
    refine ad 8 ?_
    refine op (cl (Q1k p0.Steps p1.Steps) Yry) ?_
    refine ad 2 ?_
    refine cd (fun h4=>?_) (fun h4=>?_)
    ·
     have hM:=hM.trans (bt h4)
     refine ad 4 ?_
     exact rz (rs:=[.tmp 4]) (congrArg (fun x=>[Re.c (.bool x)]) hM)
    ·
     have hM:=hM.trans (bf h4)
     refine ad 8 ?_
     refine op (cl (Qmq p0.Answers p1.Answers) Ynm) ?_
     refine ad 2 ?_
     refine cd (fun h5=>?_) (fun h5=>?_)
     ·
      have hM:=hM.trans (bt h5)
      refine ad 4 ?_
      exact rz (rs:=[.tmp 4]) (congrArg (fun x=>[Re.c (.bool x)]) hM)
     ·
      have hM:=hM.trans (bf h5)
      refine ad 10 ?_
      refine cd (fun h6=>?_) (fun h6=>?_)
      ·
       have hM:=hM.trans (bt h6)
       refine ad 4 ?_
       exact rz (rs:=[.tmp 4]) (congrArg (fun x=>[Re.c (.bool x)]) hM)
      ·
       have hM:=hM.trans (bf h6)
       refine ad 10 ?_
       refine cd (fun h7=>?_) (fun h7=>?_)
       ·
        have hM:=hM.trans (bt h7)
        refine ad 4 ?_
        exact rz (rs:=[.tmp 4]) (congrArg (fun x=>[Re.c (.bool x)]) hM)
       ·
        have hM:=hM.trans (bf h7)
        refine ad 10 ?_
        refine cd (fun h8=>?_) (fun h8=>?_)
        ·
         have hM:=hM.trans (bt h8)
         refine ad 4 ?_
         exact rz (rs:=[.tmp 4]) (congrArg (fun x=>[Re.c (.bool x)]) hM)
        ·
         have hM:=hM.trans (bf h8)
         refine ad 5 ?_
         exact rz (rs:=[.tmp 4]) (congrArg (fun x=>[Re.c (.bool x)]) hM)
def Qef (p0:List Entry) (p1:List Entry):Nat→Nat→Bool
 | 0,i=>true
 | n+1,i=>bif !(Qh9 (nth p0 i) (nth p1 i)) then false else(Qef p0 p1 n (i+1))
def Qim (p0:List Entry) (p1:List Entry):Bool:=bif !decide ((p0.length:Int)=(p1.length:Int)) then false else(Qef p0 p1 (p0.length - 0) 0)
theorem Qz7 (p0:List Entry) (p1:List Entry):CTs 24 [.o (.sl Entry instDatEntry p0),.o (.sl Entry instDatEntry p1)] [Re.c (.bool (Qim p0 p1))]:=by
 refine en Tryz.func24 Tryz.ntmps24 fun w hG hgd=>?_
 obtain⟨hg_p0,hg_p1,_⟩:=hgd
 have hl_p0:p0.length≤9223372036854775807:=hg_p0.1
 have hl_p1:p1.length≤9223372036854775807:=hg_p1.1
 have hM:=Qim.eq_1 p0 p1
 refine ad 13 ?_
 refine cd (fun h1=>?_) (fun h1=>?_)
 ·
  have hM:=hM.trans (bt h1)
  refine ad 4 ?_
  exact rz (rs:=[.tmp 4]) (congrArg (fun x=>[Re.c (.bool x)]) hM)
 ·
  have hM:=hM.trans (bf h1)
  refine ad 7 ?_
  refine Run.loopM (ι:=Nat) (fun s=>Qef p0 p1 (p0.length - s) s) (fun s=>⟨27,2,[(0,.sl 0 p0.length),(1,.sl 1 p1.length),(5,.v (.int .i64 (s:Int)))],[(0,.ros Entry instDatEntry p0),(1,.ros Entry instDatEntry p1)]⟩) (fun s=>s≤p0.length) (fun s=>p0.length - s) 0 [0,1] [0,1] hM (by first | exact⟨by omega,by simp⟩ | omega | simp | (dsimp only;omega)) su (by decide) ?_
  rintro i hv hE
  try dsimp only at hE
  have hi:=hv
  try dsimp only at hi
  refine ad 8 ?_
  refine cd (fun h2=>?_) (fun h2=>?_)
  ·
   have h2l:i<p0.length:=by have:=of_decide_eq_true h2;omega
   have hM:=hE.trans ((congrArg (fun n=>Qef p0 p1 n i) (show p0.length - i=(p0.length - (i+1))+1 by omega)).trans (Qef.eq_2 _ _ _ _))
   refine ad 4 ?_
   refine dr 10 fun _ _ _ _ _ hb=>?_
   refine tk [0,1] ?_
   have hg3:=Qa6 (k:=i) hg_p0 om
   refine tx 2 (dx (xs:=p0) i om) ?_
   refine tk [3,4,5] ?_
   have hg4:=Qa6 (k:=i) hg_p1 om
   refine tx 6 (dx (xs:=p1) i om) ?_
   refine tk [7] ?_
   have hg5:Dat.good (nth p0 i:Entry):=hg3
   have hg6:Dat.good (nth p1 i:Entry):=hg4
   refine on 8 [6,7] (cl (Q1m (nth p0 i) (nth p1 i)) Yuh) ?_
   refine tk [9] ?_
   refine dn hb ?_
   refine cd (fun h7=>?_) (fun h7=>?_)
   ·
    have hM:=hM.trans (bt h7)
    refine ad 4 ?_
    exact rz (rs:=[.tmp 4]) (congrArg (fun x=>[Re.c (.bool x)]) hM)
   ·
    have hM:=hM.trans (bf h7)
    refine ad 5 ?_
    rw[Qd7 (i:=i) (by first | omega | exact om)]
    refine ad 2 ?_
    exact Run.again (i+1) [0,1] [6,7] ⟨by first | omega | exact trivial | (dsimp only;omega) | (refine⟨by omega,?_⟩;simp_all;try omega),hM⟩ rfl (by show _ - _<_ - _;(try dsimp only);omega) su (by decide)
  ·
   have h2l: ¬ (i<p0.length):=by have:=of_decide_eq_false h2;omega
   have hM:=hE.trans ((congrArg (fun n=>Qef p0 p1 n i) (show p0.length - i=0 by omega)).trans (Qef.eq_1 _ _ _))
   refine ad 5 ?_
   exact rz (rs:=[.tmp 4]) (congrArg (fun x=>[Re.c (.bool x)]) hM)
def Qil (p0:Kernel) (p1:Kernel):Bool:=bif !(Qia p0.Store p1.Store) then false else(bif !(Qlr p0.Txs p1.Txs) then false else(bif !(Qkh p0.Disk p1.Disk) then false else(bif !decide (p0.Seq=p1.Seq) then false else(bif !decide (p0.Next=p1.Next) then false else(bif !decide (p0.Time=p1.Time) then false else(bif !(Qim p0.History p1.History) then false else(bif !(Qer p0.Seen p1.Seen) then false else(bif !decide (p0.Room=p1.Room) then false else true))))))))
theorem Qz6 (p0:Kernel) (p1:Kernel):CTs 13 [.o (.st Kernel _ inferInstance p0),.o (.st Kernel _ inferInstance p1)] [Re.c (.bool (Qil p0 p1))]:=by
 refine en Tryz.func13 Tryz.ntmps13 fun w hG hgd=>?_
 obtain⟨hg_p0,hg_p1,_⟩:=hgd
 have hM:=Qil.eq_1 p0 p1
 refine ad 13 ?_
 refine op (cl (Qoh p0.Store p1.Store) Yqd) ?_
 refine ad 2 ?_
 refine cd (fun h1=>?_) (fun h1=>?_)
 ·
  have hM:=hM.trans (bt h1)
  refine ad 4 ?_
  exact rz (rs:=[.tmp 4]) (congrArg (fun x=>[Re.c (.bool x)]) hM)
 ·
  have hM:=hM.trans (bf h1)
  refine ad 8 ?_
  refine op (cl (Ycw p0.Txs p1.Txs) Yuq) ?_
  refine ad 2 ?_
  refine cd (fun h2=>?_) (fun h2=>?_)
  ·
   have hM:=hM.trans (bt h2)
   refine ad 4 ?_
   exact rz (rs:=[.tmp 4]) (congrArg (fun x=>[Re.c (.bool x)]) hM)
  ·
   have hM:=hM.trans (bf h2)
   refine ad 8 ?_
   have hg3:Dat.good (p0.Disk:Disk):=hg_p0.2.2.1
   have hg4:Dat.good (p1.Disk:Disk):=hg_p1.2.2.1
   refine op (cl (Q8w p0.Disk p1.Disk) Yup) ?_
   refine ad 2 ?_
   refine cd (fun h5=>?_) (fun h5=>?_)
   ·
    have hM:=hM.trans (bt h5)
    refine ad 4 ?_
    exact rz (rs:=[.tmp 4]) (congrArg (fun x=>[Re.c (.bool x)]) hM)
   ·
    have hM:=hM.trans (bf h5)
    refine ad 10 ?_
    refine cd (fun h6=>?_) (fun h6=>?_)
    ·
     have hM:=hM.trans (bt h6)
     refine ad 4 ?_
     exact rz (rs:=[.tmp 4]) (congrArg (fun x=>[Re.c (.bool x)]) hM)
    ·
     have hM:=hM.trans (bf h6)
     refine ad 10 ?_
     refine cd (fun h7=>?_) (fun h7=>?_)
     ·
      have hM:=hM.trans (bt h7)
      refine ad 4 ?_
      exact rz (rs:=[.tmp 4]) (congrArg (fun x=>[Re.c (.bool x)]) hM)
     ·
      have hM:=hM.trans (bf h7)
      refine ad 10 ?_
      refine cd (fun h8=>?_) (fun h8=>?_)
      ·
       have hM:=hM.trans (bt h8)
       refine ad 4 ?_
       exact rz (rs:=[.tmp 4]) (congrArg (fun x=>[Re.c (.bool x)]) hM)
      ·
       have hM:=hM.trans (bf h8)
       refine ad 8 ?_
       refine op (cl (Qz7 p0.History p1.History) Yu0) ?_
       refine ad 2 ?_
       refine cd (fun h9=>?_) (fun h9=>?_)
       ·
        have hM:=hM.trans (bt h9)
        refine ad 4 ?_
        exact rz (rs:=[.tmp 4]) (congrArg (fun x=>[Re.c (.bool x)]) hM)
       ·
        have hM:=hM.trans (bf h9)
        refine ad 8 ?_
        refine op (cl (Qgd p0.Seen p1.Seen) Yif) ?_
        refine ad 2 ?_
        refine cd (fun h10=>?_) (fun h10=>?_)
        ·
         have hM:=hM.trans (bt h10)
         refine ad 4 ?_
         exact rz (rs:=[.tmp 4]) (congrArg (fun x=>[Re.c (.bool x)]) hM)
        ·
         have hM:=hM.trans (bf h10)
         refine ad 10 ?_
         refine cd (fun h11=>?_) (fun h11=>?_)
         ·
          have hM:=hM.trans (bt h11)
          refine ad 4 ?_
          exact rz (rs:=[.tmp 4]) (congrArg (fun x=>[Re.c (.bool x)]) hM)
         ·
          have hM:=hM.trans (bf h11)
          refine ad 5 ?_
          exact rz (rs:=[.tmp 4]) (congrArg (fun x=>[Re.c (.bool x)]) hM)
end
end Go.Proofs.YtppialklomgajaaGreatDoor.Fw
