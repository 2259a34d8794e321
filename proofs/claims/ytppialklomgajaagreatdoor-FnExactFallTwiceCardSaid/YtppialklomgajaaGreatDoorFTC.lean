/-
  The texts C3, PD, B, B2, N1, NP, Sy2, U1, U2, U3, UH, U0, BI, UP, U4, BB, BC, Am26, Sy8, UR, U5, B8, U6, PU, U7, PW, RF, RI of this proof, one behind the other: what each proves stands at its head. No condition.
-/
import Derived.Lib.ShelfFacts
import Derived.Lib.Overlaps
import Derived.Lib.AppendZerosOnto
import Derived.Shelf.RegionOpenPlain
import Derived.WalkKit
import Derived.Lib.SliceRun
import Derived.Laws.Externs
import Derived.Laws.IdiomCopy
import Derived.KernelRfl
import Derived.Lib.UnsafeStr
import Derived.Lib.Builder
import Derived.Lib.FrozenHead
import Derived.Lib.AppendZeros
import Derived.RangeFuncFrom
import Derived.RangeFuncBound
import Derived.RangeFuncCalls
import Derived.TacticsIn
import Derived.RangeFuncLeaves
import Derived.Test.YtppialklomgajaaGreatDoorFTA
import Derived.Test.YtppialklomgajaaGreatDoorFTB
set_option linter.unusedVariables false
set_option linter.unusedSimpArgs false
set_option maxRecDepth 100000
namespace Go.Proofs.YtppialklomgajaaGreatDoor.Fw
open Go.RowKit
open IntKind (i64)
open List (append_nil nil_append length_append length_nil length_cons mem_singleton append_assoc length_take getElem?_eq_getElem size_toArray length_drop getElem?_take length_set getElem?_drop length_map getElem?_map)
section
theorem Ylk:Qti Tryz.prog 3 5 .u8=true:=by kernel_rfl
theorem Yld:Tryz.f224.body.isNone=false:=rfl
theorem Ynz:Tryz.f229.body.isNone=false:=rfl
theorem Ylb:(Tryz.f224.name == "runtime.NumGoroutine")=false:=by kernel_rfl
theorem Yny:(Tryz.f229.name == "runtime.NumGoroutine")=false:=by kernel_rfl
def Qb1 (p0:Int):Int:=(if(decide (p0<10))=true then IntKind.u8.wrap (i64.wrap (48+p0)) else IntKind.u8.wrap (i64.wrap (i64.wrap (97+p0) - 10)))
theorem Qlj (p0:Int) {w:World}  :
  Calls Tryz.prog 224 [.int .i64 p0].toArray w (fun e w'=>e= .returned (.int .u8 (Qb1 p0))∧Below w.heap.size w w'):=by
 refine enter Tryz.func224 rfl Tryz.ntmps224 (Nat.le_of_ble_eq_true rfl) ?_
 intro a0 hE0
 have hS0:=SH.start w
 have hM:=Qb1.eq_1 p0
 refine wp_seq (wp_region_lit ?_)
 refine Qa1 hE0 (Qdd hE0 rfl) rfl fun a1 hE1=>wpList_nil ?_
 refine Qap ?_
 refine wp_seq (wp_seq (wp_region_lit ?_))
 refine Qa1 hE1 (Qez hE1 rfl) rfl fun a2 hE2=>Qa1 hE2 (Ya5 hE2 rfl rfl) rfl fun a3 hE3=>wpList_nil ?_
 refine Qap ?_
 refine Qjt hE3 rfl (fun hb4=>?_) (fun hb4=>?_)
 ·
  have hM:=hM.trans (if_t hb4)
  have hb4f:p0<10:=of_decide_eq_true hb4
  refine wp_seq (wp_region_lit ?_)
  refine Qa1 hE3 (Qez hE3 rfl) rfl fun a5 hE5=>Qa1 hE5 (Ydg hE5 rfl rfl) rfl fun a6 hE6=>Qa1 hE6 (Q2v hE6 rfl Ylk) rfl fun a7 hE7=>Qa1 hE7 (Qdd hE7 rfl) rfl fun a8 hE8=>wpList_nil ?_
  refine Qap ?_
  refine wp_ret ?_
  refine Q2x ?_
  exact fin1 hE8 rfl rfl ⟨by rw[hM],hS0.below⟩
 ·
  have hM:=hM.trans (if_f hb4)
  have hb4f: ¬ (p0<10):=of_decide_eq_false hb4
  refine wp_skip ?_
  refine Qap ?_
  refine wp_seq (wp_region_lit ?_)
  refine Qa1 hE3 (Qez hE3 rfl) rfl fun a9 hE9=>Qa1 hE9 (Ydg hE9 rfl rfl) rfl fun a10 hE10=>Qa1 hE10 (Yhq hE10 rfl rfl) rfl fun a11 hE11=>Qa1 hE11 (Q2v hE11 rfl Ylk) rfl fun a12 hE12=>Qa1 hE12 (Qdd hE12 rfl) rfl fun a13 hE13=>wpList_nil ?_
  refine Qap ?_
  refine wp_ret ?_
  exact fin1 hE13 rfl rfl ⟨by rw[hM],hS0.below⟩
def Qcu (p0:Int) (s1_0:Int) (s1_4:ByteArray):ByteArray:=(if(decide (p0<0))=true then((⟨#[45]⟩:ByteArray)++s1_4) else s1_4)
def Qc7 (p0:Int):Nat→Int→ByteArray→ByteArray
 | 0,s1_0,s1_4=>Qcu p0 s1_0 s1_4
 | fu1+1,s1_0,s1_4=>if(!decide (s1_0=0))=true then(if(decide (Int.tmod s1_0 10<0))=true then Qc7 p0 fu1 (i64.wrap (Int.tdiv s1_0 10)) ((strOfNums [(Qb1 (i64.wrap (-(Int.tmod s1_0 10))))])++s1_4) else Qc7 p0 fu1 (i64.wrap (Int.tdiv s1_0 10)) ((strOfNums [(Qb1 (Int.tmod s1_0 10))])++s1_4)) else Qcu p0 s1_0 s1_4
def Qb5 (p0:Int):ByteArray:=(if(decide (p0=0))=true then(⟨#[48]⟩:ByteArray) else Qc7 p0 (p0.natAbs) p0 (⟨#[]⟩:ByteArray))
theorem Q0e (p0:Int) {w:World} (hi0:I64 p0):
  Calls Tryz.prog 174 [.int .i64 p0].toArray w (fun e w'=>e= .returned (.string (Qb5 p0))∧Below w.heap.size w w'):=by
 refine enter Tryz.func174 rfl Tryz.ntmps174 (Nat.le_of_ble_eq_true rfl) ?_
 intro a0 hE0
 have hS0:=SH.start w
 have hM:=Qb5.eq_1 p0
 have hij0: -9223372036854775808≤p0∧p0≤9223372036854775807:=hi0
 refine wp_seq (wp_region_lit ?_)
 refine Qa1 hE0 (Qdd hE0 rfl) rfl fun a1 hE1=>wpList_nil ?_
 refine Qap ?_
 refine wp_seq (wp_seq (wp_region_lit ?_))
 refine Qa1 hE1 (Qez hE1 rfl) rfl fun a2 hE2=>Qa1 hE2 (Ygm hE2 rfl rfl) rfl fun a3 hE3=>wpList_nil ?_
 refine Qap ?_
 refine Qjt hE3 rfl (fun hb4=>?_) (fun hb4=>?_)
 ·
  have hM:=hM.trans (if_t hb4)
  have hb4f:p0=0:=by simpa using hb4
  refine wp_seq (wp_region_lit ?_)
  refine Qa1 hE3 (Qdd hE3 rfl) rfl fun a5 hE5=>wpList_nil ?_
  refine Qap ?_
  refine wp_ret ?_
  refine Q2x ?_
  exact fin1 hE5 rfl rfl ⟨by rw[hM],hS0.below⟩
 ·
  have hM:=hM.trans (if_f hb4)
  have hb4f: ¬ (p0=0):=by simpa using hb4
  refine wp_skip ?_
  refine Qap ?_
  refine wp_seq (wp_region_lit ?_)
  refine Qa1 hE3 (Qez hE3 rfl) rfl fun a6 hE6=>Qa1 hE6 (Ya5 hE6 rfl rfl) rfl fun a7 hE7=>Qa1 hE7 (Qdd hE7 rfl) rfl fun a8 hE8=>wpList_nil ?_
  refine Qap ?_
  refine wp_seq (wp_region_lit ?_)
  refine Qa1 hE8 (Qdd hE8 rfl) rfl fun a9 hE9=>wpList_nil ?_
  refine Qap ?_
  refine wp_seq (wp_block (wp_loop_ghost (fun fu1 a w2=> ∃ (s1_0:Int) (s1_4:ByteArray),s1_0.natAbs≤fu1∧dig s1_4.size (s1_0.natAbs:Int)∧I64 s1_0∧Qb5 p0=Qc7 p0 fu1 s1_0 s1_4∧Env 30 [(0,.int .i64 s1_0),(3,.bool (decide (p0<0))),(4,.string s1_4)] a∧SH (Old w) w w2 []) (p0.natAbs) ⟨p0,(⟨#[]⟩:ByteArray),Nat.le_refl _,(show dig 0 _ from⟨by omega,by simp;omega⟩),hi0,hM,hE9.weaken ⟨rfl,rfl,rfl,trivial⟩,hS0⟩ ?_))
  rintro fu1 a10 w10 ⟨s1_0,s1_4,hme1,hin1_0,hgis1_0,hM,hE10,hS10⟩
  have hgjs1_0: -9223372036854775808≤s1_0∧s1_0≤9223372036854775807:=hgis1_0
  refine wp_seq (wp_seq (wp_region_lit ?_))
  refine Qa1 hE10 (Qez hE10 rfl) rfl fun a11 hE11=>Qa1 hE11 (Yhs hE11 rfl rfl) rfl fun a12 hE12=>wpList_nil ?_
  refine Qap ?_
  refine Qjt hE12 rfl (fun hb13=>?_) (fun hb13=>?_)
  ·
   have hb13f: ¬ (s1_0=0):=by simpa using hb13
   obtain⟨fu1,rfl⟩: ∃ m,fu1=m+1:=⟨fu1 - 1,by omega⟩
   have hM:=hM.trans ((Qc7.eq_2 _ _ _ _).trans (if_t hb13))
   refine wp_skip ?_
   refine Qap ?_
   refine wp_block (wp_seq (wp_region_lit ?_))
   refine Qa1 hE12 (Qez hE12 rfl) rfl fun a14 hE14=>Qa1 hE14 (Ydf hE14 rfl rfl (by decide)) rfl fun a15 hE15=>Qa1 hE15 (Qdd hE15 rfl) rfl fun a16 hE16=>wpList_nil ?_
   refine Qap ?_
   refine wp_seq (wp_seq (wp_region_lit ?_))
   refine Qa1 hE16 (Qez hE16 rfl) rfl fun a17 hE17=>Qa1 hE17 (Ya5 hE17 rfl rfl) rfl fun a18 hE18=>wpList_nil ?_
   refine Qap ?_
   refine Qjt hE18 rfl (fun hb19=>?_) (fun hb19=>?_)
   ·
    have hM:=hM.trans (if_t hb19)
    have hb19f:Int.tmod s1_0 10<0:=of_decide_eq_true hb19
    refine wp_region_lit ?_
    refine Qa1 hE18 (Qez hE18 rfl) rfl fun a20 hE20=>Qa1 hE20 (Yht hE20 rfl) rfl fun a21 hE21=>Qa1 hE21 (Qdd hE21 rfl) rfl fun a22 hE22=>wpList_nil ?_
    refine Qap ?_
    refine wp_seq (wp_region_lit ?_)
    refine Qa1 hE22 (Qez hE22 rfl) rfl fun a23 hE23=>Q2y hE23 hS10 Tryz.func224 Yld Ylb (Qlj (i64.wrap (-(Int.tmod s1_0 10)))) rfl rfl fun w24 hS24 a25 hE25=>Ybb (is:=[0]) (vs:=[.int .u8 (Qb1 (i64.wrap (-(Int.tmod s1_0 10))))]) (cs:=[.int .u8 (Qb1 (i64.wrap (-(Int.tmod s1_0 10))))]) (e:=5) hE25 hS24 rfl rfl (by kernel_rfl) rfl fun b26 w26 hS26 a27 hE27=>Qa1 hE27 (Q2c (xs:=[(Qb1 (i64.wrap (-(Int.tmod s1_0 10))))]) hE27 rfl Tryz.underlying144 Tryz.underlying5 Tryz.underlying9 rfl (hS26.cells (k:=0) rfl)) rfl fun a28 hE28=>Qa1 hE28 (Qez hE28 rfl) rfl fun a29 hE29=>Qa1 hE29 (Ya8 hE29 rfl rfl (by have h:=hin1_0.1;first | omega | (rw[Qh2];simp only[List.length];omega) | (show 1+_≤_;omega))) rfl fun a30 hE30=>Qa1 hE30 (Qdd hE30 rfl) rfl fun a31 hE31=>wpList_nil ?_
    refine Qap ?_
    refine wp_region_lit ?_
    refine Qa1 hE31 (Qez hE31 rfl) rfl fun a32 hE32=>Qa1 hE32 (Ygi hE32 rfl rfl (by decide)) rfl fun a33 hE33=>Qa1 hE33 (Qdd hE33 rfl) rfl fun a34 hE34=>wpList_nil ?_
    refine Quv ?_
    refine Qap ⟨fu1,Nat.lt_succ_self _,i64.wrap (Int.tdiv s1_0 10),((strOfNums [(Qb1 (i64.wrap (-(Int.tmod s1_0 10))))])++s1_4),(by rw[Qnz (by assumption)];omega),(by rw[Qnz (by assumption),ByteArray.size_append,Qh2];show dig (1+_) _;rw[Nat.add_comm];exact Q3f hin1_0 (by omega)),(Qk0 _),hM,hE34.weaken ⟨rfl,rfl,rfl,trivial⟩,(hS26.drop (k:=1))⟩
   ·
    have hM:=hM.trans (if_f hb19)
    have hb19f: ¬ (Int.tmod s1_0 10<0):=of_decide_eq_false hb19
    refine wp_skip ?_
    refine Qap ?_
    refine wp_seq (wp_region_lit ?_)
    refine Qa1 hE18 (Qez hE18 rfl) rfl fun a35 hE35=>Q2y hE35 hS10 Tryz.func224 Yld Ylb (Qlj (Int.tmod s1_0 10)) rfl rfl fun w36 hS36 a37 hE37=>Ybb (is:=[0]) (vs:=[.int .u8 (Qb1 (Int.tmod s1_0 10))]) (cs:=[.int .u8 (Qb1 (Int.tmod s1_0 10))]) (e:=5) hE37 hS36 rfl rfl (by kernel_rfl) rfl fun b38 w38 hS38 a39 hE39=>Qa1 hE39 (Q2c (xs:=[(Qb1 (Int.tmod s1_0 10))]) hE39 rfl Tryz.underlying144 Tryz.underlying5 Tryz.underlying9 rfl (hS38.cells (k:=0) rfl)) rfl fun a40 hE40=>Qa1 hE40 (Qez hE40 rfl) rfl fun a41 hE41=>Qa1 hE41 (Ya8 hE41 rfl rfl (by have h:=hin1_0.1;first | omega | (rw[Qh2];simp only[List.length];omega) | (show 1+_≤_;omega))) rfl fun a42 hE42=>Qa1 hE42 (Qdd hE42 rfl) rfl fun a43 hE43=>wpList_nil ?_
    refine Qap ?_
    refine wp_region_lit ?_
    refine Qa1 hE43 (Qez hE43 rfl) rfl fun a44 hE44=>Qa1 hE44 (Ygi hE44 rfl rfl (by decide)) rfl fun a45 hE45=>Qa1 hE45 (Qdd hE45 rfl) rfl fun a46 hE46=>wpList_nil ?_
    refine Quv ?_
    refine Qap ⟨fu1,Nat.lt_succ_self _,i64.wrap (Int.tdiv s1_0 10),((strOfNums [(Qb1 (Int.tmod s1_0 10))])++s1_4),(by rw[Qnz (by assumption)];omega),(by rw[Qnz (by assumption),ByteArray.size_append,Qh2];show dig (1+_) _;rw[Nat.add_comm];exact Q3f hin1_0 (by omega)),(Qk0 _),hM,hE46.weaken ⟨rfl,rfl,rfl,trivial⟩,(hS38.drop (k:=1))⟩
  ·
   have hb13f:s1_0=0:=by simpa using hb13
   have hM:=hM.trans (show Qc7 p0 fu1 s1_0 s1_4=Qcu p0 s1_0 s1_4 from by cases fu1 with | zero=>exact Qc7.eq_1 _ _ _ | succ m=>exact(Qc7.eq_2 _ _ _ _).trans (if_f hb13))
   have hM:=hM.trans (Qcu.eq_1 _ _ _)
   refine wp_exit ?_
   refine Qse ?_
   refine Qse ?_
   refine Q8y ?_
   refine Qap ?_
   refine wp_seq (wp_seq (wp_region_lit ?_))
   refine Qa1 hE12 (Qez hE12 rfl) rfl fun a47 hE47=>wpList_nil ?_
   refine Qap ?_
   refine Qjt hE47 rfl (fun hb48=>?_) (fun hb48=>?_)
   ·
    have hM:=hM.trans (if_t hb48)
    have hb48f:p0<0:=of_decide_eq_true hb48
    refine wp_seq (wp_region_lit ?_)
    refine Qa1 hE47 (Qez hE47 rfl) rfl fun a49 hE49=>Qa1 hE49 (Ya8 hE49 rfl rfl (by have h:=hin1_0.1;first | omega | (rw[Qh2];simp only[List.length];omega) | (show 1+_≤_;omega))) rfl fun a50 hE50=>Qa1 hE50 (Qdd hE50 rfl) rfl fun a51 hE51=>wpList_nil ?_
    refine Qap ?_
    refine wp_ret ?_
    refine Q2x ?_
    exact fin1 hE51 rfl rfl ⟨by rw[hM],hS10.below⟩
   ·
    have hM:=hM.trans (if_f hb48)
    have hb48f: ¬ (p0<0):=of_decide_eq_false hb48
    refine wp_skip ?_
    refine Qap ?_
    refine wp_seq (wp_region_lit ?_)
    refine Qa1 hE47 (Qez hE47 rfl) rfl fun a52 hE52=>Qa1 hE52 (Qdd hE52 rfl) rfl fun a53 hE53=>wpList_nil ?_
    refine Qap ?_
    refine wp_ret ?_
    exact fin1 hE53 rfl rfl ⟨by rw[hM],hS10.below⟩
def Qco (p0:Int):ByteArray:=(strconv_Itoa p0)
theorem Q0v (p0:Int) {w:World} (hi0:I64 p0) (hG6:GV 6 (gl6.map (Value.int .u64)) w):
  Calls Tryz.prog 182 [.int .i64 p0].toArray w (fun e w'=>e= .returned (.string (Qco p0))∧Below w.heap.size w w'):=by
 refine enter Tryz.func182 rfl Tryz.ntmps182 (Nat.le_of_ble_eq_true rfl) ?_
 intro a0 hE0
 have hS0:=SH.start w
 have hM:=Qco.eq_1 p0
 have hij0: -9223372036854775808≤p0∧p0≤9223372036854775807:=hi0
 refine wp_seq (wp_region_lit ?_)
 refine Qa1 hE0 (Qdd hE0 rfl) rfl fun a1 hE1=>wpList_nil ?_
 refine Qap ?_
 refine wp_seq (wp_region_lit ?_)
 refine Qa1 hE1 (Qez hE1 rfl) rfl fun a2 hE2=>Q2y hE2 hS0 Tryz.func229 Ynz Yny (Qz8 p0 hi0 (GV.sh hS0 hG6)) rfl rfl fun w3 hS3 a4 hE4=>Qa1 hE4 (Qdd hE4 rfl) rfl fun a5 hE5=>wpList_nil ?_
 refine Qap ?_
 refine wp_ret ?_
 exact fin1 hE5 rfl rfl ⟨by rw[hM],hS3.below⟩
end
section
theorem Yck {v:Int} (h0:0≤v) (h1:v≤9):strOfNums [Qb1 v]=⟨#[UInt8.ofNat (48+v.toNat)]⟩:=by
 have e:Qb1 v=48+v:=by
  unfold Qb1
  rw[if_pos (decide_eq_true (by omega)),IntWalk.i64_in _ ⟨by omega,by omega⟩,IntWalk.u8_in _ ⟨by omega,by omega⟩]
 rw[e]
 have e2:(48+v).toNat=48+v.toNat:=by omega
 simp[strOfNums,e2]
def figs (u:Nat):ByteArray:=if u=0 then⟨#[]⟩ else⟨(Lib.decDigits u).toArray⟩
theorem Yem (a b c:ByteArray):a++(b++c)=(a++b)++c:=(ByteArray.append_assoc).symm
theorem Ycl {u:Nat} (h:u≠0):figs (u / 10)++(⟨#[UInt8.ofNat (48+u % 10)]⟩:ByteArray)=figs u:=by
 unfold figs
 rw[if_neg h]
 by_cases h9:u<10
 ·rw[if_pos (by omega),Lib.decDigits,dif_pos h9,Nat.mod_eq_of_lt h9]
  rfl
 ·rw[if_neg (by omega),Lib.decDigits.eq_def u,dif_neg h9]
  apply ByteArray.ext
  simp
theorem Ydi (s:Int):(Int.tmod s 10).natAbs=s.natAbs % 10:=by
 rw[Int.natAbs_tmod]
 rfl
theorem Qsi (p0:Int): ∀ (fu:Nat) (s:Int) (o:ByteArray),I64 s→s.natAbs≤fu→Qc7 p0 fu s o=Qcu p0 0 (figs s.natAbs++o):=by
 intro fu
 induction fu with
 | zero =>
  intro s o hs h
  have e:s.natAbs=0:=by omega
  rw[e]
  have e2:figs 0++o=o:=by
   apply ByteArray.ext
   simp[figs]
  rw[e2]
  rfl
 | succ m ih =>
  intro s o hs h
  rw[Qc7]
  by_cases h0:s=0
  ·subst h0
   simp only[decide_true,Bool.not_true,Bool.false_eq_true,if_false]
   have e2:figs (Int.natAbs 0)++o=o:=by
    apply ByteArray.ext
    simp[figs]
   rw[e2]
  ·simp only[h0,decide_false,Bool.not_false,if_true]
   have ha:=Ydi s
   have hb:=Qnz hs
   have hu:s.natAbs≠0:=by omega
   have hfin: ∀ v:Int,0≤v→v.natAbs=s.natAbs % 10→Qc7 p0 m (i64.wrap (Int.tdiv s 10)) (strOfNums [Qb1 v]++o)=Qcu p0 0 (figs s.natAbs++o):=by
    intro v hv0 hv
    rw[ih _ _ (Qk0 _) (by omega),hb,Yck hv0 (by omega),Yem,show v.toNat=s.natAbs % 10 by omega,Ycl hu]
   split
   ·rename_i hneg
    have hneg':=of_decide_eq_true hneg
    rw[IntWalk.i64_in (-(Int.tmod s 10)) ⟨by omega,by omega⟩]
    exact hfin _ (by omega) (by omega)
   ·rename_i hpos
    have hpos': ¬ Int.tmod s 10<0:=by simpa using hpos
    exact hfin _ (by omega) (by omega)
theorem Qlf {p0:Int} (h:I64 p0):Qb5 p0=Qco p0:=by
 unfold Qb5 Qco strconv_Itoa
 by_cases h0:p0=0
 ·subst h0
  simp only[decide_true,if_true]
  unfold Lib.itoa
  rw[if_neg (by decide),Lib.decDigits,dif_pos (by decide)]
  rfl
 ·simp only[h0,decide_false,Bool.false_eq_true,if_false]
  rw[Qsi p0 _ _ _ h (Nat.le_refl _)]
  unfold Qcu Lib.itoa figs
  rw[if_neg (show ¬ p0.natAbs=0 by omega)]
  by_cases hn:p0<0
  ·simp only[hn,decide_true,if_true]
   apply ByteArray.ext
   simp
  ·simp only[hn,decide_false,Bool.false_eq_true,if_false]
   rw[show p0.toNat=p0.natAbs by omega]
   apply ByteArray.ext
   simp
theorem Qqn (p0:Int): ∀ (fu:Nat) (s:Int) (o:ByteArray),I64 s→dig o.size (s.natAbs:Int)→(Qc7 p0 fu s o).size≤20:=by
 have haft: ∀ s o,o.size≤19→(Qcu p0 s o).size≤20:=by
  intro s o ho
  unfold Qcu
  split
  ·rw[ByteArray.size_append]
   show 1+o.size≤20
   omega
  ·omega
 intro fu
 induction fu with
 | zero=>intro s o hs h;exact haft _ _ h.1
 | succ m ih =>
  intro s o hs h
  rw[Qc7]
  split
  ·rename_i hne
   have hne': ¬ s=0:=by simpa using hne
   have hstep: ∀ v:Int,dig (strOfNums [v]++o).size ((i64.wrap (Int.tdiv s 10)).natAbs:Int):=by
    intro v
    rw[Qnz hs,ByteArray.size_append,Qh2]
    show dig (1+_) _
    rw[Nat.add_comm]
    exact Q3f h (by omega)
   split
   ·exact ih _ _ (Qk0 _) (hstep _)
   ·exact ih _ _ (Qk0 _) (hstep _)
  ·exact haft _ _ h.1
theorem Qgt {p0:Int} (h:I64 p0):(Qb5 p0).size≤20:=by
 unfold Qb5
 split
 ·decide
 ·exact Qqn _ _ _ _ h ⟨Nat.zero_le _,by
   show(p0.natAbs:Int)<10 ^ 19
   have:=h.1
   have:=h.2
   omega⟩
theorem Qkr {p0:Int} (h:I64 p0):(Qco p0).size≤20:=by
 rw[←Qlf h]
 exact Qgt h
end
section
theorem Qxg {w:World}: ∀ {us vs:List Value},Q4k w vs (us.map fun u=> .o (.c u))→vs=us
 | [],[],_=>rfl
 | [],_::_,h=>h.elim
 | _::_,[],h=>h.elim
 | u :: us, v :: vs, h => by
  obtain⟨h1,h2⟩:=h
  have e:v=u:=h1
  rw[e,Qxg h2]
theorem Qha (p0 p1 p2 : Int) : CTs 158 [.o (.c (.int .i64 p0)), .o (.c (.int .i64 p1)), .o (.c (.int .i64 p2))] [.c (.bool (Qcd p0 p1 p2))] := CT.flat fun w vs hG hA => by
 obtain rfl:=Qxg (us:=[.int .i64 p0,.int .i64 p1,.int .i64 p2]) hA
 exact Q32 p0 p1 p2
theorem Qhr (p0 p1 p2 : Int) : CTs 146 [.o (.c (.int .i64 p0)), .o (.c (.int .i64 p1)), .o (.c (.int .i64 p2))] [.c (.bool (Qcm p0 p1 p2))] := CT.flat fun w vs hG hA => by
 obtain rfl:=Qxg (us:=[.int .i64 p0,.int .i64 p1,.int .i64 p2]) hA
 exact Q6b p0 p1 p2
theorem Qh6 (p0 : Int) (h : I64 p0) : CTs 174 [.o (.c (.int .i64 p0))] [.c (.string (Qb5 p0))] := CT.flat fun w vs hG hA => by
 obtain rfl:=Qxg (us:=[.int .i64 p0]) hA
 exact Q0e p0 h
theorem Qnh (p0 : Int) (h : I64 p0) : CTs 182 [.o (.c (.int .i64 p0))] [.c (.string (Qco p0))] := CT.flat fun w vs hG hA => by
 obtain rfl:=Qxg (us:=[.int .i64 p0]) hA
 exact Q0v p0 h (Gl6 w hG)
def fig (p0:Int):UInt8:=bif decide (p0<10) then u8of (i64.wrap (48+p0)) else u8of (i64.wrap (i64.wrap (97+p0) - 10))
theorem Ylc (p0:Int):Qb1 p0=((fig p0).toNat:Int):=by
 unfold Qb1 fig
 by_cases h:p0<10
 ·simp only[h,decide_true,if_true,cond_true,Q6t]
 ·simp only[h,decide_false,Bool.false_eq_true,if_false,cond_false,Q6t]
theorem Qo2 (p0 : Int) : CTs 224 [.o (.c (.int .i64 p0))] [.c (.int .u8 (fig p0).toNat)] := CT.flat fun w vs hG hA => by
 obtain rfl:=Qxg (us:=[.int .i64 p0]) hA
 rw[←Ylc]
 exact Qlj p0
def Qla (xs:List UInt8):ByteArray:=⟨(Lib.Hx.encode xs).toArray⟩
theorem Yd1 (xs : List UInt8) (hne : xs ≠ []) (h : 2 * xs.length ≤ 281474976710656) : CTs 227 [.o (.sl UInt8 instDatUInt8 xs)] [.c (.string (Qla xs))] := CT.flat fun w vs hG hA => by
 cases vs with
 | nil=>exact hA.elim
 | cons v r =>
  cases r with
  | cons=>exact hA.2.elim
  | nil =>
   obtain⟨A,cap,rfl,h1,h2,h3⟩:=(show SlR (Old w) w v xs from hA.1)
   obtain⟨ad,rfl,hb,hc⟩:=h3 hne
   have hcell : ∀ i (hi : i < xs.length), w.cell? (ad.add i) = some (.int .u8 ((xs[i]'hi).toNat : Int)) := fun i hi => by
    obtain⟨cs,hrd,hcs⟩:=hc i xs[i] (getElem?_eq_getElem hi)
    obtain⟨v,r,rfl,hv,rfl⟩:=(inferInstance:Str UInt8).op hrd
    have h0:=hcs 0 v rfl
    have e1:i*Dat.sz UInt8=i:=Nat.mul_one i
    rw[e1,Addr.add_zero'] at h0
    rw[h0,hv]
    rfl
   obtain⟨bk,o,sp⟩:=ad
   have hsp:sp=none:=by
    have h0:=hcell 0 (List.length_pos_iff.2 hne)
    rw[Addr.add_zero'] at h0
    cases sp with
    | none=>rfl
    | some s =>
     unfold World.cell? at h0
     split at h0
     ·simp at h0
     ·simp at h0
   subst hsp
   refine(Tryz.hex_EncodeToString_bytes bk o cap xs w (fun i hi=>?_) hb h).mono fun e w2 h=>h
   have:=hcell i hi
   have e:(⟨bk,o,none⟩:Addr).add i=⟨bk,o+i,none⟩:=by
    unfold Addr.add
    split<;>simp_all
   rw[e] at this
   exact this
theorem Qbt (s:ByteArray):(Qa7 s).length=s.size:=by unfold Qa7;rw[Array.length_toList];rfl
end
section
theorem Q27 : CTs 254 [.o (.c (.int .i64 0))] [.c (.int .i64 0)] := CT.flat fun w vs hG hA => by
 obtain rfl:=Qxg (us:=[.int .i64 0]) hA
 refine(Tryz.hex_EncodedLen 0 (by omega) (by omega) w).mono fun e w2 h=>?_
 obtain⟨h1,rfl⟩:=h
 exact⟨h1,Below.refl _ _⟩
theorem Yiw:FnOk Tryz.prog 254:=⟨_,Tryz.func254,rfl,by kernel_rfl⟩
theorem Yiv:FnOk Tryz.prog 255:=⟨_,Tryz.func255,rfl,by kernel_rfl⟩
theorem Q6h:CTs 255 [.o (.sl UInt8 instDatUInt8 ([]:List UInt8)),.o (.sl UInt8 instDatUInt8 ([]:List UInt8))] [Re.c (.int .i64 0)]:=by
 refine en Tryz.func255 Tryz.ntmps255 fun w hG hgd=>?_
 refine ad 16 ?_
 refine Run.loopM (ι:=Unit) (T:=()) (fun _=>()) (fun _=>⟨33,1,[(1,.sl 0 0),(9,.v (.int .i64 0)),(10,.v (.int .i64 0))],[(0,.ros UInt8 instDatUInt8 ([]:List UInt8))]⟩) (fun _=>True) (fun _=>0) () [1] [1] rfl trivial su (by decide) ?_
 rintro ⟨⟩ _ _
 refine ad 5 ?_
 refine cd (fun h=>absurd h (show ¬ decide ((0:Int)<0)=true by decide)) (fun h=>?_)
 refine ad 8 ?_
 exact rz (rs:=[.tmp 4]) rfl
theorem Q6i:CTs 227 [.o (.sl UInt8 instDatUInt8 ([]:List UInt8))] [Re.c (.string ⟨#[]⟩)]:=by
 refine en Tryz.func227 Tryz.ntmps227 fun w hG hgd=>?_
 refine ad 8 ?_
 refine op (cl Q27 Yiw) ?_
 refine op (ma 0 (0:UInt8)) ?_
 refine ad 6 ?_
 refine op (cl Q6h Yiv) ?_
 refine ad 4 ?_
 refine op (ts ([]:List UInt8)) ?_
 refine ad 2 ?_
 exact rz (rs:=[.tmp 2]) rfl
theorem Q5y (xs:List UInt8) (h:2*xs.length≤281474976710656):CTs 227 [.o (.sl UInt8 instDatUInt8 xs)] [.c (.string (Qla xs))]:=by
 by_cases hne:xs=[]
 ·subst hne
  exact Q6i
 ·exact Yd1 xs hne h
def atoi (s:ByteArray):Int×Bool:=match Lib.atoiAll s.data.toList with
 | .ok v=>(v,true)
 | .range=>(Lib.atoiSat s.data.toList,false)
 | _=>(0,false)
theorem Yeq (s:ByteArray):I64 (atoi s).1:=by
 unfold atoi
 cases h:Lib.atoiAll s.data.toList with
 | ok v =>
  show I64 v
  unfold Lib.atoiAll at h
  split at h
  ·cases h
  ·simp only at h
   split at h
   ·cases h
   ·cases h
   ·split at h
    ·cases h
    ·split at h
     ·cases h
     ·cases h
      unfold I64
      split<;>omega
 | range =>
  show I64 (Lib.atoiSat s.data.toList)
  unfold Lib.atoiSat I64
  split<;>omega
 | _=>exact(show I64 0 from⟨by decide,by decide⟩)
theorem resE {w w':World} {x u:Value} (hb:Below w.heap.size w w'):ResR (Old w) w w' (.tuple #[x,u]) [.c x,.c u]:=
 ⟨Keep.of_below hb fun _ h=>h,[x,u],[],rfl,⟨[],[],rfl,⟨rfl,rfl⟩,[],[],rfl,⟨rfl,rfl⟩,rfl⟩,List.nodup_nil,fun b hb=>by cases hb⟩
theorem Yh9 (p0 : ByteArray) (hz : p0.size ≤ 281474976710656) : CTEs 243 [.o (.c (.string p0))] (fun u => [.c (.int .i64 (atoi p0).1), .c u]) (atoi p0).2 := fun w vs hG hA => by
 obtain rfl:=Qxg (us:=[.string p0]) hA
 unfold atoi
 cases h:Lib.atoiAll p0.data.toList with
 | ok v =>
  refine(Tryz.strconv_Atoi_ok p0 (by omega) v h w).mono fun e w2 hr=>?_
  obtain⟨rfl,hw⟩:=hr
  refine⟨.nilIface,rfl,_,rfl,resE ?_⟩
  rcases hw with rfl | ⟨t,rfl⟩
  ·exact Below.refl _ _
  ·exact Lib.bytesWorld_below _ _ _
 | range =>
  obtain⟨te,pe,hE⟩:=Gl5 w hG
  refine(Any.strconv_Atoi_range Tryz.laysC172 p0 hz h _ w hE (.inr ⟨te,pe,rfl⟩)).mono fun e w2 hr=>?_
  obtain⟨N,rfl,_,_,hb⟩:=hr
  exact⟨_,⟨_,_,rfl⟩,_,rfl,resE hb⟩
 | _ =>
  obtain⟨te,pe,hE⟩:=Gl4 w hG
  refine(Any.strconv_Atoi_syntax Tryz.laysC172 p0 hz h _ w hE (.inr ⟨te,pe,rfl⟩)).mono fun e w2 hr=>?_
  obtain⟨N,rfl,_,_,hb⟩:=hr
  exact⟨_,⟨_,_,rfl⟩,_,rfl,resE hb⟩
theorem Ycm {n:Nat} (h:(!decide (Int.tmod (n:Int) 2=0))=false):n % 2=0:=by
 have h2:Int.tmod (n:Int) 2=0:=by simpa using h
 have h3:((n % 2:Nat):Int)=0:=by rw[←h2];rfl
 omega
theorem Ybf {α:Type} [Dat α] {w:World} {base T n:Nat} {v:Value} {mk:α→Value} {xs:List α} (hsz:Dat.sz α=1) (ho: ∀ x,x∈xs→Dat.own w [mk x] x []) (h:w.ownsRow base T 1 v n (xs.map mk)) (hn:n=xs.length):
  ∃ F,SlO w v xs F∧F.Nodup∧ ∀ b∈F,base≤b:=by
 subst hn
 obtain⟨hl,h⟩:=h
 rcases h with ⟨rfl,hz⟩ | ⟨g,cap,cur,rfl,hg,hh,h1,h2,h3,h4⟩
 ·exact⟨[],.inl ⟨rfl,List.length_eq_zero_iff.1 hz,rfl⟩,List.nodup_nil,fun b hb=>by cases hb⟩
 ·refine⟨[g],.inr ⟨g,cap,cur,T,List.replicate xs.length [],rfl,hh,h1,h2,by rw[hsz,h3];exact Nat.le_refl _,?_,by simp,fun i x hi=>⟨[],?_,?_⟩⟩,by simp,fun b hb=>by rw[mem_singleton.1 hb];exact hg⟩
  ·have: ∀ n,(List.replicate n ([]:List Nat)).flatten=[]:=by
    intro n
    induction n with
    | zero=>rfl
    | succ n ih=>rw[List.replicate_succ,List.flatten_cons,ih];rfl
   rw[this]
  ·have hlt:=(List.getElem?_eq_some_iff.1 hi).1
   simp[hlt]
  ·have hlt:=(List.getElem?_eq_some_iff.1 hi).1
   have hget:cur.toList[i]?=some (mk x):=by
    have:=congrArg (fun l=>l[i]?) h4
    simp only[getElem?_take,getElem?_map,hi,Option.map_some] at this
    rw[if_pos (by omega)] at this
    exact this
   have e:(cur.toList.drop (i*Dat.sz α)).take (Dat.sz α)=[mk x]:=by
    rw[hsz,Nat.mul_one]
    obtain⟨hi2,hx⟩:=List.getElem?_eq_some_iff.1 hget
    rw[List.drop_eq_getElem_cons hi2,hx]
    rfl
   rw[e]
   exact ho x (List.mem_of_getElem? hi)
def Qh9 (s:ByteArray):List UInt8×Bool:=((Lib.Hx.decode s.data.toList).1,match (Lib.Hx.decode s.data.toList).2 with
 | .ok=>true
 | _=>false)
theorem Yd2 (p0 : ByteArray) (hz : p0.size ≤ 281474976710656) : CTEs 226 [.o (.c (.string p0))] (fun u => [.sl UInt8 instDatUInt8 (Qh9 p0).1, .c u]) (Qh9 p0).2 := fun w vs hG hA => by
 obtain rfl:=Qxg (us:=[.string p0]) hA
 obtain⟨te,pe,hE⟩:=Gl0 w hG
 refine(Tryz.hex_DecodeString_owns p0 w _ hE hz).mono fun e w2 hr=>?_
 obtain⟨v,rfl,hrow,hb⟩:=hr
 obtain⟨F,h1,h2,h3⟩:=Ybf (α:=UInt8) (mk:=fun b=>Value.int .u8 (b.toNat:Int)) rfl (fun x _=>⟨⟨rfl,trivial⟩,rfl⟩) hrow rfl
 refine⟨_,?_,_,rfl,Keep.of_below hb fun _ h=>h,[v,_],F++[],rfl,⟨F,[],rfl,h1,[],[],rfl,⟨rfl,rfl⟩,rfl⟩,by rw[append_nil];exact h2,fun b hbF=>?_⟩
 ·unfold Qh9 Q7x
  cases hd:(Lib.Hx.decode p0.data.toList).2 with
  | ok=>rfl
  | bad c=>exact⟨_,_,rfl⟩
  | odd=>exact⟨_,_,rfl⟩
 ·rw[append_nil] at hbF
  have:=h3 b hbF
  show ¬ b<w.heap.size
  omega
end
section
theorem sb1 {n i:Nat} (h:i<n):n - i=(n - (i+1))+1:=by omega
theorem sb0 {n i:Nat} (h: ¬ i<n):n - i=0:=by omega
theorem dtl {p q:Prop} [Decidable p] (h:decide p=true) (k:p→q:=by intro h;omega):q:=k (of_decide_eq_true h)
theorem dfl {p q:Prop} [Decidable p] (h:decide p=false) (k: ¬ p→q:=by intro h;omega):q:=k (of_decide_eq_false h)
theorem rzI {a b:Int} (h:a=b):([Re.c (.int .i64 a)]:List Re)=[Re.c (.int .i64 b)]:=by rw[h]
theorem rzB {a b:Bool} (h:a=b):([Re.c (.bool a)]:List Re)=[Re.c (.bool b)]:=by rw[h]
theorem Qwe:FnOk Tryz.prog 158:=⟨_,Tryz.func158,rfl,by kernel_rfl⟩
theorem Q2n:FnOk Tryz.prog 174:=⟨_,Tryz.func174,rfl,by kernel_rfl⟩
theorem Yfq:FnOk Tryz.prog 175:=⟨_,Tryz.func175,rfl,by kernel_rfl⟩
theorem Yce:FnOk Tryz.prog 182:=⟨_,Tryz.func182,rfl,by kernel_rfl⟩
theorem Yjb:FnOk Tryz.prog 226:=⟨_,Tryz.func226,rfl,by kernel_rfl⟩
theorem Yff:FnOk Tryz.prog 227:=⟨_,Tryz.func227,rfl,by kernel_rfl⟩
theorem Yi1:FnOk Tryz.prog 243:=⟨_,Tryz.func243,rfl,by kernel_rfl⟩
def Qct (p0:ByteArray):Int×Bool:=bif ((!((atoi p0).2))||(!(Qcd ((atoi p0).1) 0 1000000000)))||(!decide ((Qco ((atoi p0).1))=p0)) then(0,false) else((atoi p0).1,true)
theorem Qtt (p0:ByteArray) (hq:p0.size≤281474976710656):CTs 218 [.o (.c (.string p0))] [Re.c (.int .i64 ((Qct p0).1)),Re.c (.bool ((Qct p0).2))]:=by
 refine en Tryz.func218 Tryz.ntmps218 fun w hG hgd=>?_
 have hM:=Qct.eq_1 p0
 refine ad 8 ?_
 refine ce (Yh9 p0 lv5) Yi1 fun u1 hu1=>?_
 refine ad 10 ?_
 refine op (er hu1) ?_
 refine ad 1 ?_
 refine ag 1 ?_
 refine op (cG (hct:=fun hB=>(Qha ((atoi p0).1) 0 1000000000)) (hfn:=Qwe)) ?_
 refine ag 2 ?_
 refine ad 1 ?_
 refine ag 1 ?_
 refine op (cG (hct:=fun hB=>(Qnh ((atoi p0).1) (Yeq _))) (hfn:=Yce)) ?_
 refine ag 3 ?_
 refine ad 1 ?_
 refine cd (fun h2=>?_) (fun h2=>?_)
 ·
  have hM:=hM.trans (bt h2)
  refine ad 5 ?_
  exact rz (rs:=[.tmp 2,.tmp 3]) (congrArg (fun x=>[Re.c (.int .i64 x.1),Re.c (.bool x.2)]) hM)
 ·
  have hM:=hM.trans (bf h2)
  have th2_1:=Qhy (by have hq:=(Bool.or_eq_false_iff.1 (Bool.or_eq_false_iff.1 h2).1).2;simpa using hq)
  refine ad 7 ?_
  exact rz (rs:=[.tmp 2,.tmp 3]) (congrArg (fun x=>[Re.c (.int .i64 x.1),Re.c (.bool x.2)]) hM)
def Qcc (p0:ByteArray):Nat→Int→Nat→Int×Bool
 | 0,v4,i=>bif (decide (v4>1000000000))||(!decide ((Qb5 v4)=p0)) then(0,false) else(v4,true)
 | n+1,v4,i=>bif (decide (((Qav p0 i).toNat:Int)<48))||(decide (((Qav p0 i).toNat:Int)>57)) then(0,false) else(Qcc p0 n (i64.wrap ((i64.wrap ((i64.wrap (10*v4))+(i64.wrap ((Qav p0 i).toNat:Int)))) - 48)) (i+1))
def Qa5 (p0:ByteArray):Int×Bool:=bif decide ((p0.size:Int)>10) then(0,false) else(Qcc p0 (p0.size - 0) 0 0)
theorem Qtj (p0:ByteArray) (hz_p0:p0.size≤9223372036854775807):CTs 173 [.o (.c (.string p0))] [Re.c (.int .i64 ((Qa5 p0).1)),Re.c (.bool ((Qa5 p0).2))]:=by
 refine en Tryz.func173 Tryz.ntmps173 fun w hG hgd=>?_
 have hM:=Qa5.eq_1 p0
 refine ad 12 ?_
 refine cd (fun h1=>?_) (fun h1=>?_)
 ·
  have hM:=hM.trans (bt h1)
  refine ad 5 ?_
  exact rz (rs:=[.tmp 2,.tmp 3]) (congrArg (fun x=>[Re.c (.int .i64 x.1),Re.c (.bool x.2)]) hM)
 ·
  have hM:=hM.trans (bf h1)
  refine ad 11 ?_
  refine Run.loopM (ι:=Int×Nat) (fun s=>Qcc p0 (p0.size - s.2) s.1 s.2) (fun s=>⟨42,0,[(0,.v (.string p0)),(4,.v (.int .i64 s.1)),(5,.v (.int .i64 (s.2:Int)))],[]⟩) (fun s=>s.2≤p0.size∧I64 s.1) (fun s=>p0.size - s.2) (0,0) [] [] hM (by exact⟨by(try dsimp only);first | omega | exact trivial,(gi 0)⟩) su (by decide) ?_
  rintro ⟨v4,i⟩ hv hE
  try dsimp only at hE
  obtain⟨hi,hg_v4⟩:=hv
  try dsimp only at hi hg_v4
  refine ad 8 ?_
  refine cd (fun h2=>?_) (fun h2=>?_)
  ·
   have h2l:i<p0.size:=dtl h2
   have hM:=hE.trans ((congrArg (fun n=>Qcc p0 n v4 i) (sb1 h2l)).trans (Qcc.eq_2 _ _ _ _))
   refine ad 8 ?_
   refine op (sx (s:=p0) i om) ?_
   refine ad 2 ?_
   refine ag 2 ?_
   refine op (sG (s:=p0) i (hk:=fun hB=>by(try simp at hB);omega)) ?_
   refine ag 2 ?_
   refine ad 1 ?_
   refine cd (fun h3=>?_) (fun h3=>?_)
   ·
    have hM:=hM.trans (bt h3)
    refine ad 5 ?_
    exact rz (rs:=[.tmp 2,.tmp 3]) (congrArg (fun x=>[Re.c (.int .i64 x.1),Re.c (.bool x.2)]) hM)
   ·
    have hM:=hM.trans (bf h3)
    refine ad 6 ?_
    refine op (sx (s:=p0) i om) ?_
    refine ad 9 ?_
    rw[Qb3 (i:=i) om]
    refine ad 2 ?_
    exact Run.again (i64.wrap ((i64.wrap ((i64.wrap (10*v4))+(i64.wrap ((Qav p0 i).toNat:Int)))) - 48),(i+1)) [] [] ⟨by exact⟨by(try dsimp only);first | omega | exact trivial,(Qk0 _)⟩,hM⟩ rfl lv1 su (by decide)
  ·
   have h2l: ¬ (i<p0.size):=dfl h2
   have hM:=hE.trans ((congrArg (fun n=>Qcc p0 n v4 i) (sb0 h2l)).trans (Qcc.eq_1 _ _ _))
   refine ad 7 ?_
   refine ag 1 ?_
   refine op (cG (hct:=fun hB=>(Qh6 v4 hg_v4)) (hfn:=Q2n)) ?_
   refine ag 3 ?_
   refine ad 1 ?_
   refine cd (fun h4=>?_) (fun h4=>?_)
   ·
    have hM:=hM.trans (bt h4)
    refine ad 5 ?_
    exact rz (rs:=[.tmp 2,.tmp 3]) (congrArg (fun x=>[Re.c (.int .i64 x.1),Re.c (.bool x.2)]) hM)
   ·
    have hM:=hM.trans (bf h4)
    refine ad 7 ?_
    exact rz (rs:=[.tmp 2,.tmp 3]) (congrArg (fun x=>[Re.c (.int .i64 x.1),Re.c (.bool x.2)]) hM)
def Qed (p0:ByteArray):ByteArray×Bool:=bif ((!((Qh9 p0).2))||(decide ((((Qh9 p0).1).length:Int)>20000)))||(!decide ((Qla ((Qh9 p0).1))=p0)) then(⟨#[]⟩,false) else(bstr ((Qh9 p0).1),true)
theorem Qwk (p0:ByteArray) (hq:p0.size≤281474976710656):CTs 180 [.o (.c (.string p0))] [Re.c (.string ((Qed p0).1)),Re.c (.bool ((Qed p0).2))]:=by
 refine en Tryz.func180 Tryz.ntmps180 fun w hG hgd=>?_
 have hM:=Qed.eq_1 p0
 refine ad 8 ?_
 refine ce (Yd2 p0 lv5) Yjb fun u1 hu1=>?_
 refine ad 10 ?_
 refine op (er hu1) ?_
 refine ad 1 ?_
 refine ag 4 ?_
 refine ad 1 ?_
 refine ag 1 ?_
 refine op (cG (hct:=fun hB=>(Q5y ((Qh9 p0).1) (by first | (rw[Qbt];exact om) | (simp at hB;omega)))) (hfn:=Yff)) ?_
 refine ag 3 ?_
 refine ad 1 ?_
 refine cd (fun h2=>?_) (fun h2=>?_)
 ·
  have hM:=hM.trans (bt h2)
  refine ad 5 ?_
  exact rz (rs:=[.tmp 2,.tmp 3]) (congrArg (fun x=>[Re.c (.string x.1),Re.c (.bool x.2)]) hM)
 ·
  have hM:=hM.trans (bf h2)
  refine ad 4 ?_
  refine op (ts ((Qh9 p0).1)) ?_
  refine ad 3 ?_
  exact rz (rs:=[.tmp 2,.tmp 3]) (congrArg (fun x=>[Re.c (.string x.1),Re.c (.bool x.2)]) hM)
theorem Qpz (p0:ByteArray):(Qed p0).1.size≤maxLen:=by
 unfold Qed
 cases hc:(((!((Qh9 p0).2))||(decide ((((Qh9 p0).1).length:Int)>20000)))||(!decide ((Qla ((Qh9 p0).1))=p0))) with
 | true=>exact Nat.zero_le _
 | false =>
  have h1:=(Bool.or_eq_false_iff.1 (Bool.or_eq_false_iff.1 hc).1).2
  have h2:(Qh9 p0).1.length≤20000:=by simp at h1;omega
  show((Qh9 p0).1.toArray).size≤maxLen
  rw[size_toArray]
  unfold maxLen
  omega
def Qau (p0:UInt8):Int:=bif (decide ((p0.toNat:Int)≥48))&&(decide ((p0.toNat:Int)≤57)) then(i64.wrap ((i64.wrap (p0.toNat:Int)) - 48)) else(bif (decide ((p0.toNat:Int)≥97))&&(decide ((p0.toNat:Int)≤102)) then(i64.wrap ((i64.wrap ((i64.wrap (p0.toNat:Int)) - 97))+10)) else(-1))
theorem Qp8 (p0:UInt8):CTs 175 [.o (.c (.int .u8 p0.toNat))] [Re.c (.int .i64 (Qau p0))]:=by
 refine en Tryz.func175 Tryz.ntmps175 fun w hG hgd=>?_
 have hM:=Qau.eq_1 p0
 refine ad 10 ?_
 refine ag 3 ?_
 refine ad 1 ?_
 refine cd (fun h1=>?_) (fun h1=>?_)
 ·
  have hM:=hM.trans (bt h1)
  refine ad 7 ?_
  exact rz (rs:=[.tmp 2]) (rzI hM)
 ·
  have hM:=hM.trans (bf h1)
  refine ad 7 ?_
  refine ag 3 ?_
  refine ad 1 ?_
  refine cd (fun h2=>?_) (fun h2=>?_)
  ·
   have hM:=hM.trans (bt h2)
   refine ad 8 ?_
   exact rz (rs:=[.tmp 2]) (rzI hM)
  ·
   have hM:=hM.trans (bf h2)
   refine ad 5 ?_
   exact rz (rs:=[.tmp 2]) (rzI hM)
def Qdq (p0:ByteArray) (k_1:(List UInt8)→(ByteArray×Bool)):Nat→(List UInt8)→Nat→ByteArray×Bool
 | 0,v4_1,i_1=>k_1 v4_1
 | n_1+1,v4_1,i_1=>bif decide ((i_1:Int)<(p0.size:Int)) then(bif (decide ((Qau (Qav p0 i_1))<0))||(decide ((Qau (Qav p0 (i_1+1)))<0)) then(⟨#[]⟩,false) else(Qdq p0 k_1 n_1 (v4_1++[u8of (i64.wrap ((i64.wrap (16*(Qau (Qav p0 i_1))))+(Qau (Qav p0 (i_1+1)))))]) (i_1+2))) else(k_1 v4_1)
theorem Qx0 (p0:ByteArray) (k_1:(List UInt8)→(ByteArray×Bool)) (fu:Nat) (v4_1:List UInt8) (i_1:Nat) (h:(decide ((i_1:Int)<(p0.size:Int)))=false):Qdq p0 k_1 fu v4_1 i_1=k_1 v4_1:=by
 cases fu with
 | zero=>rfl
 | succ n=>exact(bf h)
def Qgs (p0:ByteArray):ByteArray×Bool:=bif (decide ((p0.size:Int)>40000))||(!decide ((Int.tmod (p0.size:Int) 2)=0)) then(⟨#[]⟩,false) else(Qdq p0 (fun e=>(bstr e,true)) (p0.size - 0) ([]:List UInt8) 0)
theorem Qwh (p0:ByteArray):CTs 106 [.o (.c (.string p0))] [Re.c (.string ((Qgs p0).1)),Re.c (.bool ((Qgs p0).2))]:=by
 refine en Tryz.func106 Tryz.ntmps106 fun w hG hgd=>?_
 have hM:=Qgs.eq_1 p0
 refine ad 12 ?_
 refine ag 2 ?_
 refine op (rG) ?_
 refine ag 2 ?_
 refine ad 1 ?_
 refine cd (fun h1=>?_) (fun h1=>?_)
 ·
  have hM:=hM.trans (bt h1)
  refine ad 5 ?_
  exact rz (rs:=[.tmp 2,.tmp 3]) (congrArg (fun x=>[Re.c (.string x.1),Re.c (.bool x.2)]) hM)
 ·
  have hM:=hM.trans (bf h1)
  refine ad 3 ?_
  refine op (l0) ?_
  refine ad 8 ?_
  have he:p0.size % 2=0:=Ycm (Bool.or_eq_false_iff.1 h1).2
  have hsz:p0.size≤40000:=by have:=(Bool.or_eq_false_iff.1 h1).1;simp at this;omega
  refine li 0 (d:=instDatUInt8) ([]:List UInt8) ?_
  refine Run.loopkM (ι:=Nat×(List UInt8)×Nat) (κ:=(List UInt8)) (fun k s=>Qdq p0 k s.1 s.2.1 s.2.2) (fun s=>⟨49,1,[(0,.v (.string p0)),(4,.sl 0 s.2.1.length),(5,.v (.int .i64 (s.2.2:Int)))],[(0,.own UInt8 instDatUInt8 s.2.1)]⟩) (fun s=>p0.size - s.2.2≤s.1∧s.2.2 % 2=0∧s.2.2≤p0.size∧s.2.1.length≤s.2.2) (fun s=>s.1) (fun e=>⟨49,1,[(4,.sl 0 e.length)],[(0,.own UInt8 instDatUInt8 e)]⟩) (fun e=>True) (p0.size - 0,([]:List UInt8),0) [0] [0] hM (by refine⟨by(try dsimp only);omega,rfl,by(try dsimp only);omega,by simp⟩) su (by decide) ?_ ?_
  ·
   rintro ev4_1 hv hM
   try dsimp only at hM hv ⊢
   refine ad 3 ?_
   refine op (ts ev4_1) ?_
   refine ad 3 ?_
   exact rz (rs:=[.tmp 2,.tmp 3]) (congrArg (fun x=>[Re.c (.string x.1),Re.c (.bool x.2)]) hM)
  ·
   intro k_1 hk_1
   rintro ⟨fu_1,v4_1,i_1⟩ hv_1 hE
   try dsimp only at hE
   obtain⟨hi_1,hv_1_0,hv_1_1,hv_1_2⟩:=hv_1
   try dsimp only at hi_1 hv_1_0 hv_1_1 hv_1_2
   refine ad 8 ?_
   refine cd (fun h2=>?_) (fun h2=>?_)
   ·
    obtain⟨n_1,rfl⟩: ∃ n,fu_1=n+1:=⟨fu_1 - 1,by have:=h2;have:=om (p:=0<p0.size - i_1);omega⟩
    have hM:=hE.trans ((Qdq.eq_2 _ _ _ _ _).trans (bt h2))
    refine ad 7 ?_
    refine op (sx (s:=p0) i_1 om) ?_
    refine op (cl (Qp8 (Qav p0 i_1)) Yfq) ?_
    refine ad 7 ?_
    rw[Qb3 (i:=i_1) om]
    refine op (sx (s:=p0) (i_1+1) om) ?_
    refine op (cl (Qp8 (Qav p0 (i_1+1))) Yfq) ?_
    refine ad 8 ?_
    refine ag 3 ?_
    refine ad 1 ?_
    refine cd (fun h3=>?_) (fun h3=>?_)
    ·
     have hM:=hM.trans (bt h3)
     refine ad 5 ?_
     exact rz (rs:=[.tmp 2,.tmp 3]) (congrArg (fun x=>[Re.c (.string x.1),Re.c (.bool x.2)]) hM)
    ·
     have hM:=hM.trans (bf h3)
     refine ad 9 ?_
     refine op (ap [u8of (IntKind.i64.wrap ((IntKind.i64.wrap (16*(Qau (Qav p0 i_1))))+(Qau (Qav p0 (i_1+1)))))] (hg:=gdt) (hb:=by simp only[List.length_cons,List.length_nil];first | omega | exact om)) ?_
     refine ad 6 ?_
     rw[Yhu (i:=i_1) om]
     refine ad 2 ?_
     exact Run.again (n_1,(v4_1++[u8of (i64.wrap ((i64.wrap (16*(Qau (Qav p0 i_1))))+(Qau (Qav p0 (i_1+1)))))]),(i_1+2)) [2] [1] ⟨by refine⟨by(try dsimp only);omega,by(try dsimp only);omega,by(try dsimp only);first | omega | exact om,by simp only[length_append,length_cons,length_nil];omega⟩,hM⟩ rfl (by exact Nat.lt_succ_self _) su (by decide)
   ·
    have hM:=hE.trans (Qx0 p0 k_1 fu_1 v4_1 i_1 h2)
    refine ad 1 ?_
    exact Run.exitkM hk_1 v4_1 [0] [0] hM (by trivial) su (by decide)
theorem Qt1 (p0:ByteArray): ∀ fu v i,((Qdq p0 (fun e=>(bstr e,true)) fu v i).1).size≤v.length+fu:=by
 intro fu
 induction fu with
 | zero =>
  intro v i
  show(v.toArray).size≤_
  rw[size_toArray]
  omega
 | succ n ih =>
  intro v i
  rw[Qdq]
  cases(decide ((i:Int)<(p0.size:Int)))
  ·show(v.toArray).size≤_
   rw[size_toArray]
   omega
  ·show(bif _ then _ else _:ByteArray×Bool).1.size≤_
   cases(decide ((Qau (Qav p0 i))<0))||(decide ((Qau (Qav p0 (i+1)))<0))
   ·refine Nat.le_trans (ih _ _) ?_
    simp only[length_append,length_cons,length_nil]
    omega
   ·exact Nat.zero_le _
theorem Qpm (p0:ByteArray):(Qgs p0).1.size≤maxLen:=by
 unfold Qgs
 cases hc:(decide ((p0.size:Int)>40000))||(!decide (Int.tmod (p0.size:Int) 2=0)) with
 | true=>exact Nat.zero_le _
 | false =>
  have h1:=(Bool.or_eq_false_iff.1 hc).1
  have h2:p0.size≤40000:=by simp at h1;omega
  have:=Qt1 p0 (p0.size - 0) [] 0
  rw[length_nil] at this
  show((Qdq p0 (fun e=>(bstr e,true)) (p0.size - 0) [] 0).1).size≤maxLen
  unfold maxLen
  omega
def Qci (p0:List ByteArray) (p1:List ByteArray):Nat→Nat→Bool
 | 0,i=>true
 | n+1,i=>bif !decide ((nth p0 i)=(nth p1 i)) then false else(Qci p0 p1 n (i+1))
def Qe0 (p0:List ByteArray) (p1:List ByteArray):Bool:=bif !decide ((p0.length:Int)=(p1.length:Int)) then false else(Qci p0 p1 (p0.length - 0) 0)
theorem Qim (p0:List ByteArray) (p1:List ByteArray):CTs 99 [.o (.sl ByteArray instDatByteArray p0),.o (.sl ByteArray instDatByteArray p1)] [Re.c (.bool (Qe0 p0 p1))]:=by
 refine en Tryz.func99 Tryz.ntmps99 fun w hG hgd=>?_
 obtain⟨hg_p0,hg_p1,_⟩:=hgd
 have hl_p0:p0.length≤9223372036854775807:=hg_p0.1
 have hl_p1:p1.length≤9223372036854775807:=hg_p1.1
 have hM:=Qe0.eq_1 p0 p1
 refine ad 13 ?_
 refine cd (fun h1=>?_) (fun h1=>?_)
 ·
  have hM:=hM.trans (bt h1)
  refine ad 4 ?_
  exact rz (rs:=[.tmp 4]) (rzB hM)
 ·
  have hM:=hM.trans (bf h1)
  refine ad 9 ?_
  refine Run.loopM (ι:=Nat) (fun s=>Qci p0 p1 (p0.length - s) s) (fun s=>⟨26,2,[(0,.sl 0 p0.length),(1,.sl 1 p1.length),(12,.v (.int .i64 (p0.length:Int))),(13,.v (.int .i64 (s:Int)))],[(0,.ros ByteArray instDatByteArray p0),(1,.ros ByteArray instDatByteArray p1)]⟩) (fun s=>s≤p0.length) (fun s=>p0.length - s) 0 [0,1] [0,1] hM lv0 su (by decide) ?_
  rintro i hv hE
  try dsimp only at hE
  have hi:=hv
  try dsimp only at hi
  refine ad 5 ?_
  refine cd (fun h2=>?_) (fun h2=>?_)
  ·
   have h2l:i<p0.length:=dtl h2
   have hM:=hE.trans ((congrArg (fun n=>Qci p0 p1 n i) (sb1 h2l)).trans (Qci.eq_2 _ _ _ _))
   refine ad 9 ?_
   refine dr 9 fun _ _ _ _ _ hb=>?_
   refine tk [0,1] ?_
   have hg3:=Qai (k:=i) hg_p0 om
   refine tx 2 (dx (xs:=p0) i om) ?_
   refine tk [3,4,5] ?_
   have hg4:=Qai (k:=i) hg_p1 om
   refine tx 6 (dx (xs:=p1) i om) ?_
   refine tk [7,8] ?_
   refine dn hb ?_
   refine cd (fun h5=>?_) (fun h5=>?_)
   ·
    have hM:=hM.trans (bt h5)
    refine ad 4 ?_
    exact rz (rs:=[.tmp 4]) (rzB hM)
   ·
    have hM:=hM.trans (bf h5)
    refine ad 4 ?_
    rw[Qb3 (i:=i) om]
    refine ad 2 ?_
    exact Run.again (i+1) [0,1] [2,3] ⟨by first | omega | exact trivial | (dsimp only;omega) | (refine⟨by omega,?_⟩;simp_all;try omega),hM⟩ rfl lv1 su (by decide)
  ·
   have h2l: ¬ (i<p0.length):=dfl h2
   have hM:=hE.trans ((congrArg (fun n=>Qci p0 p1 n i) (sb0 h2l)).trans (Qci.eq_1 _ _ _))
   refine ad 5 ?_
   exact rz (rs:=[.tmp 4]) (rzB hM)
def Qfa (p0:List ByteArray) (p1:List ByteArray):Nat→Nat→Bool
 | 0,i=>true
 | n+1,i=>bif !decide ((nth p0 i)=(nth p1 i)) then false else(Qfa p0 p1 n (i+1))
def Qib (p0:List ByteArray) (p1:List ByteArray):Bool:=bif !decide ((p0.length:Int)=(p1.length:Int)) then false else(Qfa p0 p1 (p0.length - 0) 0)
theorem Qnk (p0:List ByteArray) (p1:List ByteArray):CTs 98 [.o (.sl ByteArray instDatByteArray p0),.o (.sl ByteArray instDatByteArray p1)] [Re.c (.bool (Qib p0 p1))]:=by
 refine en Tryz.func98 Tryz.ntmps98 fun w hG hgd=>?_
 obtain⟨hg_p0,hg_p1,_⟩:=hgd
 have hl_p0:p0.length≤9223372036854775807:=hg_p0.1
 have hl_p1:p1.length≤9223372036854775807:=hg_p1.1
 have hM:=Qib.eq_1 p0 p1
 refine ad 13 ?_
 refine cd (fun h1=>?_) (fun h1=>?_)
 ·
  have hM:=hM.trans (bt h1)
  refine ad 4 ?_
  exact rz (rs:=[.tmp 4]) (rzB hM)
 ·
  have hM:=hM.trans (bf h1)
  refine ad 7 ?_
  refine Run.loopM (ι:=Nat) (fun s=>Qfa p0 p1 (p0.length - s) s) (fun s=>⟨26,2,[(0,.sl 0 p0.length),(1,.sl 1 p1.length),(5,.v (.int .i64 (s:Int)))],[(0,.ros ByteArray instDatByteArray p0),(1,.ros ByteArray instDatByteArray p1)]⟩) (fun s=>s≤p0.length) (fun s=>p0.length - s) 0 [0,1] [0,1] hM lv0 su (by decide) ?_
  rintro i hv hE
  try dsimp only at hE
  have hi:=hv
  try dsimp only at hi
  refine ad 8 ?_
  refine cd (fun h2=>?_) (fun h2=>?_)
  ·
   have h2l:i<p0.length:=dtl h2
   have hM:=hE.trans ((congrArg (fun n=>Qfa p0 p1 n i) (sb1 h2l)).trans (Qfa.eq_2 _ _ _ _))
   refine ad 4 ?_
   refine dr 9 fun _ _ _ _ _ hb=>?_
   refine tk [0,1] ?_
   have hg3:=Qai (k:=i) hg_p0 om
   refine tx 2 (dx (xs:=p0) i om) ?_
   refine tk [3,4,5] ?_
   have hg4:=Qai (k:=i) hg_p1 om
   refine tx 6 (dx (xs:=p1) i om) ?_
   refine tk [7,8] ?_
   refine dn hb ?_
   refine cd (fun h5=>?_) (fun h5=>?_)
   ·
    have hM:=hM.trans (bt h5)
    refine ad 4 ?_
    exact rz (rs:=[.tmp 4]) (rzB hM)
   ·
    have hM:=hM.trans (bf h5)
    refine ad 5 ?_
    rw[Qb3 (i:=i) om]
    refine ad 2 ?_
    exact Run.again (i+1) [0,1] [2,3] ⟨by first | omega | exact trivial | (dsimp only;omega) | (refine⟨by omega,?_⟩;simp_all;try omega),hM⟩ rfl lv1 su (by decide)
  ·
   have h2l: ¬ (i<p0.length):=dfl h2
   have hM:=hE.trans ((congrArg (fun n=>Qfa p0 p1 n i) (sb0 h2l)).trans (Qfa.eq_1 _ _ _))
   refine ad 5 ?_
   exact rz (rs:=[.tmp 4]) (rzB hM)
end
section
theorem Q5p {s:ByteArray} {i:Nat} (h:i<(Qa7 s).length):(Qa7 s)[i]=Qav s i:=by
 have h':i<s.data.size:=by rw[Qbt] at h;exact h
 unfold Qav
 rw[Array.getD_eq_getD_getElem?,Array.getElem?_eq_getElem h']
 simp[Qa7]
theorem Qoq (xs:List UInt8):(Qla xs).size=2*xs.length:=by
 show((Lib.Hx.encode xs).toArray).size=_
 rw[size_toArray,Lib.Hx.encode_length]
theorem Qyr (p0:ByteArray) {i:Nat} (hi:i<p0.size):(Qa7 p0).drop i=Qav p0 i::(Qa7 p0).drop (i+1):=by
 have h:i<(Qa7 p0).length:=by rw[Qbt];exact hi
 rw[List.drop_eq_getElem_cons h,Q5p h]
theorem Qyt : ∀ (l m : List UInt8) (a : Nat), Lib.decFrom a (l ++ m) = (Lib.decFrom a l).bind fun n => Lib.decFrom n m
 | [],m,a=>by simp[Lib.decFrom]
 | b :: l, m, a => by
  simp only[List.cons_append,Lib.decFrom]
  cases Lib.digitVal b with
  | none=>rfl
  | some d=>exact Qyt l m _
theorem Qq4 {d:Nat} (h:d<10):Lib.digitVal (UInt8.ofNat (48+d))=some d:=by
 have key: ∀ n:Fin 10,Lib.digitVal (UInt8.ofNat (48+n.val))=some n.val:=by decide +kernel
 exact key ⟨d,h⟩
theorem Qz6: ∀ u:Nat,Lib.decFrom 0 (Lib.decDigits u)=some u:=by
 intro u
 induction u using Nat.strongRecOn with
 | _ u ih =>
  rw[Lib.decDigits]
  split
  ·rename_i h
   simp only[Lib.decFrom,Qq4 h]
   simp
  ·rename_i h
   rw[Qyt,ih (u / 10) (by omega)]
   simp only[Option.bind_some,Lib.decFrom,Qq4 (show u % 10<10 by omega)]
   congr 1
   omega
theorem Yac: ∀ (k u:Nat),u<10 ^ (k+1)→Lib.nDigits u≤k+1:=by
 intro k
 induction k with
 | zero=>intro u h;rw[Lib.nDigits_small (by omega)];omega
 | succ k ih =>
  intro u h
  by_cases h10:u<10
  ·rw[Lib.nDigits_small h10];omega
  ·rw[Lib.nDigits_big h10]
   have:=ih (u / 10) (by rw[Nat.pow_succ] at h;omega)
   omega
theorem Q3g (u:Nat):Qa7 (Qco (u:Int))=Lib.decDigits u:=by
 show((Lib.itoa (u:Int)).toArray).toList=_
 rw[List.toList_toArray,Lib.itoa_nonneg]
theorem Yeh {u:Nat} (h:u≤1000000000):(Qco (u:Int)).size≤10:=by
 rw[←Qbt,Q3g,Lib.decDigits_length]
 exact Yac 9 u (by omega)
theorem Q7o (p0:ByteArray) {i:Nat} (hi:i<p0.size):(Qa7 p0).drop i=Qav p0 i::(Qa7 p0).drop (i+1):=Qyr p0 hi
def finD (p0:ByteArray) (m:Nat):Int×Bool:=bif (decide ((m:Int)>1000000000))||(!decide ((Qco (m:Int))=p0)) then(0,false) else((m:Int),true)
theorem Q6w (p0:ByteArray) (hs:p0.size≤10): ∀ n i (v:Nat),i+n=p0.size→v<10 ^ i→Qcc p0 n (v:Int) i=match Lib.decFrom v ((Qa7 p0).drop i) with
  | some m=>finD p0 m
  | none=>(0,false):=by
 intro n
 induction n with
 | zero =>
  intro i v h hv
  have hp:10 ^ i≤10 ^ 10:=Nat.pow_le_pow_right (by omega) (by omega)
  rw[List.drop_eq_nil_of_le (by rw[Qbt];omega)]
  show Qcc p0 0 (v:Int) i=finD p0 v
  rw[Qcc,Qlf (p0:=(v:Int)) (by unfold I64;omega)]
  rfl
 | succ n ih =>
  intro i v h hv
  have hlt:i<p0.size:=by omega
  have hp:10 ^ i≤10 ^ 9:=Nat.pow_le_pow_right (by omega) (by omega)
  rw[Qcc,Q7o p0 hlt,Lib.decFrom]
  have hb:=(Qav p0 i).toNat_lt
  by_cases hd:48≤(Qav p0 i).toNat∧(Qav p0 i).toNat≤57
  ·rw[decide_eq_false (show ¬ ((Qav p0 i).toNat:Int)<48 by omega),decide_eq_false (show ¬ ((Qav p0 i).toNat:Int)>57 by omega)]
   have hdv:Lib.digitVal (Qav p0 i)=some ((Qav p0 i).toNat - 48):=by
    have key: ∀ k:Fin 256,48≤k.val→k.val≤57→Lib.digitVal (UInt8.ofNat k.val)=some (k.val - 48):=by decide +kernel
    have:=key ⟨(Qav p0 i).toNat,hb⟩ hd.1 hd.2
    simpa using this
   rw[hdv]
   simp only[Bool.or_self,cond_false]
   rw[IntWalk.i64_in (10*(v:Int)) (by omega),IntWalk.i64_in ((Qav p0 i).toNat:Int) (by omega),IntWalk.i64_in (10*(v:Int)+((Qav p0 i).toNat:Int)) (by omega),IntWalk.i64_in (10*(v:Int)+((Qav p0 i).toNat:Int) - 48) (by omega)]
   have e:(10*(v:Int)+((Qav p0 i).toNat:Int) - 48)=((v*10+((Qav p0 i).toNat - 48):Nat):Int):=by omega
   rw[e]
   exact ih (i+1) _ (by omega) (by rw[Nat.pow_succ];omega)
  ·have hdv:Lib.digitVal (Qav p0 i)=none:=by
    have key: ∀ k:Fin 256,¬ (48≤k.val∧k.val≤57)→Lib.digitVal (UInt8.ofNat k.val)=none:=by decide +kernel
    have:=key ⟨(Qav p0 i).toNat,hb⟩ hd
    simpa using this
   rw[hdv]
   have:((decide (((Qav p0 i).toNat:Int)<48))||(decide (((Qav p0 i).toNat:Int)>57)))=true:=by
    rcases Nat.lt_or_ge (Qav p0 i).toNat 48 with h1 | h1
    ·rw[decide_eq_true (show((Qav p0 i).toNat:Int)<48 by omega)]
     rfl
    ·rw[decide_eq_true (show((Qav p0 i).toNat:Int)>57 by omega),Bool.or_true]
   rw[this]
   rfl
theorem Ydm (p0:ByteArray) (hs:p0.size≤10):Qa5 p0=match Lib.decFrom 0 (Qa7 p0) with
  | some m=>finD p0 m
  | none=>(0,false):=by
 unfold Qa5
 rw[decide_eq_false (show ¬ (p0.size:Int)>10 by omega)]
 exact Q6w p0 hs (p0.size - 0) 0 0 (by omega) (by decide)
def finI (p0:ByteArray) (n:Int):Int×Bool:=bif (!(Qcd n 0 1000000000))||(!decide ((Qco n)=p0)) then(0,false) else(n,true)
theorem Yd7 (p0 : ByteArray) : Qct p0 = bif (atoi p0).2 then finI p0 (atoi p0).1 else (0, false) := by
 unfold Qct finI
 cases(atoi p0).2 with
 | true=>simp only[Bool.not_true,Bool.false_or,cond_true]
 | false=>simp only[Bool.not_false,Bool.true_or,cond_true,cond_false]
theorem Yee (p0:ByteArray) (m:Nat):finI p0 (m:Int)=finD p0 m:=by
 unfold finI finD
 by_cases h:m≤1000000000
 ·have h1:Qcd (m:Int) 0 1000000000=true:=by
   unfold Qcd
   simp
   omega
  rw[h1,decide_eq_false (show ¬ (m:Int)>1000000000 by omega)]
  rfl
 ·have h1:Qcd (m:Int) 0 1000000000=false:=by
   cases hw:Qcd (m:Int) 0 1000000000 with
   | false=>rfl
   | true=>exact absurd (Qhy hw) (by omega)
  rw[h1,decide_eq_true (show(m:Int)>1000000000 by omega)]
  rfl
theorem Q3b (p0:ByteArray) (n:Int) (h: ∀ m:Nat,m≤1000000000→Qco (m:Int)≠p0):finI p0 n=(0,false):=by
 unfold finI
 cases hw:Qcd n 0 1000000000 with
 | false=>rfl
 | true =>
  have hb:=Qhy hw
  obtain⟨m,rfl⟩: ∃ m:Nat,n=(m:Int):=⟨n.toNat,by omega⟩
  rw[decide_eq_false (h m (by omega))]
  rfl
theorem Qpc (p0:ByteArray):Qct p0=Qa5 p0:=by
 rw[Yd7]
 by_cases hs:p0.size≤10
 ·rw[Ydm p0 hs]
  have hl:(Qa7 p0).length≤18:=by rw[Qbt];omega
  have ha:Lib.atoiAll p0.data.toList=Lib.NumEnd.ofOption (Lib.atoi p0.data.toList):=Lib.atoiAll_short _ hl
  have hno : Lib.decFrom 0 (Qa7 p0) = none → ∀ m : Nat, m ≤ 1000000000 → Qco (m : Int) ≠ p0 := fun hn m _ e => by
   rw[←e,Q3g,Qz6] at hn
   cases hn
  unfold atoi
  rw[ha]
  show(bif (match Lib.NumEnd.ofOption (Lib.atoi (Qa7 p0)) with | .ok v=>(v,true) | .range=>(Lib.atoiSat p0.data.toList,false) | _=>(0,false)).2 then finI p0 (match Lib.NumEnd.ofOption (Lib.atoi (Qa7 p0)) with | .ok v=>(v,true) | .range=>(Lib.atoiSat p0.data.toList,false) | _=>(0,false)).1 else(0,false))=_
  cases hc:Qa7 p0 with
  | nil =>
   show(0,false)=finD p0 0
   have : Qco ((0 : Nat) : Int) ≠ p0 := fun e => by
    rw[←e,Q3g,Lib.decDigits_one (by omega)] at hc
    cases hc
   unfold finD
   rw[decide_eq_false this]
   rfl
  | cons b r =>
   rw[hc] at hno
   by_cases h45:b=45
   ·subst h45
    have hn:Lib.decFrom 0 (45::r)=none:=rfl
    rw[hn]
    have hf:=fun n=>Q3b p0 n (hno hn)
    simp only[hf]
    exact Bool.cond_self _ _
   ·by_cases h43:b=43
    ·subst h43
     have hn:Lib.decFrom 0 (43::r)=none:=rfl
     rw[hn]
     have hf:=fun n=>Q3b p0 n (hno hn)
     simp only[hf]
     exact Bool.cond_self _ _
    ·have e : Lib.atoi (b :: r) = (Lib.decFrom 0 (b :: r)).map fun (m : Nat) => (m : Int) := by
      show(if(b==45)=true then(Lib.decNat r).map (fun(m:Nat)=> -(m:Int)) else if(b==43)=true then(Lib.decNat r).map (fun(m:Nat)=>(m:Int)) else(Lib.decNat (b::r)).map (fun(m:Nat)=>(m:Int)))=_
      rw[if_neg (by simpa using h45),if_neg (by simpa using h43)]
      rfl
     rw[e]
     cases Lib.decFrom 0 (b::r) with
     | none=>rfl
     | some m=>exact Yee p0 m
 ·have hsp:Qa5 p0=(0,false):=by
   unfold Qa5
   rw[decide_eq_true (show(p0.size:Int)>10 by omega)]
   rfl
  rw[hsp]
  have hf:=fun n=>Q3b p0 n fun m hm e=>hs (by rw[←e];exact Yeh hm)
  rw[hf]
  exact Bool.cond_self _ _
theorem Q4o {d:Nat} (h:d<16):Qau (Lib.Hx.digit d)=(d:Int):=by
 have key: ∀ n:Fin 16,Qau (Lib.Hx.digit n.val)=(n.val:Int):=by decide +kernel
 exact key ⟨d,h⟩
theorem Q71 (b:UInt8) (h:0≤Qau b):(Qau b).toNat<16∧Lib.Hx.digit (Qau b).toNat=b:=by
 have key: ∀ n:Fin 256,0≤Qau (UInt8.ofNat n.val)→(Qau (UInt8.ofNat n.val)).toNat<16∧Lib.Hx.digit (Qau (UInt8.ofNat n.val)).toNat=UInt8.ofNat n.val:=by decide +kernel
 have e:UInt8.ofNat b.toNat=b:=by simp
 have:=key ⟨b.toNat,b.toNat_lt⟩
 simp only[e] at this
 exact this h
theorem Yhi {h l:Nat} (hh:h<16) (hl:l<16):u8of (i64.wrap ((i64.wrap (16*(h:Int)))+(l:Int)))=UInt8.ofNat (16*h+l):=by
 have key: ∀ a b:Fin 16,u8of (IntKind.i64.wrap ((IntKind.i64.wrap (16*(a.val:Int)))+(b.val:Int)))=UInt8.ofNat (16*a.val+b.val):=by decide +kernel
 exact key ⟨h,hh⟩ ⟨l,hl⟩
theorem Qol (xs:List UInt8):Qa7 (Qla xs)=Lib.Hx.encode xs:=by
 show((Lib.Hx.encode xs).toArray).toList=_
 rw[List.toList_toArray]
def kU (e:List UInt8):ByteArray×Bool:=(bstr e,true)
theorem Q2d (p0:ByteArray): ∀ (raw:List UInt8) (i:Nat) (v:List UInt8) (fu:Nat),i+2*raw.length=p0.size→raw.length≤fu→(Qa7 p0).drop i=Lib.Hx.encode raw→Qdq p0 kU fu v i=(bstr (v++raw),true):=by
 intro raw
 induction raw with
 | nil =>
  intro i v fu h1 h2 h3
  have hi:decide ((i:Int)<(p0.size:Int))=false:=decide_eq_false (by simp only[length_nil] at h1;omega)
  rw[append_nil]
  cases fu with
  | zero=>rfl
  | succ n=>rw[Qdq,hi];rfl
 | cons x r ih =>
  intro i v fu h1 h2 h3
  rw[length_cons] at h1 h2
  obtain⟨f,rfl⟩: ∃ f,fu=f+1:=⟨fu - 1,by omega⟩
  have hl1:i<p0.size:=by omega
  have hl2:i+1<p0.size:=by omega
  rw[Qyr p0 hl1,Qyr p0 hl2,Lib.Hx.encode_cons] at h3
  injection h3 with e1 h3
  injection h3 with e2 e3
  have hx:=x.toNat_lt
  rw[Qdq,decide_eq_true (show(i:Int)<(p0.size:Int) by omega),e1,e2,Q4o (by omega),Q4o (by omega),decide_eq_false (show ¬ ((x.toNat / 16:Nat):Int)<0 by omega),decide_eq_false (show ¬ ((x.toNat % 16:Nat):Int)<0 by omega),Yhi (by omega) (by omega),show 16*(x.toNat / 16)+x.toNat % 16=x.toNat by omega]
  simp only[Bool.or_self,cond_true,cond_false]
  rw[ih (i+2) _ f (by omega) (by omega) e3,show UInt8.ofNat x.toNat=x by simp,append_assoc]
  rfl
theorem Q97 (p0:ByteArray) (he:p0.size % 2=0): ∀ (fu i:Nat) (v:List UInt8),i % 2=0→i≤p0.size→p0.size - i≤fu→
  Qdq p0 kU fu v i=(⟨#[]⟩,false) ∨ ∃ raw:List UInt8,(Qa7 p0).drop i=Lib.Hx.encode raw∧i+2*raw.length=p0.size:=by
 intro fu
 induction fu with
 | zero =>
  intro i v h1 h2 h3
  exact .inr ⟨[],List.drop_eq_nil_of_le (by rw[Qbt];omega),by simp only[length_nil];omega⟩
 | succ f ih =>
  intro i v h1 h2 h3
  by_cases hi:i<p0.size
  ·have hl2 : i + 1 < p0.size := by omega
   rw[Qdq,decide_eq_true (show(i:Int)<(p0.size:Int) by omega)]
   by_cases hv:Qau (Qav p0 i)<0
   ·rw[decide_eq_true hv]
    exact .inl rfl
   ·by_cases hw:Qau (Qav p0 (i+1))<0
    ·rw[decide_eq_true hw,Bool.or_true]
     exact .inl rfl
    ·rw[decide_eq_false hv,decide_eq_false hw]
     simp only[Bool.or_self,cond_true,cond_false]
     obtain⟨a1,a2⟩:=Q71 (Qav p0 i) (by omega)
     obtain⟨b1,b2⟩:=Q71 (Qav p0 (i+1)) (by omega)
     rcases ih (i+2) (v++[u8of (i64.wrap ((i64.wrap (16*(Qau (Qav p0 i))))+(Qau (Qav p0 (i+1)))))]) (by omega) (by omega) (by omega) with h | ⟨raw,hr,hs⟩
     ·exact .inl h
     ·refine .inr ⟨UInt8.ofNat (16*(Qau (Qav p0 i)).toNat+(Qau (Qav p0 (i+1))).toNat)::raw,?_,by rw[length_cons];omega⟩
      have ex:(UInt8.ofNat (16*(Qau (Qav p0 i)).toNat+(Qau (Qav p0 (i+1))).toNat)).toNat=16*(Qau (Qav p0 i)).toNat+(Qau (Qav p0 (i+1))).toNat:=by
       have h:=UInt8.toNat_ofNat' (n:=16*(Qau (Qav p0 i)).toNat+(Qau (Qav p0 (i+1))).toNat)
       rw[h]
       omega
      rw[Qyr p0 hi,Qyr p0 hl2,Lib.Hx.encode_cons,ex,hr]
      rw[show(16*(Qau (Qav p0 i)).toNat+(Qau (Qav p0 (i+1))).toNat) / 16=(Qau (Qav p0 i)).toNat by omega,show(16*(Qau (Qav p0 i)).toNat+(Qau (Qav p0 (i+1))).toNat) % 16=(Qau (Qav p0 (i+1))).toNat by omega,a2,b2]
  ·exact .inr ⟨[],List.drop_eq_nil_of_le (by rw[Qbt];omega),by simp only[length_nil];omega⟩
theorem Q7e (raw:List UInt8):Qh9 (Qla raw)=(raw,true):=by
 unfold Qh9
 rw[show(Qla raw).data.toList=Lib.Hx.encode raw from Qol raw,Lib.Hx.decode_encode]
theorem Qyj (raw:List UInt8) (h:raw.length≤20000):Qed (Qla raw)=(bstr raw,true):=by
 unfold Qed
 rw[Q7e,decide_eq_false (show ¬ (((raw,true):List UInt8×Bool).1.length:Int)>20000 by show ¬ (raw.length:Int)>20000;omega),decide_eq_true (show Qla ((raw,true):List UInt8×Bool).1=Qla raw from rfl)]
 rfl
theorem Qq2 (p0:ByteArray) (h: ∀ raw:List UInt8,raw.length≤20000→Qla raw≠p0):Qed p0=(⟨#[]⟩,false):=by
 unfold Qed
 by_cases hl:(Qh9 p0).1.length≤20000
 ·rw[decide_eq_false (h _ hl),Bool.not_false,Bool.or_true]
  rfl
 ·rw[decide_eq_true (show((Qh9 p0).1.length:Int)>20000 by omega),Bool.or_true,Bool.true_or]
  rfl
theorem Yb2 {p0:ByteArray} {raw:List UInt8} (h:Qa7 p0=Lib.Hx.encode raw):Qla raw=p0:=by
 unfold Qla
 rw[←h]
 rfl
theorem Q2s (p0:ByteArray):Qed p0=Qgs p0:=by
 unfold Qgs
 cases hc:(decide ((p0.size:Int)>40000))||(!decide ((Int.tmod (p0.size:Int) 2)=0)) with
 | true =>
  rw[Qq2 p0 fun raw hl e=>?_]
  ·rfl
  ·have hs : p0.size = 2 * raw.length := by rw [← e, Qoq]
   rw[decide_eq_false (show ¬ (p0.size:Int)>40000 by omega)] at hc
   have ht:Int.tmod (p0.size:Int) 2=0:=by
    rw[hs]
    show(((2*raw.length) % 2:Nat):Int)=0
    omega
   rw[decide_eq_true ht] at hc
   cases hc
 | false =>
  have h1:p0.size≤40000:=by
   have:=(Bool.or_eq_false_iff.1 hc).1
   simp at this
   omega
  have he:=Ycm (Bool.or_eq_false_iff.1 hc).2
  show Qed p0=Qdq p0 kU (p0.size - 0) [] 0
  rcases Q97 p0 he (p0.size - 0) 0 [] rfl (Nat.zero_le _) (Nat.le_refl _) with h | ⟨raw,hr,hs⟩
  ·rw[h]
   refine Qq2 p0 fun raw hl e=>?_
   have hs:p0.size=2*raw.length:=by rw[←e,Qoq]
   have:=Q2d p0 raw 0 [] (p0.size - 0) (by omega) (by omega) (by rw[List.drop_zero,←e,Qol])
   rw[h] at this
   cases this
  ·rw[List.drop_zero] at hr
   have e:=Yb2 hr
   rw[Q2d p0 raw 0 [] (p0.size - 0) (by omega) (by omega) (by rw[List.drop_zero];exact hr),nil_append]
   conv=>lhs;rw[←e]
   exact Qyj raw (by omega)
theorem Qu3 (a b:List ByteArray):Qe0 a b=Qib a b:=by
 have key: ∀ n i,Qci a b n i=Qfa a b n i:=by
  intro n
  induction n with
  | zero=>intro i;rfl
  | succ n ih=>intro i;rw[Qci,Qfa,ih]
 unfold Qe0 Qib
 rw[key]
end
section
def Yc3 {α:Type} (σ:St) (d:Nat) (B:Bool) (x:α) (fk:List (Fk α)):St:=⟨σ.n,σ.m+1+nsl fk,(d,.gd B (.pt σ.m 0))::σ.ρ,(σ.m,.roc (opn false x (σ.m+1) fk).1)::(opn false x (σ.m+1) fk).2++σ.E⟩
theorem OpS.idxG {c:Cx} {σ:St} {all:Array Oper} {ty:TypeId} {pos:String} {after:Array Edge} {d:Nat} {α:Type} {dα:Dat α} [s:Str α] [Inhabited α] {t e by' r len:Nat} {x y:Operand} {i:Int} {k j:Nat} {want B:Bool} {xs:List α} (hB:gB σ.ρ all j want=some B) (hx:evG σ.ρ x=some (.sl r len)) (hy:evG σ.ρ y=some (.v (.int .i64 i))) (hside:B=true→Qf8 B True σ.ρ [x,y]) (hp:lkE σ.E r=some (.ros α dα xs)) (hl:len=xs.length) (ht:c.ti t= .sl e (Dat.sz α) by') (hd:Nat.blt d σ.n=true) (hi:B=true→i=k) (hk:k<xs.length):
  OpS c σ all ⟨some d,.indexAddr t x y,ty,pos,after,some (j,want)⟩ (Yc3 σ d B (nth xs k) s.fk):=by
 intro θ a w h K Q hK
 have hw:=Q53 h (o:=⟨some d,.indexAddr t x y,ty,pos,after,some (j,want)⟩) rfl hB
 rw[hw]
 subst hl
 obtain⟨S,w1,hh⟩:=h.heap
 obtain⟨l,hl,hr⟩:=hh.ok _ (Qe1 hp)
 simp only at hl
 obtain⟨ad,cs,hA,_,hrd,hcs,hb⟩:=SlR.elem hr hk
 have hti:=c.tiok t
 rw[ht] at hti
 simp only[TI.chk,Bool.and_eq_true] at hti
 let A':Addr:=(ad.add (k*Dat.sz α))
 let lc:Loc:=⟨some A',0,[]⟩
 obtain⟨θ',hl',hc',he'⟩:=Qng (θ:=θ++[lc]) (s.op hrd)
 rw[length_append,List.length_singleton,h.len,append_assoc] at hc' he'
 have hg:(θ++([lc]++θ'))[σ.m]?=some lc:=by rw[←h.len];exact Qfu
 have fin : ∀ u, (V.gd B (.pt σ.m 0)).con (θ ++ ([lc] ++ θ')) = some u → K (a.put (some d) u) w := fun u hu => by
  refine hK ([lc]++θ') _ w ⟨?_,(h.env.ext (θ':=[lc]++θ')).put hd hu,S,w1,?_⟩
  ·rw[length_append,length_append,h.len,hl']
   show σ.m+(1+nsl s.fk)=σ.m+1+nsl s.fk
   omega
  ·have hfa: ∀ e∈(σ.m,En.roc (opn false (nth xs k) (σ.m+1) s.fk).1)::(opn false (nth xs k) (σ.m+1) s.fk).2,e.2.ok S w1 (θ++([lc]++θ')) e.1∧ ∀ θ r,e.2.ck θ r=⟨[],fun _=>True⟩:=by
    intro e he
    rcases List.mem_cons.1 he with rfl | he
    ·exact⟨⟨lc,A',cs,hg,rfl,hc',by show S A'.block;simp only[A',Qms];exact hb,hcs⟩,fun _ _=>rfl⟩
    ·exact he' e he
   exact hh.facts hfa
 cases B with
 | true =>
  rw[if_pos rfl]
  have hi:=hi rfl
  subst hi
  have h1:=Qho h.env rfl (hside rfl) x (by simp) _ hx
  have h2:=Qho h.env rfl (hside rfl) y (by simp) _ hy
  have hc:=h1.1
  simp only[V.con,hl,Option.some.injEq] at hc
  have hx':ev? (selfρ a) x=_:=h1.2
  rw[←hc,hA] at hx'
  have hy':ev? (selfρ a) y=some (.int .i64 (k:Int)):=by rw[h2.2,←h2.1];rfl
  have hyy:=Qkf (P:=c.P) (w:=w) (ty:=ty) h.env.env hx' hy' (by omega) (by omega) hti.2
  unfold Oper.wp
  rw[hyy]
  refine fin _ ?_
  simp only[V.con,hg,lc,A',Int.toNat_natCast]
 | false =>
  rw[if_neg (by simp)]
  exact fin _ rfl
section
variable {fn:Func} {Bz:Bs} {S1:Nat→Prop} {w1:World} {hk1:Keep Bz.S0 Bz.w w1} {hs1: ∀ b,Bz.S0 b→S1 b} {hd1: ∀ b,S1 b→b<w1.heap.size} {σ:St} {all:Array Oper} {ty:TypeId} {pos:String} {after:Array Edge} {d:Nat}
theorem iG {α:Type} {dα:Dat α} [s:Str α] [Inhabited α] {t e by' r len j:Nat} {x y:Operand} {i:Int} {want B:Bool} {xs:List α} (k:Nat) (hk:k<xs.length) (hB:gB σ.ρ all j want=some B:=by exact Dq0) (hx:evG σ.ρ x=some (.sl r len):=by exact Dq0) (hy:evG σ.ρ y=some (.v (.int .i64 i)):=by exact Dq0)
  (hside:B=true→Qf8 B True σ.ρ [x,y]:=by intro h;first | exact trivial | (dsimp only[Qf8,sdV,ev,lk,cond,Nat.beq,V.side,List.toList_toArray];(repeat' apply And.intro)<;>first | exact trivial | exact h | exact fun h=>h | exact(Bool.and_eq_true_iff.1 h).1 | exact(Bool.and_eq_true_iff.1 h).2 | exact fun h=>(Bool.and_eq_true_iff.1 h).1 | exact fun h=>(Bool.and_eq_true_iff.1 h).2 | exact fun h=>(Bool.and_eq_true_iff.1 (Bool.and_eq_true_iff.1 h).1).1 | (intro h;simp_all)))
  (hp:lkE σ.E r=some (.ros α dα xs):=by exact Dq0) (hl:len=xs.length:=by first | rfl | simp only[List.length_set]) (hi:B=true→i=k:=by intro _;rfl) (ht:ti t= .sl e (Dat.sz α) by':=by rfl) (hd:Nat.blt d σ.n=true:=by rfl):
  OpS (cx fn Bz S1 w1 hk1 hs1 hd1) σ all ⟨some d,.indexAddr t x y,ty,pos,after,some (j,want)⟩ ⟨σ.n,σ.m+1+nsl s.fk,(d,.gd B (.pt σ.m 0))::σ.ρ,(σ.m,.roc (opn false (nth xs k) (σ.m+1) s.fk).1)::(opn false (nth xs k) (σ.m+1) s.fk).2++σ.E⟩:=OpS.idxG hB hx hy hside hp hl ht hd hi hk
theorem gO {op:Op} {j:Nat} {want B:Bool} {v:V} {p:Prop} (hB:gB σ.ρ all j want=some B:=by exact Dq0) (hv:gOp ti zr σ.ρ σ.E B op True=some (v,p):=by dsimp only[ti_9,ti_3,ncV,szA,cvV,rnR,rnE,V.rn,rnL,En.rn,Qhd,memN,Qdm,an,stK,cdK,opK,gdK,nvK,Qq6,Qqy,blK,bsK,stW,stV,ptK,litD,litC,pkV,wrV,binV,unV,ldV,faW,faV,agO,blV,exV,mfV,lenV,caV,Qz5,Qyp,stO',sdV,Qa9,grdO,gBV,gPw,gPk,gGo,gK,gK1,gK2,tkK,tk1,rvsV,rvV,Nat.reduceAdd,Nat.reduceSub,Nat.reduceMul,advN,adv1,stO,litV,Qul,Qoz,pv,ev,evs,lk,lkE,setE,putE,put,cond,ldC,ldE,nthN,tuAt,bin,bi,bs,bb,ikq,TI.cells,V.cells,V.one,oneL,Qrl,grd,nthO,beqB,gB,wnt,gOp,adG,adG1,Qx5,Qf8,evG,V.side,V.strip,Qcp,Qdt,Qey,Qdl,Qkk,Qgg,Qh1,Qka,Qpg,Qld,Qnr,ini,Qm2,opn,nsl,adD,Ql6,Str.fk,Nat.blt,Nat.succ_eq_add_one,Nat.ble,Nat.beq,Nat.pred,Nat.add_zero,Nat.zero_add,Nat.add_eq,List.toList_toArray,List.length,List.length_cons,List.length_nil,List.take,List.drop,List.append_nil,List.nil_append,List.cons_append,List.map,List.take_succ_cons,List.take_zero,List.take_nil,List.drop_succ_cons,List.drop_zero,List.drop_nil,List.size_toArray,List.getD,id,Op.operands,Call.operands,Value.cells,Array.size_empty])
  (hp:p:=by(repeat' apply And.intro)<;>first | exact trivial | exact fun h=>h | exact fun h=>(Bool.and_eq_true_iff.1 h).1 | exact fun h=>(Bool.and_eq_true_iff.1 h).2 | exact fun h=>(Bool.and_eq_true_iff.1 (Bool.and_eq_true_iff.1 h).1).1 | (intro h;simp_all)) (hd:Nat.blt d σ.n=true:=by rfl):
  OpS (cx fn Bz S1 w1 hk1 hs1 hd1) σ all ⟨some d,op,ty,pos,after,some (j,want)⟩ (put d (.gd B v) σ):=OpS.g1 hB hv hp hd
end
end
section
theorem Qwf:FnOk Tryz.prog 146:=⟨_,Tryz.func146,rfl,by kernel_rfl⟩
theorem Ycf:FnOk Tryz.prog 163:=⟨_,Tryz.func163,rfl,by kernel_rfl⟩
theorem Ycc:FnOk Tryz.prog 209:=⟨_,Tryz.func209,rfl,by kernel_rfl⟩
def Qgn (p0:ByteArray):Nat→Nat→Bool
 | 0,i=>(Qcd (p0.size:Int) 1 40)
 | n+1,i=>bif ((decide (((Qav p0 i).toNat:Int)<33))||(decide (((Qav p0 i).toNat:Int)>126)))||(decide (((Qav p0 i).toNat:Int)=42)) then false else(Qgn p0 n (i+1))
def Qjs (p0:ByteArray):Bool:=Qgn p0 (p0.size - 0) 0
theorem Qqd (p0:ByteArray) (hz_p0:p0.size≤9223372036854775807):CTs 163 [.o (.c (.string p0))] [Re.c (.bool (Qjs p0))]:=by
 refine en Tryz.func163 Tryz.ntmps163 fun w hG hgd=>?_
 have hM:=Qjs.eq_1 p0
 refine ad 12 ?_
 refine Run.loopM (ι:=Nat) (fun s=>Qgn p0 (p0.size - s) s) (fun s=>⟨29,0,[(0,.v (.string p0)),(5,.v (.int .i64 (p0.size:Int))),(6,.v (.int .i64 (s:Int)))],[]⟩) (fun s=>s≤p0.size) (fun s=>p0.size - s) 0 [] [] hM lv0 su (by decide) ?_
 rintro i hv hE
 try dsimp only at hE
 have hi:=hv
 try dsimp only at hi
 refine ad 5 ?_
 refine cd (fun h1=>?_) (fun h1=>?_)
 ·
  have h1l:i<p0.size:=dtl h1
  have hM:=hE.trans ((congrArg (fun n=>Qgn p0 n i) (sb1 h1l)).trans (Qgn.eq_2 _ _ _))
  refine ad 12 ?_
  refine op (sx (s:=p0) i om) ?_
  refine ad 2 ?_
  refine ag 2 ?_
  refine op (sG (s:=p0) i (hk:=fun hB=>by(try simp at hB);omega)) ?_
  refine ag 2 ?_
  refine ad 1 ?_
  refine ag 2 ?_
  refine op (sG (s:=p0) i (hk:=fun hB=>by(try simp at hB);omega)) ?_
  refine ag 2 ?_
  refine ad 1 ?_
  refine cd (fun h2=>?_) (fun h2=>?_)
  ·
   have hM:=hM.trans (bt h2)
   refine ad 4 ?_
   exact rz (rs:=[.tmp 2]) (rzB hM)
  ·
   have hM:=hM.trans (bf h2)
   refine ad 4 ?_
   rw[Qb3 (i:=i) om]
   refine ad 2 ?_
   exact Run.again (i+1) [] [] ⟨by first | omega | exact trivial | (dsimp only;omega) | (refine⟨by omega,?_⟩;simp_all;try omega),hM⟩ rfl lv1 su (by decide)
 ·
  have h1l: ¬ (i<p0.size):=dfl h1
  have hM:=hE.trans ((congrArg (fun n=>Qgn p0 n i) (sb0 h1l)).trans (Qgn.eq_1 _ _))
  refine ad 5 ?_
  refine op (cl (Qha (p0.size:Int) 1 40) Qwe) ?_
  refine ad 2 ?_
  exact rz (rs:=[.tmp 2]) (rzB hM)
def Qgh (p0:ByteArray):Nat→Nat→Bool
 | 0,i=>(Qcm (p0.size:Int) 1 40)
 | n+1,i=>bif (!(Qcm (i64.wrap ((Qav p0 i).toNat:Int)) 33 126))||(decide (((Qav p0 i).toNat:Int)=42)) then false else(Qgh p0 n (i+1))
def Qip (p0:ByteArray):Bool:=Qgh p0 (p0.size - 0) 0
theorem Qp9 (p0:ByteArray) (hz_p0:p0.size≤9223372036854775807):CTs 209 [.o (.c (.string p0))] [Re.c (.bool (Qip p0))]:=by
 refine en Tryz.func209 Tryz.ntmps209 fun w hG hgd=>?_
 have hM:=Qip.eq_1 p0
 refine ad 10 ?_
 refine Run.loopM (ι:=Nat) (fun s=>Qgh p0 (p0.size - s) s) (fun s=>⟨25,0,[(0,.v (.string p0)),(3,.v (.int .i64 (s:Int)))],[]⟩) (fun s=>s≤p0.size) (fun s=>p0.size - s) 0 [] [] hM lv0 su (by decide) ?_
 rintro i hv hE
 try dsimp only at hE
 have hi:=hv
 try dsimp only at hi
 refine ad 8 ?_
 refine cd (fun h1=>?_) (fun h1=>?_)
 ·
  have h1l:i<p0.size:=dtl h1
  have hM:=hE.trans ((congrArg (fun n=>Qgh p0 n i) (sb1 h1l)).trans (Qgh.eq_2 _ _ _))
  refine ad 7 ?_
  refine op (sx (s:=p0) i om) ?_
  refine ad 1 ?_
  refine op (cl (Qhr (i64.wrap ((Qav p0 i).toNat:Int)) 33 126) Qwf) ?_
  refine ad 2 ?_
  refine ag 2 ?_
  refine op (sG (s:=p0) i (hk:=fun hB=>by(try simp at hB);omega)) ?_
  refine ag 2 ?_
  refine ad 1 ?_
  refine cd (fun h2=>?_) (fun h2=>?_)
  ·
   have hM:=hM.trans (bt h2)
   refine ad 4 ?_
   exact rz (rs:=[.tmp 2]) (rzB hM)
  ·
   have hM:=hM.trans (bf h2)
   have th2_0:=Qg5 (by have hq:=(Bool.or_eq_false_iff.1 h2).1;simpa using hq)
   refine ad 5 ?_
   rw[Qb3 (i:=i) om]
   refine ad 2 ?_
   exact Run.again (i+1) [] [] ⟨by first | omega | exact trivial | (dsimp only;omega) | (refine⟨by omega,?_⟩;simp_all;try omega),hM⟩ rfl lv1 su (by decide)
 ·
  have h1l: ¬ (i<p0.size):=dfl h1
  have hM:=hE.trans ((congrArg (fun n=>Qgh p0 n i) (sb0 h1l)).trans (Qgh.eq_1 _ _))
  refine ad 5 ?_
  refine op (cl (Qhr (p0.size:Int) 1 40) Qwf) ?_
  refine ad 2 ?_
  exact rz (rs:=[.tmp 2]) (rzB hM)
def Qdk (p0:ByteArray):Nat→Int→Nat→Int
 | 0,v3,i=>v3
 | n+1,v3,i=>Qdk p0 n (Int.tmod (i64.wrap ((i64.wrap (31*v3))+(i64.wrap ((Qav p0 i).toNat:Int)))) 9973) (i+1)
def Qhc (p0:ByteArray):Int:=Qdk p0 (p0.size - 0) 7 0
theorem Q0x (p0:ByteArray) (hz_p0:p0.size≤9223372036854775807):CTs 249 [.o (.c (.string p0))] [Re.c (.int .i64 (Qhc p0))]:=by
 refine en Tryz.func249 Tryz.ntmps249 fun w hG hgd=>?_
 have hM:=Qhc.eq_1 p0
 refine ad 16 ?_
 refine Run.loopM (ι:=Int×Nat) (fun s=>Qdk p0 (p0.size - s.2) s.1 s.2) (fun s=>⟨20,0,[(0,.v (.string p0)),(3,.v (.int .i64 s.1)),(6,.v (.int .i64 (p0.size:Int))),(7,.v (.int .i64 (s.2:Int)))],[]⟩) (fun s=>s.2≤p0.size) (fun s=>p0.size - s.2) (7,0) [] [] hM lv0 su (by decide) ?_
 rintro ⟨v3,i⟩ hv hE
 try dsimp only at hE
 have hi:=hv
 try dsimp only at hi
 refine ad 5 ?_
 refine cd (fun h1=>?_) (fun h1=>?_)
 ·
  have h1l:i<p0.size:=dtl h1
  have hM:=hE.trans ((congrArg (fun n=>Qdk p0 n v3 i) (sb1 h1l)).trans (Qdk.eq_2 _ _ _ _))
  refine ad 13 ?_
  refine op (sx (s:=p0) i om) ?_
  refine ad 2 ?_
  refine op (rm) ?_
  refine ad 5 ?_
  rw[Qb3 (i:=i) om]
  refine ad 2 ?_
  exact Run.again (Int.tmod (i64.wrap ((i64.wrap (31*v3))+(i64.wrap ((Qav p0 i).toNat:Int)))) 9973,(i+1)) [] [] ⟨by first | omega | exact trivial | (dsimp only;omega) | (refine⟨by omega,?_⟩;simp_all;try omega),hM⟩ rfl lv1 su (by decide)
 ·
  have h1l: ¬ (i<p0.size):=dfl h1
  have hM:=hE.trans ((congrArg (fun n=>Qdk p0 n v3 i) (sb0 h1l)).trans (Qdk.eq_1 _ _ _))
  refine ad 6 ?_
  exact rz (rs:=[.tmp 2]) (rzI hM)
def Qfe (p0:ByteArray):Nat→Int→Nat→Int
 | 0,v3,i=>v3
 | n+1,v3,i=>Qfe p0 n (Int.tmod (i64.wrap ((i64.wrap (31*v3))+(i64.wrap ((Qav p0 i).toNat:Int)))) 9973) (i+1)
def Qc0 (p0:ByteArray):Int:=Qfe p0 (p0.size - 0) 7 0
theorem Qno (p0:ByteArray) (hz_p0:p0.size≤9223372036854775807):CTs 239 [.o (.c (.string p0))] [Re.c (.int .i64 (Qc0 p0))]:=by
 refine en Tryz.func239 Tryz.ntmps239 fun w hG hgd=>?_
 have hM:=Qc0.eq_1 p0
 refine ad 14 ?_
 refine Run.loopM (ι:=Int×Nat) (fun s=>Qfe p0 (p0.size - s.2) s.1 s.2) (fun s=>⟨20,0,[(0,.v (.string p0)),(3,.v (.int .i64 s.1)),(4,.v (.int .i64 (s.2:Int)))],[]⟩) (fun s=>s.2≤p0.size) (fun s=>p0.size - s.2) (7,0) [] [] hM lv0 su (by decide) ?_
 rintro ⟨v3,i⟩ hv hE
 try dsimp only at hE
 have hi:=hv
 try dsimp only at hi
 refine ad 8 ?_
 refine cd (fun h1=>?_) (fun h1=>?_)
 ·
  have h1l:i<p0.size:=dtl h1
  have hM:=hE.trans ((congrArg (fun n=>Qfe p0 n v3 i) (sb1 h1l)).trans (Qfe.eq_2 _ _ _ _))
  refine ad 8 ?_
  refine op (sx (s:=p0) i om) ?_
  refine ad 2 ?_
  refine op (rm) ?_
  refine ad 6 ?_
  rw[Qb3 (i:=i) om]
  refine ad 2 ?_
  exact Run.again (Int.tmod (i64.wrap ((i64.wrap (31*v3))+(i64.wrap ((Qav p0 i).toNat:Int)))) 9973,(i+1)) [] [] ⟨by first | omega | exact trivial | (dsimp only;omega) | (refine⟨by omega,?_⟩;simp_all;try omega),hM⟩ rfl lv1 su (by decide)
 ·
  have h1l: ¬ (i<p0.size):=dfl h1
  have hM:=hE.trans ((congrArg (fun n=>Qfe p0 n v3 i) (sb0 h1l)).trans (Qfe.eq_1 _ _ _))
  refine ad 6 ?_
  exact rz (rs:=[.tmp 2]) (rzI hM)
def Qh8 (p0:Journal):Bool:=(decide ((p0.Text.size:Int)≤20000))&&(Qcd p0.Sure 0 (p0.Text.size:Int))
theorem Qpb (p0:Journal):CTs 160 [.o (.st Journal _ inferInstance p0)] [Re.c (.bool (Qh8 p0))]:=by
 refine en Tryz.func160 Tryz.ntmps160 fun w hG hgd=>?_
 obtain⟨hg_p0,_⟩:=hgd
 have hM:=Qh8.eq_1 p0
 refine ad 12 ?_
 refine ag 5 ?_
 refine op (cG (hct:=fun hB=>(Qha p0.Sure 0 (p0.Text.size:Int))) (hfn:=Qwe)) ?_
 refine ag 1 ?_
 refine ad 2 ?_
 exact rz (rs:=[.tmp 2]) (rzB hM)
def Qan (p0:Journal):Bool:=(decide ((p0.Text.size:Int)≤20000))&&(Qcm p0.Sure 0 (p0.Text.size:Int))
theorem Qo5 (p0:Journal):CTs 148 [.o (.st Journal _ inferInstance p0)] [Re.c (.bool (Qan p0))]:=by
 refine en Tryz.func148 Tryz.ntmps148 fun w hG hgd=>?_
 obtain⟨hg_p0,_⟩:=hgd
 have hM:=Qan.eq_1 p0
 refine ad 12 ?_
 refine ag 5 ?_
 refine op (cG (hct:=fun hB=>(Qhr p0.Sure 0 (p0.Text.size:Int))) (hfn:=Qwf)) ?_
 refine ag 1 ?_
 refine ad 2 ?_
 exact rz (rs:=[.tmp 2]) (rzB hM)
def Qc8 (p0:List Cell):Nat→Nat→Bool
 | 0,i=>decide ((p0.length:Int)≤900)
 | n+1,i=>bif ((!(Qjs ((nth p0 i).Key)))||(!(Qcd (((nth p0 i).Val).size:Int) 1 60)))||((decide ((i:Int)>0))&&(ltB ((nth p0 i).Key) ((nth p0 ((i64.wrap ((i:Int) - 1)).toNat)).Key)||decide (((nth p0 i).Key)=((nth p0 ((i64.wrap ((i:Int) - 1)).toNat)).Key)))) then false else(Qc8 p0 n (i+1))
def Qjq (p0:List Cell):Bool:=Qc8 p0 (p0.length - 0) 0
theorem Qrc (p0:List Cell):CTs 159 [.o (.sl Cell instDatCell p0)] [Re.c (.bool (Qjq p0))]:=by
 refine en Tryz.func159 Tryz.ntmps159 fun w hG hgd=>?_
 obtain⟨hg_p0,_⟩:=hgd
 have hl_p0:p0.length≤9223372036854775807:=hg_p0.1
 have hM:=Qjq.eq_1 p0
 refine ad 12 ?_
 refine Run.loopM (ι:=Nat) (fun s=>Qc8 p0 (p0.length - s) s) (fun s=>⟨42,1,[(0,.sl 0 p0.length),(5,.sl 0 p0.length),(6,.v (.int .i64 (p0.length:Int))),(7,.v (.int .i64 (s:Int)))],[(0,.ros Cell instDatCell p0)]⟩) (fun s=>s≤p0.length) (fun s=>p0.length - s) 0 [0] [0] hM lv0 su (by decide) ?_
 rintro i hv hE
 try dsimp only at hE
 have hi:=hv
 try dsimp only at hi
 refine ad 5 ?_
 refine cd (fun h1=>?_) (fun h1=>?_)
 ·
  have h1l:i<p0.length:=dtl h1
  have hM:=hE.trans ((congrArg (fun n=>Qc8 p0 n i) (sb1 h1l)).trans (Qc8.eq_2 _ _ _))
  refine ad 6 ?_
  have hg3:=Qai (k:=i) hg_p0 om
  refine op (ix (xs:=p0) i om) ?_
  refine ad 6 ?_
  refine dr 26 fun _ _ _ _ _ hb=>?_
  refine tk [0,1] ?_
  refine on 2 [0,1,2] (cl (Qqd ((nth p0 i).Key) hg3.1) Ycf) ?_
  refine tk [3,4,5,6,7] ?_
  refine on 8 [0,1,2] (cG (hct:=fun hB=>(Qha (((nth p0 i).Val).size:Int) 1 60)) (hfn:=Qwe)) ?_
  refine tk [9,10,11,12,13,14,15,16,17,18,19] ?_
  refine on 20 [1,2,3] (iG (xs:=p0) ((i64.wrap ((i:Int) - 1)).toNat) om (hi:=(fun hB=>by(try simp at hB);rw[IntWalk.i64_in _ (by omega)];omega))) ?_
  refine tk [21] ?_
  refine on 22 [1,2,3] (gO) ?_
  refine on 23 [1,2,3] (sQG) ?_
  refine tk [24,25] ?_
  refine dn hb ?_
  refine cd (fun h4=>?_) (fun h4=>?_)
  ·
   have hM:=hM.trans (bt h4)
   refine ad 4 ?_
   exact rz (rs:=[.tmp 2]) (rzB hM)
  ·
   have hM:=hM.trans (bf h4)
   have th4_1:=Qhy (by have hq:=(Bool.or_eq_false_iff.1 (Bool.or_eq_false_iff.1 h4).1).2;simpa using hq)
   refine ad 4 ?_
   rw[Qb3 (i:=i) om]
   refine ad 2 ?_
   exact Run.again (i+1) [0] [3] ⟨by first | omega | exact trivial | (dsimp only;omega) | (refine⟨by omega,?_⟩;simp_all;try omega),hM⟩ rfl lv1 su (by decide)
 ·
  have h1l: ¬ (i<p0.length):=dfl h1
  have hM:=hE.trans ((congrArg (fun n=>Qc8 p0 n i) (sb0 h1l)).trans (Qc8.eq_1 _ _))
  refine ad 8 ?_
  exact rz (rs:=[.tmp 2]) (rzB hM)
def Qc6 (p0:List Cell):Nat→Nat→Bool
 | 0,i=>decide ((p0.length:Int)≤900)
 | n+1,i=>bif ((!(Qip ((nth p0 i).Key)))||(!(Qcm (((nth p0 i).Val).size:Int) 1 60)))||((decide ((i:Int)>0))&&(!(ltB ((nth p0 ((i64.wrap ((i:Int) - 1)).toNat)).Key) ((nth p0 i).Key)))) then false else(Qc6 p0 n (i+1))
def Qfw (p0:List Cell):Bool:=Qc6 p0 (p0.length - 0) 0
theorem Qq8 (p0:List Cell):CTs 147 [.o (.sl Cell instDatCell p0)] [Re.c (.bool (Qfw p0))]:=by
 refine en Tryz.func147 Tryz.ntmps147 fun w hG hgd=>?_
 obtain⟨hg_p0,_⟩:=hgd
 have hl_p0:p0.length≤9223372036854775807:=hg_p0.1
 have hM:=Qfw.eq_1 p0
 refine ad 10 ?_
 refine Run.loopM (ι:=Nat) (fun s=>Qc6 p0 (p0.length - s) s) (fun s=>⟨48,1,[(0,.sl 0 p0.length),(3,.v (.int .i64 (s:Int)))],[(0,.ros Cell instDatCell p0)]⟩) (fun s=>s≤p0.length) (fun s=>p0.length - s) 0 [0] [0] hM lv0 su (by decide) ?_
 rintro i hv hE
 try dsimp only at hE
 have hi:=hv
 try dsimp only at hi
 refine ad 8 ?_
 refine cd (fun h1=>?_) (fun h1=>?_)
 ·
  have h1l:i<p0.length:=dtl h1
  have hM:=hE.trans ((congrArg (fun n=>Qc6 p0 n i) (sb1 h1l)).trans (Qc6.eq_2 _ _ _))
  refine ad 4 ?_
  refine Run.mid ⟨48,1,[(0,.sl 0 p0.length),(3,.v (.int .i64 (i:Int))),(44,.v (.bool (((!(Qip ((nth p0 i).Key)))||(!(Qcm (((nth p0 i).Val).size:Int) 1 60)))||((decide ((i:Int)>0))&&(!(ltB ((nth p0 ((i64.wrap ((i:Int) - 1)).toNat)).Key) ((nth p0 i).Key)))))))],[(0,.ros Cell instDatCell p0)]⟩ ?_ ?_
  ·
   refine dr 35 fun _ _ _ _ _ hb=>?_
   refine tk [0,1] ?_
   have hg2:=Qai (k:=i) hg_p0 om
   refine tx 2 (dx (xs:=p0) i om) ?_
   refine tk [3,4] ?_
   refine on 5 [1] (cl (Qp9 ((nth p0 i).Key) hg2.1) Ycc) ?_
   refine tk [6,7,8,9] ?_
   refine on 10 [2] (iG (xs:=p0) i om) ?_
   refine tk [11] ?_
   refine on 12 [2] (gO) ?_
   refine tk [13] ?_
   refine on 14 [2] (cG (hct:=fun hB=>(Qhr (((nth p0 i).Val).size:Int) 1 60)) (hfn:=Qwf)) ?_
   refine tk [15,16,17,18,19,20,21,22,23,27,28] ?_
   refine o2 24 29 ?_ ?_
   ·
    refine on1 24 [3] (iG (xs:=p0) ((i64.wrap ((i:Int) - 1)).toNat) om (hi:=(fun hB=>by(try simp at hB);rw[IntWalk.i64_in _ (by omega)];omega))) ?_
    refine tk [25] ?_
    refine o2 26 29 ?_ ?_
    ·
     refine on1 26 [3] (gO) ?_
     refine on 29 [4] (iG (xs:=p0) i om) ?_
     refine tk [30] ?_
     refine on 31 [4] (gO) ?_
     refine on 32 [4] (sQG) ?_
     refine tk [33,34] ?_
     refine dn hb ?_
     exact Run.at [0] [4] su (by decide)
    ·
     refine on1 29 [4] (iG (xs:=p0) i om) ?_
     refine tk [30] ?_
     refine o2 26 31 ?_ ?_
     ·
      refine on1 26 [4] (gO) ?_
      refine on 31 [4] (gO) ?_
      refine on 32 [4] (sQG) ?_
      refine tk [33,34] ?_
      refine dn hb ?_
      exact Run.at [0] [4] su (by decide)
     ·
      refine on1 31 [4] (gO) ?_
      refine on 26 [4] (gO) ?_
      refine on 32 [4] (sQG) ?_
      refine tk [33,34] ?_
      refine dn hb ?_
      exact Run.at [0] [4] su (by decide)
   ·
    refine on1 29 [3] (iG (xs:=p0) i om) ?_
    refine tk [30] ?_
    refine o2 24 31 ?_ ?_
    ·
     refine on1 24 [4] (iG (xs:=p0) ((i64.wrap ((i:Int) - 1)).toNat) om (hi:=(fun hB=>by(try simp at hB);rw[IntWalk.i64_in _ (by omega)];omega))) ?_
     refine tk [25] ?_
     refine o2 26 31 ?_ ?_
     ·
      refine on1 26 [4] (gO) ?_
      refine on 31 [4] (gO) ?_
      refine on 32 [4] (sQG) ?_
      refine tk [33,34] ?_
      refine dn hb ?_
      exact Run.at [0] [4] su (by decide)
     ·
      refine on1 31 [4] (gO) ?_
      refine on 26 [4] (gO) ?_
      refine on 32 [4] (sQG) ?_
      refine tk [33,34] ?_
      refine dn hb ?_
      exact Run.at [0] [4] su (by decide)
    ·
     refine on1 31 [3] (gO) ?_
     refine on 24 [4] (iG (xs:=p0) ((i64.wrap ((i:Int) - 1)).toNat) om (hi:=(fun hB=>by(try simp at hB);rw[IntWalk.i64_in _ (by omega)];omega))) ?_
     refine tk [25] ?_
     refine on 26 [4] (gO) ?_
     refine on 32 [4] (sQG) ?_
     refine tk [33,34] ?_
     refine dn hb ?_
     exact Run.at [0] [4] su (by decide)
  refine cd (fun h3=>?_) (fun h3=>?_)
  ·
   have hM:=hM.trans (bt h3)
   refine ad 4 ?_
   exact rz (rs:=[.tmp 2]) (rzB hM)
  ·
   have hM:=hM.trans (bf h3)
   have th3_1:=Qg5 (by have hq:=(Bool.or_eq_false_iff.1 (Bool.or_eq_false_iff.1 h3).1).2;simpa using hq)
   refine ad 5 ?_
   rw[Qb3 (i:=i) om]
   refine ad 2 ?_
   exact Run.again (i+1) [0] [0] ⟨by first | omega | exact trivial | (dsimp only;omega) | (refine⟨by omega,?_⟩;simp_all;try omega),hM⟩ rfl lv1 su (by decide)
 ·
  have h1l: ¬ (i<p0.length):=dfl h1
  have hM:=hE.trans ((congrArg (fun n=>Qc6 p0 n i) (sb0 h1l)).trans (Qc6.eq_1 _ _))
  refine ad 8 ?_
  exact rz (rs:=[.tmp 2]) (rzB hM)
end
section
theorem Yec:FnOk Tryz.prog 80:=⟨_,Tryz.func80,rfl,by kernel_rfl⟩
theorem Yfx:FnOk Tryz.prog 147:=⟨_,Tryz.func147,rfl,by kernel_rfl⟩
theorem Yfw:FnOk Tryz.prog 148:=⟨_,Tryz.func148,rfl,by kernel_rfl⟩
theorem Yfu:FnOk Tryz.prog 159:=⟨_,Tryz.func159,rfl,by kernel_rfl⟩
theorem Yft:FnOk Tryz.prog 160:=⟨_,Tryz.func160,rfl,by kernel_rfl⟩
def Qev (p0:Disk):Nat→Int→Nat→Int
 | 0,v3,i=>v3
 | n+1,v3,i=>Qev p0 n (bif (((nth p0.Slots i).Whole)&&((decide (v3<0))||(decide (((nth p0.Slots i).Seq)>((nth p0.Slots v3.toNat).Seq))))) then(i:Int) else v3) (i+1)
def Qab (p0:Disk):Int:=Qev p0 (p0.Slots.length - 0) (-1) 0
theorem Qmr (p0:Disk):CTs 89 [.o (.st Disk _ inferInstance p0)] [Re.c (.int .i64 (Qab p0))]:=by
 refine en Tryz.func89 Tryz.ntmps89 fun w hG hgd=>?_
 obtain⟨hg_p0,_⟩:=hgd
 have hM:=Qab.eq_1 p0
 have hsl:p0.Slots.length≤9223372036854775807:=hg_p0.1.1
 refine ad 18 ?_
 refine Run.loopM (ι:=Int×Nat) (fun s=>Qev p0 (p0.Slots.length - s.2) s.1 s.2) (fun s=>⟨34,2,[(1,.pt 0 0),(3,.v (.int .i64 s.1)),(7,.sl 1 p0.Slots.length),(8,.v (.int .i64 (p0.Slots.length:Int))),(9,.v (.int .i64 (s.2:Int)))],[(0,.var [.sl 1 p0.Slots.length,.v (.string p0.Journal.Text),.v (.int .i64 p0.Journal.Sure)] 40),(1,.ros Slot instDatSlot p0.Slots)]⟩) (fun s=>s.2≤p0.Slots.length∧ -1≤s.1∧s.1<(s.2:Int)) (fun s=>p0.Slots.length - s.2) ((-1),0) [1,0] [0,1] hM (by exact⟨by(try dsimp only);omega,by(try dsimp only);omega,by(try dsimp only);omega⟩) su (by decide) ?_
 rintro ⟨v3,i⟩ hv hE
 try dsimp only at hE
 obtain⟨hi,hv0,hv1⟩:=hv
 try dsimp only at hi hv0 hv1
 refine ad 5 ?_
 refine cd (fun h1=>?_) (fun h1=>?_)
 ·
  have h1l:i<p0.Slots.length:=dtl h1
  have hM:=hE.trans ((congrArg (fun n=>Qev p0 n v3 i) (sb1 h1l)).trans (Qev.eq_2 _ _ _ _))
  refine ad 6 ?_
  refine op (ix (xs:=p0.Slots) i om) ?_
  refine ad 6 ?_
  refine dr 17 fun _ _ _ _ _ hb=>?_
  refine tk [0,1,2,3,4,5,6,7,8,9,10] ?_
  refine on 11 [2,3,4,5,6] (iG (xs:=p0.Slots) v3.toNat om (hi:=fun _=>om)) ?_
  refine tk [12] ?_
  refine on 13 [2,3,4,5,6] (gO) ?_
  refine tk [14,15,16] ?_
  refine dn hb ?_
  refine Run.mid ⟨34,2,[(1,.pt 0 0),(3,.v (.int .i64 (bif (((nth p0.Slots i).Whole)&&((decide (v3<0))||(decide (((nth p0.Slots i).Seq)>((nth p0.Slots v3.toNat).Seq))))) then(i:Int) else v3))),(7,.sl 1 p0.Slots.length),(8,.v (.int .i64 (p0.Slots.length:Int))),(9,.v (.int .i64 (i:Int)))],[(0,.var [.sl 1 p0.Slots.length,.v (.string p0.Journal.Text),.v (.int .i64 p0.Journal.Sure)] 40),(1,.ros Slot instDatSlot p0.Slots)]⟩ ?_ ?_
  ·refine cd (fun h3=>?_) (fun h3=>?_)
   ·
    refine ad 4 ?_
    exact Run.at [0,1] [5,6] (by first | exact su | (rw[h3];exact su)) (by decide)
   ·
    refine ad 1 ?_
    exact Run.at [0,1] [5,6] (by first | exact su | (rw[h3];exact su)) (by decide)
  refine ad 3 ?_
  rw[Qb3 (i:=i) om]
  refine ad 2 ?_
  exact Run.again (bif (((nth p0.Slots i).Whole)&&((decide (v3<0))||(decide (((nth p0.Slots i).Seq)>((nth p0.Slots v3.toNat).Seq))))) then(i:Int) else v3,(i+1)) [0,1] [0,1] ⟨by exact⟨by(try dsimp only);omega,by(try dsimp only);((try simp only[Bool.cond_eq_ite]);(repeat' split)<;>omega),by(try dsimp only);((try simp only[Bool.cond_eq_ite]);(repeat' split)<;>omega)⟩,hM⟩ rfl lv1 su (by decide)
 ·
  have h1l: ¬ (i<p0.Slots.length):=dfl h1
  have hM:=hE.trans ((congrArg (fun n=>Qev p0 n v3 i) (sb0 h1l)).trans (Qev.eq_1 _ _ _))
  refine ad 6 ?_
  exact rz (rs:=[.tmp 2]) (rzI hM)
def Qb9 (p0:Disk):Nat→Int→Nat→Int
 | 0,v3,i=>v3
 | n+1,v3,i=>Qb9 p0 n (bif (((nth p0.Slots i).Whole)&&((decide (v3<0))||(decide (((nth p0.Slots i).Seq)>((nth p0.Slots v3.toNat).Seq))))) then(i:Int) else v3) (i+1)
def Qae (p0:Disk):Int:=Qb9 p0 (p0.Slots.length - 0) (-1) 0
theorem Qj9 (p0:Disk):CTs 80 [.o (.st Disk _ inferInstance p0)] [Re.c (.int .i64 (Qae p0))]:=by
 refine en Tryz.func80 Tryz.ntmps80 fun w hG hgd=>?_
 obtain⟨hg_p0,_⟩:=hgd
 have hM:=Qae.eq_1 p0
 have hsl:p0.Slots.length≤9223372036854775807:=hg_p0.1.1
 refine ad 15 ?_
 refine Run.loopM (ι:=Int×Nat) (fun s=>Qb9 p0 (p0.Slots.length - s.2) s.1 s.2) (fun s=>⟨39,2,[(1,.pt 0 0),(3,.v (.int .i64 s.1)),(4,.v (.int .i64 (s.2:Int)))],[(0,.var [.sl 1 p0.Slots.length,.v (.string p0.Journal.Text),.v (.int .i64 p0.Journal.Sure)] 40),(1,.ros Slot instDatSlot p0.Slots)]⟩) (fun s=>s.2≤p0.Slots.length∧ -1≤s.1∧s.1<(s.2:Int)) (fun s=>p0.Slots.length - s.2) ((-1),0) [1,0] [0,1] hM (by exact⟨by(try dsimp only);omega,by(try dsimp only);omega,by(try dsimp only);omega⟩) su (by decide) ?_
 rintro ⟨v3,i⟩ hv hE
 try dsimp only at hE
 obtain⟨hi,hv0,hv1⟩:=hv
 try dsimp only at hi hv0 hv1
 refine ad 9 ?_
 refine cd (fun h1=>?_) (fun h1=>?_)
 ·
  have h1l:i<p0.Slots.length:=dtl h1
  have hM:=hE.trans ((congrArg (fun n=>Qb9 p0 n v3 i) (sb1 h1l)).trans (Qb9.eq_2 _ _ _ _))
  refine ad 4 ?_
  refine Run.mid ⟨39,2,[(1,.pt 0 0),(3,.v (.int .i64 v3)),(4,.v (.int .i64 (i:Int))),(36,.v (.bool (((nth p0.Slots i).Whole)&&((decide (v3<0))||(decide (((nth p0.Slots i).Seq)>((nth p0.Slots v3.toNat).Seq)))))))],[(0,.var [.sl 1 p0.Slots.length,.v (.string p0.Journal.Text),.v (.int .i64 p0.Journal.Sure)] 40),(1,.ros Slot instDatSlot p0.Slots)]⟩ ?_ ?_
  ·
   refine dr 25 fun _ _ _ _ _ hb=>?_
   refine tk [0,1,2] ?_
   refine tx 3 (dx (xs:=p0.Slots) i om) ?_
   refine tk [4,5,6,7,8,9,10,11,12,16,17,18] ?_
   refine o2 13 19 ?_ ?_
   ·
    refine on1 13 [4,5] (iG (xs:=p0.Slots) i om) ?_
    refine tk [14] ?_
    refine o2 15 19 ?_ ?_
    ·
     refine on1 15 [4,5] (gO) ?_
     refine on 19 [6,7] (iG (xs:=p0.Slots) v3.toNat om (hi:=fun _=>om)) ?_
     refine tk [20] ?_
     refine on 21 [6,7] (gO) ?_
     refine tk [22,23,24] ?_
     refine dn hb ?_
     exact Run.at [0,1] [6,7] su (by decide)
    ·
     refine on1 19 [6,7] (iG (xs:=p0.Slots) v3.toNat om (hi:=fun _=>om)) ?_
     refine tk [20] ?_
     refine o2 15 21 ?_ ?_
     ·
      refine on1 15 [6,7] (gO) ?_
      refine on 21 [6,7] (gO) ?_
      refine tk [22,23,24] ?_
      refine dn hb ?_
      exact Run.at [0,1] [6,7] su (by decide)
     ·
      refine on1 21 [6,7] (gO) ?_
      refine on 15 [6,7] (gO) ?_
      refine tk [22,23,24] ?_
      refine dn hb ?_
      exact Run.at [0,1] [6,7] su (by decide)
   ·
    refine on1 19 [4,5] (iG (xs:=p0.Slots) v3.toNat om (hi:=fun _=>om)) ?_
    refine tk [20] ?_
    refine o2 13 21 ?_ ?_
    ·
     refine on1 13 [6,7] (iG (xs:=p0.Slots) i om) ?_
     refine tk [14] ?_
     refine o2 15 21 ?_ ?_
     ·
      refine on1 15 [6,7] (gO) ?_
      refine on 21 [6,7] (gO) ?_
      refine tk [22,23,24] ?_
      refine dn hb ?_
      exact Run.at [0,1] [6,7] su (by decide)
     ·
      refine on1 21 [6,7] (gO) ?_
      refine on 15 [6,7] (gO) ?_
      refine tk [22,23,24] ?_
      refine dn hb ?_
      exact Run.at [0,1] [6,7] su (by decide)
    ·
     refine on1 21 [4,5] (gO) ?_
     refine on 13 [6,7] (iG (xs:=p0.Slots) i om) ?_
     refine tk [14] ?_
     refine on 15 [6,7] (gO) ?_
     refine tk [22,23,24] ?_
     refine dn hb ?_
     exact Run.at [0,1] [6,7] su (by decide)
  refine Run.mid ⟨39,2,[(1,.pt 0 0),(3,.v (.int .i64 (bif (((nth p0.Slots i).Whole)&&((decide (v3<0))||(decide (((nth p0.Slots i).Seq)>((nth p0.Slots v3.toNat).Seq))))) then(i:Int) else v3))),(4,.v (.int .i64 (i:Int)))],[(0,.var [.sl 1 p0.Slots.length,.v (.string p0.Journal.Text),.v (.int .i64 p0.Journal.Sure)] 40),(1,.ros Slot instDatSlot p0.Slots)]⟩ ?_ ?_
  ·refine cd (fun h2=>?_) (fun h2=>?_)
   ·
    refine ad 4 ?_
    exact Run.at [0,1] [0,1] (by first | exact su | (rw[h2];exact su)) (by decide)
   ·
    refine ad 1 ?_
    exact Run.at [0,1] [0,1] (by first | exact su | (rw[h2];exact su)) (by decide)
  refine ad 4 ?_
  rw[Qb3 (i:=i) om]
  refine ad 2 ?_
  exact Run.again (bif (((nth p0.Slots i).Whole)&&((decide (v3<0))||(decide (((nth p0.Slots i).Seq)>((nth p0.Slots v3.toNat).Seq))))) then(i:Int) else v3,(i+1)) [0,1] [0,1] ⟨by exact⟨by(try dsimp only);omega,by(try dsimp only);((try simp only[Bool.cond_eq_ite]);(repeat' split)<;>omega),by(try dsimp only);((try simp only[Bool.cond_eq_ite]);(repeat' split)<;>omega)⟩,hM⟩ rfl lv1 su (by decide)
 ·
  have h1l: ¬ (i<p0.Slots.length):=dfl h1
  have hM:=hE.trans ((congrArg (fun n=>Qb9 p0 n v3 i) (sb0 h1l)).trans (Qb9.eq_1 _ _ _))
  refine ad 6 ?_
  exact rz (rs:=[.tmp 2]) (rzI hM)
def Qf6 (p0:Disk):Nat→Nat→Bool
 | 0,i=>(Qh8 p0.Journal)
 | n+1,i=>bif ((nth p0.Slots i).Whole)&&((!(Qcd ((nth p0.Slots i).Seq) 0 99999))||(!(Qjq ((nth p0.Slots i).Cells)))) then false else(Qf6 p0 n (i+1))
def Qe2 (p0:Disk):Bool:=bif (!decide ((p0.Slots.length:Int)=2))||((!((nth p0.Slots 0).Whole))&&(!((nth p0.Slots 1).Whole))) then false else(Qf6 p0 (p0.Slots.length - 0) 0)
theorem Qlw (p0:Disk):CTs 88 [.o (.st Disk _ inferInstance p0)] [Re.c (.bool (Qe2 p0))]:=by
 refine en Tryz.func88 Tryz.ntmps88 fun w hG hgd=>?_
 obtain⟨hg_p0,_⟩:=hgd
 have hM:=Qe2.eq_1 p0
 have hsl:p0.Slots.length≤9223372036854775807:=hg_p0.1.1
 refine ad 13 ?_
 refine Run.midO ⟨50,2,[(1,.pt 0 0),(24,.v (.bool ((!decide ((p0.Slots.length:Int)=2))||((!((nth p0.Slots 0).Whole))&&(!((nth p0.Slots 1).Whole))))))],[(0,.var [.sl 1 p0.Slots.length,.v (.string p0.Journal.Text),.v (.int .i64 p0.Journal.Sure)] 40),(1,.ros Slot instDatSlot p0.Slots)]⟩ ?_ ?_
 ·refine bc 9 (fun h1=>?_) (fun h1=>?_)
  ·
   refine adu 16 ?_
   exact Run.at [1,0] [0,1] (by first | exact su | (rw[h1];exact su)) (by decide)
  ·
   refine ad 5 ?_
   refine op (ix (xs:=p0.Slots) 0 om) ?_
   refine ad 8 ?_
   refine Run.midO ⟨50,2,[(1,.pt 0 0),(24,.v (.bool ((!((nth p0.Slots 0).Whole))&&(!((nth p0.Slots 1).Whole)))))],[(0,.var [.sl 1 p0.Slots.length,.v (.string p0.Journal.Text),.v (.int .i64 p0.Journal.Sure)] 40),(1,.ros Slot instDatSlot p0.Slots)]⟩ ?_ ?_
   ·refine bc 16 (fun h3=>?_) (fun h3=>?_)
    ·
     refine ad 5 ?_
     refine op (ix (xs:=p0.Slots) 1 om) ?_
     refine ad 10 ?_
     exact Run.at [1,0] [4,5] (by first | exact su | (rw[h3];exact su)) (by decide)
    ·
     refine ad 10 ?_
     exact Run.at [1,0] [2,3] (by first | exact su | (rw[h3];exact su)) (by decide)
   exact Run.at [0,1] [0,1] (by first | exact su | (rw[h1];exact su)) (by decide)
 refine cd (fun h5=>?_) (fun h5=>?_)
 ·
  have hM:=hM.trans (bt h5)
  refine ad 4 ?_
  exact rz (rs:=[.tmp 2]) (rzB hM)
 ·
  have hM:=hM.trans (bf h5)
  refine ad 10 ?_
  refine Run.loopM (ι:=Nat) (fun s=>Qf6 p0 (p0.Slots.length - s) s) (fun s=>⟨50,2,[(1,.pt 0 0),(26,.sl 1 p0.Slots.length),(27,.v (.int .i64 (p0.Slots.length:Int))),(28,.v (.int .i64 (s:Int)))],[(0,.var [.sl 1 p0.Slots.length,.v (.string p0.Journal.Text),.v (.int .i64 p0.Journal.Sure)] 40),(1,.ros Slot instDatSlot p0.Slots)]⟩) (fun s=>s≤p0.Slots.length) (fun s=>p0.Slots.length - s) 0 [0,1] [0,1] hM lv0 su (by decide) ?_
  rintro i hv hE
  try dsimp only at hE
  have hi:=hv
  try dsimp only at hi
  refine ad 5 ?_
  refine cd (fun h6=>?_) (fun h6=>?_)
  ·
   have h6l:i<p0.Slots.length:=dtl h6
   have hM:=hE.trans ((congrArg (fun n=>Qf6 p0 n i) (sb1 h6l)).trans (Qf6.eq_2 _ _ _))
   refine ad 5 ?_
   refine op (ix (xs:=p0.Slots) i om) ?_
   refine ad 9 ?_
   refine ag 2 ?_
   refine op (cG (hct:=fun hB=>(Qha ((nth p0.Slots i).Seq) 0 99999)) (hfn:=Qwe)) ?_
   refine ag 4 ?_
   refine op (cG (hct:=fun hB=>(Qrc ((nth p0.Slots i).Cells))) (hfn:=Yfu)) ?_
   refine ag 3 ?_
   refine ad 1 ?_
   refine cd (fun h8=>?_) (fun h8=>?_)
   ·
    have hM:=hM.trans (bt h8)
    refine ad 4 ?_
    exact rz (rs:=[.tmp 2]) (rzB hM)
   ·
    have hM:=hM.trans (bf h8)
    refine ad 4 ?_
    rw[Qb3 (i:=i) om]
    refine ad 2 ?_
    exact Run.again (i+1) [0,1] [3,4] ⟨by first | omega | exact trivial | (dsimp only;omega) | (refine⟨by omega,?_⟩;simp_all;try omega),hM⟩ rfl lv1 su (by decide)
  ·
   have h6l: ¬ (i<p0.Slots.length):=dfl h6
   have hM:=hE.trans ((congrArg (fun n=>Qf6 p0 n i) (sb0 h6l)).trans (Qf6.eq_1 _ _))
   refine ad 5 ?_
   have hg9:Dat.good (p0.Journal:Journal):=hg_p0.2
   refine op (cl (Qpb p0.Journal) Yft) ?_
   refine ad 2 ?_
   exact rz (rs:=[.tmp 2]) (rzB hM)
def Qdz (p0:Disk):Nat→Nat→Bool
 | 0,i=>((decide ((p0.Slots.length:Int)=2))&&(decide ((Qae p0)≥0)))&&(Qan p0.Journal)
 | n+1,i=>bif ((nth p0.Slots i).Whole)&&((!(Qcm ((nth p0.Slots i).Seq) 0 99999))||(!(Qfw ((nth p0.Slots i).Cells)))) then false else(Qdz p0 n (i+1))
def Qdv (p0:Disk):Bool:=Qdz p0 (p0.Slots.length - 0) 0
theorem Qlu (p0:Disk):CTs 79 [.o (.st Disk _ inferInstance p0)] [Re.c (.bool (Qdv p0))]:=by
 refine en Tryz.func79 Tryz.ntmps79 fun w hG hgd=>?_
 obtain⟨hg_p0,_⟩:=hgd
 have hM:=Qdv.eq_1 p0
 have hsl:p0.Slots.length≤9223372036854775807:=hg_p0.1.1
 refine ad 11 ?_
 refine Run.loopM (ι:=Nat) (fun s=>Qdz p0 (p0.Slots.length - s) s) (fun s=>⟨45,2,[(1,.pt 0 0),(3,.v (.int .i64 (s:Int)))],[(0,.var [.sl 1 p0.Slots.length,.v (.string p0.Journal.Text),.v (.int .i64 p0.Journal.Sure)] 40),(1,.ros Slot instDatSlot p0.Slots)]⟩) (fun s=>s≤p0.Slots.length) (fun s=>p0.Slots.length - s) 0 [1,0] [0,1] hM lv0 su (by decide) ?_
 rintro i hv hE
 try dsimp only at hE
 have hi:=hv
 try dsimp only at hi
 refine ad 9 ?_
 refine cd (fun h1=>?_) (fun h1=>?_)
 ·
  have h1l:i<p0.Slots.length:=dtl h1
  have hM:=hE.trans ((congrArg (fun n=>Qdz p0 n i) (sb1 h1l)).trans (Qdz.eq_2 _ _ _))
  refine ad 8 ?_
  refine op (ix (xs:=p0.Slots) i om) ?_
  refine ad 9 ?_
  refine ag 2 ?_
  refine op (cG (hct:=fun hB=>(Qhr ((nth p0.Slots i).Seq) 0 99999)) (hfn:=Qwf)) ?_
  refine ag 4 ?_
  refine op (cG (hct:=fun hB=>(Qq8 ((nth p0.Slots i).Cells))) (hfn:=Yfx)) ?_
  refine ag 3 ?_
  refine ad 1 ?_
  refine cd (fun h3=>?_) (fun h3=>?_)
  ·
   have hM:=hM.trans (bt h3)
   refine ad 4 ?_
   exact rz (rs:=[.tmp 2]) (rzB hM)
  ·
   have hM:=hM.trans (bf h3)
   refine ad 5 ?_
   rw[Qb3 (i:=i) om]
   refine ad 2 ?_
   exact Run.again (i+1) [0,1] [3,4] ⟨by first | omega | exact trivial | (dsimp only;omega) | (refine⟨by omega,?_⟩;simp_all;try omega),hM⟩ rfl lv1 su (by decide)
 ·
  have h1l: ¬ (i<p0.Slots.length):=dfl h1
  have hM:=hE.trans ((congrArg (fun n=>Qdz p0 n i) (sb0 h1l)).trans (Qdz.eq_1 _ _))
  refine ad 8 ?_
  refine ag 1 ?_
  refine op (cG (hct:=fun hB=>(Qj9 p0)) (hfn:=Yec)) ?_
  refine ag 2 ?_
  refine ad 1 ?_
  refine ag 2 ?_
  have hg4:Dat.good (p0.Journal:Journal):=hg_p0.2
  refine op (cG (hct:=fun hB=>(Qo5 p0.Journal)) (hfn:=Yfw)) ?_
  refine ag 1 ?_
  refine ad 2 ?_
  exact rz (rs:=[.tmp 2]) (rzB hM)
end
section
theorem rzS {a b:ByteArray} (h:a=b):([Re.c (.string a)]:List Re)=[Re.c (.string b)]:=by rw[h]
theorem Yfg:FnOk Tryz.prog 224:=⟨_,Tryz.func224,rfl,by kernel_rfl⟩
theorem Yir:FnOk Tryz.prog 272:=⟨_,Tryz.func272,rfl,by kernel_rfl⟩
def Qm6 (p0:ByteArray):ByteArray×Bool:=bif decide ((p0.size:Int)>20000) then(⟨#[]⟩,false) else((Qla (Qa7 p0)),true)
theorem Yar (p0:ByteArray) (hz_p0:p0.size≤9223372036854775807):CTs 272 [.o (.c (.string p0))] [Re.c (.string ((Qm6 p0).1)),Re.c (.bool ((Qm6 p0).2))]:=by
 refine en Tryz.func272 Tryz.ntmps272 fun w hG hgd=>?_
 have hM:=Qm6.eq_1 p0
 refine ad 12 ?_
 refine cd (fun h1=>?_) (fun h1=>?_)
 ·
  have hM:=hM.trans (bt h1)
  refine ad 5 ?_
  exact rz (rs:=[.tmp 2,.tmp 3]) (congrArg (fun x=>[Re.c (.string x.1),Re.c (.bool x.2)]) hM)
 ·
  have hM:=hM.trans (bf h1)
  refine ad 4 ?_
  refine op (tb (hs:=hz_p0)) ?_
  refine op (cl (Q5y (Qa7 p0) (by first | (rw[Qbt];exact om) | (simp at hB;omega))) Yff) ?_
  refine ad 3 ?_
  exact rz (rs:=[.tmp 2,.tmp 3]) (congrArg (fun x=>[Re.c (.string x.1),Re.c (.bool x.2)]) hM)
def Qgu (p0:ByteArray):ByteArray:=(Qm6 p0).1
theorem Qwj (p0:ByteArray) (hz_p0:p0.size≤9223372036854775807):CTs 247 [.o (.c (.string p0))] [Re.c (.string (Qgu p0))]:=by
 refine en Tryz.func247 Tryz.ntmps247 fun w hG hgd=>?_
 have hM:=Qgu.eq_1 p0
 refine ad 7 ?_
 refine op (cl (Yar p0 hz_p0) Yir) ?_
 refine ad 11 ?_
 exact rz (rs:=[.tmp 2]) (rzS hM)
def Qht (p0:ByteArray):Nat→(List UInt8)→Nat→ByteArray×Bool
 | 0,v4,i=>(bstr v4,true)
 | n+1,v4,i=>Qht p0 n (v4++[fig (i64.wrap (Int.tdiv (i64.wrap ((Qav p0 i).toNat:Int)) 16)),fig (Int.tmod (i64.wrap ((Qav p0 i).toNat:Int)) 16)]) (i+1)
def Qep (p0:ByteArray):ByteArray×Bool:=bif decide ((p0.size:Int)>20000) then(⟨#[]⟩,false) else(Qht p0 (p0.size - 0) ([]:List UInt8) 0)
theorem Q2p (p0:ByteArray) (hz_p0:p0.size≤9223372036854775807):CTs 238 [.o (.c (.string p0))] [Re.c (.string ((Qep p0).1)),Re.c (.bool ((Qep p0).2))]:=by
 refine en Tryz.func238 Tryz.ntmps238 fun w hG hgd=>?_
 have hM:=Qep.eq_1 p0
 refine ad 12 ?_
 refine cd (fun h1=>?_) (fun h1=>?_)
 ·
  have hM:=hM.trans (bt h1)
  refine ad 5 ?_
  exact rz (rs:=[.tmp 2,.tmp 3]) (congrArg (fun x=>[Re.c (.string x.1),Re.c (.bool x.2)]) hM)
 ·
  have hM:=hM.trans (bf h1)
  refine ad 3 ?_
  refine op (l0) ?_
  refine ad 8 ?_
  refine li 0 (d:=instDatUInt8) ([]:List UInt8) ?_
  refine Run.loopM (ι:=(List UInt8)×Nat) (fun s=>Qht p0 (p0.size - s.2) s.1 s.2) (fun s=>⟨33,1,[(0,.v (.string p0)),(4,.sl 0 s.1.length),(5,.v (.int .i64 (s.2:Int)))],[(0,.own UInt8 instDatUInt8 s.1)]⟩) (fun s=>s.2≤p0.size∧s.1.length=2*s.2) (fun s=>p0.size - s.2) (([]:List UInt8),0) [0] [0] hM (by dsimp only;exact⟨by omega,rfl⟩) su (by decide) ?_
  rintro ⟨v4,i⟩ hv hE
  try dsimp only at hE
  obtain⟨hi,hv0⟩:=hv
  try dsimp only at hi hv0
  refine ad 8 ?_
  refine cd (fun h2=>?_) (fun h2=>?_)
  ·
   have h2l:i<p0.size:=dtl h2
   have hM:=hE.trans ((congrArg (fun n=>Qht p0 n v4 i) (sb1 h2l)).trans (Qht.eq_2 _ _ _ _))
   refine ad 3 ?_
   refine ds 16 [] fun _ _ _ _ _ hb=>?_
   refine tk [0,1,2] ?_
   refine tx 3 (tsx (s:=p0) i om) ?_
   refine tk [4] ?_
   refine tx 5 (tqo) ?_
   refine tk [7,8] ?_
   refine tx 9 (tsx (s:=p0) i om) ?_
   refine tk [10] ?_
   refine tx 11 (trm) ?_
   refine on 6 [] (cl (Qo2 (i64.wrap (Int.tdiv (i64.wrap ((Qav p0 i).toNat:Int)) 16))) Yfg) ?_
   refine on 12 [] (cl (Qo2 (Int.tmod (i64.wrap ((Qav p0 i).toNat:Int)) 16)) Yfg) ?_
   refine on 13 [] (OpS.st rfl) ?_
   refine on 14 [] (ap [fig (IntKind.i64.wrap (Int.tdiv (IntKind.i64.wrap ((Qav p0 i).toNat:Int)) 16)),fig (Int.tmod (IntKind.i64.wrap ((Qav p0 i).toNat:Int)) 16)] (hg:=gdt) (hb:=by simp only[List.length_cons,List.length_nil];first | omega | exact om)) ?_
   refine tk [15] ?_
   refine dn hb ?_
   refine ad 4 ?_
   rw[Qb3 (i:=i) om]
   refine ad 2 ?_
   exact Run.again ((v4++[fig (i64.wrap (Int.tdiv (i64.wrap ((Qav p0 i).toNat:Int)) 16)),fig (Int.tmod (i64.wrap ((Qav p0 i).toNat:Int)) 16)]),(i+1)) [2] [1] ⟨by dsimp only;exact⟨by omega,by simp only[length_append,length_cons,length_nil];omega⟩,hM⟩ rfl lv1 su (by decide)
  ·
   have h2l: ¬ (i<p0.size):=dfl h2
   have hM:=hE.trans ((congrArg (fun n=>Qht p0 n v4 i) (sb0 h2l)).trans (Qht.eq_1 _ _ _))
   refine ad 4 ?_
   refine op (ts v4) ?_
   refine ad 3 ?_
   exact rz (rs:=[.tmp 2,.tmp 3]) (congrArg (fun x=>[Re.c (.string x.1),Re.c (.bool x.2)]) hM)
end
section
theorem Yaj: ∀ n:Fin 256,fig (IntKind.i64.wrap (Int.tdiv (IntKind.i64.wrap ((n.val:Nat):Int)) 16))=Lib.Hx.digit (n.val / 16)∧fig (Int.tmod (IntKind.i64.wrap ((n.val:Nat):Int)) 16)=Lib.Hx.digit (n.val % 16):=by decide +kernel
theorem Q8t (b:UInt8):fig (i64.wrap (Int.tdiv (i64.wrap (b.toNat:Int)) 16))=Lib.Hx.digit (b.toNat / 16)∧fig (Int.tmod (i64.wrap (b.toNat:Int)) 16)=Lib.Hx.digit (b.toNat % 16):=Yaj ⟨b.toNat,b.toNat_lt⟩
theorem Qzx (p0:ByteArray): ∀ n i v,n=p0.size - i→Qht p0 n v i=(bstr (v++Lib.Hx.encode ((Qa7 p0).drop i)),true):=by
 intro n
 induction n with
 | zero =>
  intro i v h
  rw[List.drop_eq_nil_of_le (by rw[Qbt];omega)]
  show(bstr v,true)=_
  rw[show Lib.Hx.encode []=[] from rfl,append_nil]
 | succ n ih =>
  intro i v h
  have hi:i<(Qa7 p0).length:=by rw[Qbt];omega
  rw[Qht,ih _ _ (by omega),List.drop_eq_getElem_cons hi,Lib.Hx.encode_cons,Q5p hi,(Q8t _).1,(Q8t _).2,append_assoc]
  rfl
theorem Qrr {p0:ByteArray} (h:p0.size≤20000):(Qep p0).1=Qla (Qa7 p0):=by
 unfold Qep
 have hc: ¬ (p0.size:Int)>20000:=by omega
 simp only[hc,decide_false,cond_false]
 rw[Qzx p0 _ _ _ rfl]
 rfl
theorem Qyl (p0:ByteArray):(Qm6 p0).1.size≤40000:=by
 unfold Qm6
 cases hc:decide ((p0.size:Int)>20000) with
 | true=>exact Nat.zero_le _
 | false =>
  have:=of_decide_eq_false hc
  show(Qla (Qa7 p0)).size≤40000
  rw[Qoq,Qbt]
  omega
theorem Qx1 (p0:ByteArray):(Qep p0).1.size≤40000:=by
 by_cases h:p0.size≤20000
 ·rw[Qrr h,Qoq,Qbt]
  omega
 ·unfold Qep
  rw[decide_eq_true (show(p0.size:Int)>20000 by omega)]
  exact Nat.zero_le _
end
section
theorem Yfs:FnOk Tryz.prog 165:=⟨_,Tryz.func165,rfl,by kernel_rfl⟩
theorem Yfr:FnOk Tryz.prog 166:=⟨_,Tryz.func166,rfl,by kernel_rfl⟩
theorem Yka:FnOk Tryz.prog 167:=⟨_,Tryz.func167,rfl,by kernel_rfl⟩
def Qas (p0:List Cell):(List Cell):=(([]:List Cell)++p0)
theorem Qbn (p0:List Cell) (hb:p0.length≤1073741824):CTs 91 [.o (.sl Cell instDatCell p0)] [Re.sl Cell instDatCell (Qas p0)]:=by
 refine en Tryz.func91 Tryz.ntmps91 fun w hG hgd=>?_
 obtain⟨hg_p0,_⟩:=hgd
 have hl_p0:p0.length≤9223372036854775807:=hg_p0.1
 have hM:=Qas.eq_1 p0
 refine ad 8 ?_
 refine ox nl fun nb1 hnb1=>?_
 refine ad 1 ?_
 refine cd (fun h2=>?_) (fun h2=>?_)
 ·
  obtain rfl:p0=[]:=hnb1 h2
  have hM:Qas []=[]:=rfl
  refine ad 4 ?_
  exact rz (rs:=[.tmp 2]) (congrArg (fun x=>[Re.sl Cell instDatCell x]) hM)
 ·
  refine ad 3 ?_
  refine op (l0) ?_
  refine ad 1 ?_
  refine li 1 (d:=instDatCell) ([]:List Cell) ?_
  refine op (aS (dα:=instDatCell) (e:=114) (by':=32) ([]:List Cell) p0 [1] (hb:=by(try simp only[List.length_append,List.length_cons,List.length_nil]);first | omega | exact om) (hm:=by(try simp only[List.length_append,List.length_cons,List.length_nil]);first | omega | exact om)) ?_
  refine ad 2 ?_
  exact rz (rs:=[.tmp 2]) (congrArg (fun x=>[Re.sl Cell instDatCell x]) hM)
def Qb0 (p0:Cell) (c0:ByteArray):Bool:=decide (p0.Key=c0)
theorem Qwi (p0:Cell) (c0:ByteArray):CTs 165 [.o (.st Cell _ inferInstance p0),.o (.rp ByteArray instDatByteArray inferInstance c0)] [Re.c (.bool (Qb0 p0 c0))]:=by
 refine en Tryz.func165 Tryz.ntmps165 fun w hG hgd=>?_
 obtain⟨hg_p0,hg_c0,_⟩:=hgd
 have hM:=Qb0.eq_1 p0 c0
 refine ad 13 ?_
 exact rz (rs:=[.tmp 3]) (rzB hM)
def Qjp (p0:Cell) (c0:ByteArray):Bool:=!(ltB p0.Key c0||decide (p0.Key=c0))
theorem Q6f (p0:Cell) (c0:ByteArray):CTs 167 [.o (.st Cell _ inferInstance p0),.o (.rp ByteArray instDatByteArray inferInstance c0)] [Re.c (.bool (Qjp p0 c0))]:=by
 refine en Tryz.func167 Tryz.ntmps167 fun w hG hgd=>?_
 obtain⟨hg_p0,hg_c0,_⟩:=hgd
 have hM:=Qjp.eq_1 p0 c0
 refine ad 10 ?_
 refine op (sQ) ?_
 refine ad 2 ?_
 exact rz (rs:=[.tmp 3]) (rzB hM)
def Qa3 (p0:List Cell) (p1_0:ByteArray):Nat→Nat→Int
 | 0,i=>(-1)
 | n+1,i=>bif Qb0 (nth p0 i) p1_0 then(i:Int) else(Qa3 p0 p1_0 n (i+1))
def Qbb (p0:List Cell) (p1_0:ByteArray):Int:=Qa3 p0 p1_0 (p0.length - 0) 0
theorem Qmy (p0:List Cell) (p1_0:ByteArray) (hk:Dat.good p1_0):CTs 166 [.o (.sl Cell instDatCell p0),.fn 165 [.rp ByteArray instDatByteArray inferInstance p1_0]] [Re.c (.int .i64 (Qbb p0 p1_0))]:=by
 refine en Tryz.func166 Tryz.ntmps166 fun w hG hgd=>?_
 obtain⟨hg_p0,_⟩:=hgd
 have hl_p0:p0.length≤9223372036854775807:=hg_p0.1
 have hM:=Qbb.eq_1 p0 p1_0
 refine ad 12 ?_
 refine Run.loopM (ι:=Nat) (fun s=>Qa3 p0 p1_0 (p0.length - s) s) (fun s=>⟨19,2,[(0,.sl 0 p0.length),(1,.fn 165 [.pt 1 0]),(7,.v (.int .i64 (p0.length:Int))),(8,.v (.int .i64 (s:Int)))],[(0,.ros Cell instDatCell p0),(1,.roc [.v (.string p1_0)])]⟩) (fun s=>s≤p0.length) (fun s=>p0.length - s) 0 [0,1] [0,1] hM lv0 su (by decide) ?_
 rintro i hv hE
 try dsimp only at hE
 have hi:=hv
 try dsimp only at hi
 refine ad 5 ?_
 refine cd (fun h1=>?_) (fun h1=>?_)
 ·
  have h1l:i<p0.length:=dtl h1
  have hM:=hE.trans ((congrArg (fun n=>Qa3 p0 p1_0 n i) (sb1 h1l)).trans (Qa3.eq_2 _ _ _ _))
  refine ad 13 ?_
  have hg3:=Qai (k:=i) hg_p0 om
  refine op (ix (xs:=p0) i om) ?_
  refine ad 1 ?_
  have hg4:Dat.good (nth p0 i:Cell):=hg3
  refine op (cl (Qwi (nth p0 i) p1_0) Yfs) ?_
  refine ad 1 ?_
  refine cd (fun h5=>?_) (fun h5=>?_)
  ·
   have hM:=hM.trans (bt h5)
   refine ad 5 ?_
   exact rz (rs:=[.tmp 4]) (rzI hM)
  ·
   have hM:=hM.trans (bf h5)
   refine ad 4 ?_
   rw[Qb3 (i:=i) om]
   refine ad 2 ?_
   exact Run.again (i+1) [0,1] [1,2] ⟨by first | omega | exact trivial | (dsimp only;omega) | (refine⟨by omega,?_⟩;simp_all;try omega),hM⟩ rfl lv1 su (by decide)
 ·
  have h1l: ¬ (i<p0.length):=dfl h1
  have hM:=hE.trans ((congrArg (fun n=>Qa3 p0 p1_0 n i) (sb0 h1l)).trans (Qa3.eq_1 _ _ _))
  refine ad 5 ?_
  exact rz (rs:=[.tmp 4]) (rzI hM)
theorem Qk3 (p0:List Cell) (k:ByteArray): ∀ n i,i+n=p0.length→ -1≤Qa3 p0 k n i∧Qa3 p0 k n i<p0.length:=by
 intro n
 induction n with
 | zero=>intro i _;rw[Qa3];omega
 | succ n ih =>
  intro i h
  rw[Qa3]
  cases Qb0 (nth p0 i) k with
  | false=>exact ih (i+1) (by omega)
  | true=>show -1≤(i:Int)∧(i:Int)<p0.length;omega
theorem Ql4 (p0:List Cell) (k:ByteArray): -1≤Qbb p0 k∧Qbb p0 k<p0.length:=Qk3 p0 k _ 0 (by omega)
def Qa2 (p0:List Cell) (p1_0:ByteArray):Nat→Nat→Int
 | 0,i=>(-1)
 | n+1,i=>bif Qjp (nth p0 i) p1_0 then(i:Int) else(Qa2 p0 p1_0 n (i+1))
def Qbi (p0:List Cell) (p1_0:ByteArray):Int:=Qa2 p0 p1_0 (p0.length - 0) 0
theorem Qmx (p0:List Cell) (p1_0:ByteArray) (hk:Dat.good p1_0):CTs 166 [.o (.sl Cell instDatCell p0),.fn 167 [.rp ByteArray instDatByteArray inferInstance p1_0]] [Re.c (.int .i64 (Qbi p0 p1_0))]:=by
 refine en Tryz.func166 Tryz.ntmps166 fun w hG hgd=>?_
 obtain⟨hg_p0,_⟩:=hgd
 have hl_p0:p0.length≤9223372036854775807:=hg_p0.1
 have hM:=Qbi.eq_1 p0 p1_0
 refine ad 12 ?_
 refine Run.loopM (ι:=Nat) (fun s=>Qa2 p0 p1_0 (p0.length - s) s) (fun s=>⟨19,2,[(0,.sl 0 p0.length),(1,.fn 167 [.pt 1 0]),(7,.v (.int .i64 (p0.length:Int))),(8,.v (.int .i64 (s:Int)))],[(0,.ros Cell instDatCell p0),(1,.roc [.v (.string p1_0)])]⟩) (fun s=>s≤p0.length) (fun s=>p0.length - s) 0 [0,1] [0,1] hM lv0 su (by decide) ?_
 rintro i hv hE
 try dsimp only at hE
 have hi:=hv
 try dsimp only at hi
 refine ad 5 ?_
 refine cd (fun h1=>?_) (fun h1=>?_)
 ·
  have h1l:i<p0.length:=dtl h1
  have hM:=hE.trans ((congrArg (fun n=>Qa2 p0 p1_0 n i) (sb1 h1l)).trans (Qa2.eq_2 _ _ _ _))
  refine ad 13 ?_
  have hg3:=Qai (k:=i) hg_p0 om
  refine op (ix (xs:=p0) i om) ?_
  refine ad 1 ?_
  have hg4:Dat.good (nth p0 i:Cell):=hg3
  refine op (cl (Q6f (nth p0 i) p1_0) Yka) ?_
  refine ad 1 ?_
  refine cd (fun h5=>?_) (fun h5=>?_)
  ·
   have hM:=hM.trans (bt h5)
   refine ad 5 ?_
   exact rz (rs:=[.tmp 4]) (rzI hM)
  ·
   have hM:=hM.trans (bf h5)
   refine ad 4 ?_
   rw[Qb3 (i:=i) om]
   refine ad 2 ?_
   exact Run.again (i+1) [0,1] [1,2] ⟨by first | omega | exact trivial | (dsimp only;omega) | (refine⟨by omega,?_⟩;simp_all;try omega),hM⟩ rfl lv1 su (by decide)
 ·
  have h1l: ¬ (i<p0.length):=dfl h1
  have hM:=hE.trans ((congrArg (fun n=>Qa2 p0 p1_0 n i) (sb0 h1l)).trans (Qa2.eq_1 _ _ _))
  refine ad 5 ?_
  exact rz (rs:=[.tmp 4]) (rzI hM)
theorem Qk2 (p0:List Cell) (k:ByteArray): ∀ n i,i+n=p0.length→ -1≤Qa2 p0 k n i∧Qa2 p0 k n i<p0.length:=by
 intro n
 induction n with
 | zero=>intro i _;rw[Qa2];omega
 | succ n ih =>
  intro i h
  rw[Qa2]
  cases Qjp (nth p0 i) k with
  | false=>exact ih (i+1) (by omega)
  | true=>show -1≤(i:Int)∧(i:Int)<p0.length;omega
theorem Ql3 (p0:List Cell) (k:ByteArray): -1≤Qbi p0 k∧Qbi p0 k<p0.length:=Qk2 p0 k _ 0 (by omega)
def Qcy (p0:List Cell) (p1_0:ByteArray) (k_1:((List Cell)×Int)→(List Cell)):Nat→(List Cell)→Int→Int→(List Cell)
 | 0,w0_1,v5_1,v6_1=>k_1 (w0_1,v5_1)
 | n_1+1,w0_1,v5_1,v6_1=>bif decide (v6_1<(w0_1.length:Int)) then(Qcy p0 p1_0 k_1 n_1 (bif (!(Qb0 (nth w0_1 v6_1.toNat) p1_0)) then(w0_1.set v5_1.toNat (nth w0_1 v6_1.toNat)) else w0_1) (bif (!(Qb0 (nth w0_1 v6_1.toNat) p1_0)) then(i64.wrap (v5_1+1)) else v5_1) (i64.wrap (v6_1+1))) else(k_1 (w0_1,v5_1))
theorem Ql5 (p0:List Cell) (p1_0:ByteArray) (k_1:((List Cell)×Int)→(List Cell)) (fu:Nat) (w0_1:List Cell) (v5_1:Int) (v6_1:Int) (h:(decide (v6_1<(w0_1.length:Int)))=false):Qcy p0 p1_0 k_1 fu w0_1 v5_1 v6_1=k_1 (w0_1,v5_1):=by
 cases fu with
 | zero=>rfl
 | succ n=>exact(bf h)
def Qak (p0:List Cell) (p1_0:ByteArray):(List Cell):=bif decide ((Qbb p0 p1_0)=(-1)) then p0 else(Qcy p0 p1_0 (fun e=>(List.take e.2.toNat (List.take e.2.toNat e.1++List.replicate (e.1.length - e.2.toNat) (Cell.mk ⟨#[]⟩ ⟨#[]⟩)))) (p0.length - (i64.wrap ((Qbb p0 p1_0)+1)).toNat) p0 (Qbb p0 p1_0) (i64.wrap ((Qbb p0 p1_0)+1)))
theorem Qog (p0:List Cell) (p1_0:ByteArray) (hk:Dat.good p1_0):CTMs 164 0 2 [(0,.own Cell instDatCell p0)] [(1,.roc [.v (.string p1_0)])] [.sl 0 p0.length,.fn 165 [.pt 1 0]] [(0,.own Cell instDatCell (Qak p0 p1_0))] 1 [.sl 0 ((Qak p0 p1_0).length)] True:=by
 refine enM Tryz.func164 Tryz.ntmps164 fun S w p hG hb hg=>?_
 refine Run.cg (σ':=⟨42,2,[(0,.sl 0 p0.length),(1,.fn 165 [.pt 1 0])],[(0,.own Cell instDatCell p0),(1,.roc [.v (.string p1_0)])]⟩) rfl ?_
 refine gd 0 fun hg_p0=>?_
 have hl_p0:p0.length≤9223372036854775807:=hg_p0.1
 have hM:=Qak.eq_1 p0 p1_0
 have hin:=Ql4 p0 p1_0
 refine ad 8 ?_
 refine op (cl (Qmy p0 p1_0 (by first | assumption | exact gs _ | exact Qsa (by unfold I64;omega) (by decide) | (show ByteArray.size _≤_;unfold maxLen;omega))) Yfr) ?_
 refine ad 8 ?_
 refine cd (fun h1=>?_) (fun h1=>?_)
 ·
  have hM:=hM.trans (bt h1)
  refine ad 5 ?_
  exact rzM (rs:=[.tmp 4]) [0] [0] (hg1:=trivial) (hG1:=congrArg (fun x=>(True:Prop)) hM) (congrArg (fun x=>([(0,.own Cell instDatCell x)]:List (Nat×En))) hM) (congrArg (fun x=>([.sl 0 x.length]:List V)) hM)
 ·
  have hM:=hM.trans (bf h1)
  have hne:=of_decide_eq_false h1
  have hw:=IntWalk.i64_in (Qbb p0 p1_0+1) (by omega)
  refine ad 9 ?_
  refine Run.loopkM (ι:=Nat×(List Cell)×Int×Int) (κ:=(List Cell)×Int) (fun k s=>Qcy p0 p1_0 k s.1 s.2.1 s.2.2.1 s.2.2.2) (fun s=>⟨42,2,[(0,.sl 0 s.2.1.length),(1,.fn 165 [.pt 1 0]),(5,.v (.int .i64 s.2.2.1)),(6,.v (.int .i64 s.2.2.2))],[(0,.own Cell instDatCell s.2.1),(1,.roc [.v (.string p1_0)])]⟩) (fun s=>p0.length - s.2.2.2.toNat≤s.1∧s.2.1.length=p0.length∧0≤s.2.2.1∧s.2.2.1<s.2.2.2∧s.2.2.2≤(p0.length:Int)) (fun s=>s.1) (fun e=>⟨42,1,[(0,.sl 0 e.1.length),(5,.v (.int .i64 e.2))],[(0,.own Cell instDatCell e.1)]⟩) (fun e=>0≤e.2∧e.2≤(e.1.length:Int)) (p0.length - (i64.wrap ((Qbb p0 p1_0)+1)).toNat,p0,(Qbb p0 p1_0),i64.wrap ((Qbb p0 p1_0)+1)) [0,1] [0,1] hM (by exact⟨Nat.le_refl _,rfl,by(try dsimp only);omega,by(try dsimp only);rw[hw];omega,by(try dsimp only);rw[hw];omega⟩) su (by decide) ?_ ?_
  ·
   rintro ⟨ew0_1,ev5_1⟩ hv hM
   try dsimp only at hM hv ⊢
   refine ad 4 ?_
   refine clr (xs:=ew0_1) (Cell.mk ⟨#[]⟩ ⟨#[]⟩) ev5_1.toNat om ?_ (hi:=om) (hzo:=Ya1)
   refine ad 5 ?_
   refine op (cO (xs:=(List.take ev5_1.toNat ew0_1++List.replicate (ew0_1.length - ev5_1.toNat) (Cell.mk ⟨#[]⟩ ⟨#[]⟩))) ev5_1.toNat (by first | omega | exact om | (simp only[List.length_append,List.length_take,List.length_replicate,List.length_set];omega)) (hl:=by first | rfl | (simp only[List.length_append,List.length_take,List.length_replicate,List.length_set];omega)) (hi:=om)) ?_
   refine ad 2 ?_
   exact rzM (rs:=[.tmp 4]) [2] [0] (hg1:=trivial) (hG1:=congrArg (fun x=>(True:Prop)) hM) (congrArg (fun x=>([(0,.own Cell instDatCell x)]:List (Nat×En))) hM) (congrArg (fun x=>([.sl 0 x.length]:List V)) hM)
  ·
   intro k_1 hk_1
   rintro ⟨fu_1,w0_1,v5_1,v6_1⟩ hv_1 hE
   try dsimp only at hE
   obtain⟨hi_1,hv_1_0,hv_1_1,hv_1_2,hv_1_3⟩:=hv_1
   try dsimp only at hi_1 hv_1_0 hv_1_1 hv_1_2 hv_1_3
   refine ad 8 ?_
   refine cd (fun h2=>?_) (fun h2=>?_)
   ·
    obtain⟨n_1,rfl⟩: ∃ n,fu_1=n+1:=⟨fu_1 - 1,by have:=h2;have:=om (p:=0<p0.length - v6_1.toNat);omega⟩
    have hM:=hE.trans ((Qcy.eq_2 _ _ _ _ _ _ _).trans (bt h2))
    have hlt:=of_decide_eq_true h2
    have hw6:=IntWalk.i64_in (v6_1+1) (by omega)
    have hw5:=IntWalk.i64_in (v5_1+1) (by omega)
    refine ad 7 ?_
    refine op (oi (xs:=w0_1) v6_1.toNat om (hi:=om)) ?_
    refine gd 0 fun hg3=>?_
    have hg4:=Qai (k:=v6_1.toNat) hg3 om
    refine op (lo (xs:=w0_1) v6_1.toNat om) ?_
    refine ad 7 ?_
    refine op (cl (Qwi (nth w0_1 v6_1.toNat) p1_0) Yfs) ?_
    refine ad 2 ?_
    refine Run.mid ⟨42,2,[(0,.sl 0 ((bif (!(Qb0 (nth w0_1 v6_1.toNat) p1_0)) then(w0_1.set v5_1.toNat (nth w0_1 v6_1.toNat)) else w0_1).length)),(1,.fn 165 [.pt 1 0]),(5,.v (.int .i64 (bif (!(Qb0 (nth w0_1 v6_1.toNat) p1_0)) then(i64.wrap (v5_1+1)) else v5_1))),(6,.v (.int .i64 v6_1))],[(0,.own Cell instDatCell (bif (!(Qb0 (nth w0_1 v6_1.toNat) p1_0)) then(w0_1.set v5_1.toNat (nth w0_1 v6_1.toNat)) else w0_1)),(1,.roc [.v (.string p1_0)])]⟩ ?_ ?_
    ·refine cd (fun h5=>?_) (fun h5=>?_)
     ·
      refine ad 5 ?_
      refine op (oi (xs:=w0_1) v5_1.toNat om (hi:=om)) ?_
      refine op (se (xs:=w0_1) v5_1.toNat (nth w0_1 v6_1.toNat) hg4 om) ?_
      refine ad 6 ?_
      exact Run.at [3,1] [0,2] (by first | exact su | (rw[h5];exact su)) (by decide)
     ·
      refine ad 1 ?_
      exact Run.at [0,1] [1,2] (by first | exact su | (rw[h5];exact su)) (by decide)
    refine ad 6 ?_
    exact Run.again (n_1,bif (!(Qb0 (nth w0_1 v6_1.toNat) p1_0)) then(w0_1.set v5_1.toNat (nth w0_1 v6_1.toNat)) else w0_1,bif (!(Qb0 (nth w0_1 v6_1.toNat) p1_0)) then(i64.wrap (v5_1+1)) else v5_1,i64.wrap (v6_1+1)) [0,1] [0,1] ⟨by exact⟨by(try dsimp only);rw[hw6];omega,by((try dsimp only);(try rw[hw5]);(try rw[hw6]);cases Qb0 (nth w0_1 v6_1.toNat) p1_0<;>simp only[Bool.not_true,Bool.not_false,cond_true,cond_false,length_set]<;>omega),by((try dsimp only);(try rw[hw5]);(try rw[hw6]);cases Qb0 (nth w0_1 v6_1.toNat) p1_0<;>simp only[Bool.not_true,Bool.not_false,cond_true,cond_false,length_set]<;>omega),by((try dsimp only);(try rw[hw5]);(try rw[hw6]);cases Qb0 (nth w0_1 v6_1.toNat) p1_0<;>simp only[Bool.not_true,Bool.not_false,cond_true,cond_false,length_set]<;>omega),by(try dsimp only);rw[hw6];omega⟩,hM⟩ rfl (by exact Nat.lt_succ_self _) su (by decide)
   ·
    have hM:=hE.trans (Ql5 p0 p1_0 k_1 fu_1 w0_1 v5_1 v6_1 h2)
    refine ad 1 ?_
    exact Run.exitkM hk_1 (w0_1,v5_1) [0] [0] hM (by((try dsimp only);omega)) su (by decide)
end
section
open Go.RowKit Go.Shelf
theorem Q75 {P:Program} {ops:Array Oper} {o:Oper} {a:Act} {w:World} {K:Act→World→Prop} {Q:Exit→Act→World→Prop} {E:Prop}
    (hg:o.guard=none) (d x:Operand) (dT sT:TypeId) (hop:o.op=Op.call { callee:=Callee.builtin Builtin.copy,args:= #[d,x],argTypes:= #[dT,sT] })
    (v u:Value) (hd:a.eval d=v) (hx:a.eval x=u) {v':Value} {w':World} (hr:(Builtin.copy_ #[dT,sT] o.type #[v,u]).run P w= .ok v' w') (hK:K (a.put o.dst v') w'):
    if Region.wanted o (yielded ops a.tmps)=true then Oper.wp P o a w K Q else E:=by
  have hw:Region.wanted o (yielded ops a.tmps)=true:=by simp[Region.wanted,hg]
  rw[if_pos hw]
  unfold Oper.wp
  simp[execOp,hop,resolve,invoke,builtin,hd,hx,hr,Result.andThen]
  exact hK
theorem Quj:Qeh Tryz.prog 35 114 2 32=true:=by kernel_rfl
theorem Qtz {w:World} {g:Nat} {arr:Array Value} {T:TypeId} (hg:w.heap[g]?=some (.cells arr T (0,0))) (o n:Nat): ∀ j u,((arr.toList.drop o).take n)[j]?=some u→w.cell? ((⟨g,o,none⟩:Addr).add j)=some u:=by
 have hrow:Qcf w ⟨g,0,none⟩ arr.toList:=Qcf.row (by simpa using hg)
 have hp:=hrow.part (off:=o) (n:=n) rfl
 rw[Qqm] at hp
 exact hp
section
variable {xs:List Cell} {c0:Cell} {w:World} {F:List Nat} {g2 cap2:Nat} {arr2:Array Value} {T2:TypeId}
set_option maxHeartbeats 4000000 in
set_option maxRecDepth 100000 in
theorem Yg0 {v:Value} (hbig:xs.length≤1073741824) (hv:SlO w v xs F) (hF:F.Nodup) (hg2:w.heap[g2]?=some (.cells arr2 T2 (0,0))) (hs2:2≤arr2.size) (hel:FlE arr2.toList [c0]) (h1: ∀ u∈Fw.cut 2 arr2.toList 0,u.oneCell'=true):
  Calls Tryz.prog 168 #[v,.int .i64 xs.length,.slice (some ⟨g2,0,none⟩) 1 cap2] w (InsQ (xs++[c0]) F w):=by
 have hl2:(Fw.cut 2 arr2.toList 0).length=[c0].length*Dat.sz Cell:=by
  unfold Fw.cut
  rw[length_take,length_drop,Array.length_toList]
  show min 2 _=2
  omega
 have hsrc:Src w (.slice (some ⟨g2,0,none⟩) 1 cap2) 1 (Fw.cut 2 arr2.toList 0):=⟨_,_,rfl,fun j u hj=>⟨_,rfl,Qtz hg2 _ _ j u hj⟩⟩
 have hy:Qke w (Fw.cut 2 arr2.toList 0) [c0] [[]]:=by
  refine⟨rfl,fun i x hi=>?_⟩
  cases i with
  | succ i=>simp at hi
  | zero =>
   cases hi
   refine⟨[],rfl,?_⟩
   have:=hel 0 c0 rfl w
   rw[show Fw.cut (Dat.sz Cell) (Fw.cut 2 arr2.toList 0) 0=Fw.cut 2 arr2.toList 0 by unfold Fw.cut;rw[Nat.zero_mul,Nat.zero_mul,List.drop_zero,List.drop_zero,List.take_take];rfl]
   exact this
 obtain⟨v',w',F',hrun,r1,r2,r3,r4,r5,r6,r7,r8⟩:=Qt2 (P:=Tryz.prog) (ty:=35) Quj rfl Tryz.zeroValue114 rfl hv hF hsrc hl2 h1 hy List.nodup_nil (fun b hb=>by cases hb) (by simp only[length_cons,length_nil];omega) (by simp only[length_cons,length_nil];unfold maxLen;omega)
 have key : Calls Tryz.prog 168 #[v, .int .i64 xs.length, .slice (some ⟨g2, 0, none⟩) 1 cap2] w fun e w2 => e = .returned v' ∧ w2 = w' := by
  have mixed:Tryz.prog.follows .mixedOrders=true:=by kernel_rfl
  have t35:=Tryz.underlying35;have a35:=Tryz.isAgg35;have z35:=Tryz.sizeOf35;have v35:=Tryz.zeroValue35;have u35:=run_underlying t35
  have t114:=Tryz.underlying114;have a114:=Tryz.isAgg114;have z114:=Tryz.sizeOf114;have v114:=Tryz.zeroValue114;have u114:=run_underlying t114
  have t3:=Tryz.underlying3;have a3:=Tryz.isAgg3;have z3:=Tryz.sizeOf3;have v3:=Tryz.zeroValue3;have u3:=run_underlying t3
  rcases hv.form with ⟨A,cap,rfl,hle⟩
  have hcap:=(Quw (hv.rd (B:=fun _=>True) fun _ _=>trivial)).1
  go_enter Tryz.func168,Tryz.ntmps168
  go_wp2_with (at_builtin;refine Lib.wpList_append_run _ rfl _ _ _ _ rfl _ _ rfl rfl _ _ hrun ?_)
  all_goals (go_ret;exact⟨rfl,rfl⟩)
 refine key.mono fun e w2 h=>?_
 obtain⟨rfl,rfl⟩:=h
 refine⟨v',F',rfl,r1,r2,r3,r4,r5,r6,r7,fun b hb=>?_⟩
 rcases r8 b hb with h | h | h
 ·exact .inl h
 ·cases h
 ·exact .inr h
set_option maxHeartbeats 4000000 in
set_option maxRecDepth 100000 in
theorem Yd4 {n k c g:Nat} {arr:Array Value} {T:TypeId} (hbig:n≤1073741824) (hk:k<n) (hroom:n+1≤c) (hcm:c≤maxLen) (hg:w.heap[g]?=some (.cells arr T (0,0))) (hsz:c*2≤arr.size) (h1: ∀ u∈arr.toList.take (n*2),u.oneCell'=true) (hg2:w.heap[g2]?=some (.cells arr2 T2 (0,0))) (hs2:2≤arr2.size) (h12: ∀ u∈Fw.cut 2 arr2.toList 0,u.oneCell'=true) (hne:g2≠g):
  Calls Tryz.prog 168 #[.slice (some ⟨g,0,none⟩) n c,.int .i64 k,.slice (some ⟨g2,0,none⟩) 1 cap2] w fun e w'=>e= .returned (.slice (some ⟨g,0,none⟩) (n+1) c)∧ ∃ arr',w'.heap[g]?=some (.cells arr' T (0,0))∧arr'.size=arr.size∧(∀ i,i<n+1→Fw.cut 2 arr'.toList i=if i<k then Fw.cut 2 arr.toList i else if i=k then Fw.cut 2 arr2.toList 0 else Fw.cut 2 arr.toList (i - 1))∧w'.os=w.os∧w'.tape=w.tape∧w'.output=w.output∧w.heap.size≤w'.heap.size∧(∀ b,b≠g→w'.heap[b]?=w.heap[b]?):=by
 have mixed:Tryz.prog.follows .mixedOrders=true:=by kernel_rfl
 have t35:=Tryz.underlying35;have a35:=Tryz.isAgg35;have z35:=Tryz.sizeOf35;have v35:=Tryz.zeroValue35;have u35:=run_underlying t35
 have t114:=Tryz.underlying114;have a114:=Tryz.isAgg114;have z114:=Tryz.sizeOf114;have v114:=Tryz.zeroValue114;have u114:=run_underlying t114
 have t3:=Tryz.underlying3;have a3:=Tryz.isAgg3;have z3:=Tryz.sizeOf3;have v3:=Tryz.zeroValue3;have u3:=run_underlying t3
 have hz2: ¬ ((k:Int)=(n:Int)):=by omega
 have hz3: ¬ ((c:Int)<(n:Int)+1):=by omega
 have hw0:IntKind.i64.wrap ((n:Int)+1)=(n:Int)+1:=by rw[IntKind.wrap_i64];omega
 have hw1:IntKind.i64.wrap ((k:Int)+1)=(k:Int)+1:=by rw[IntKind.wrap_i64];omega
 have hb1:(0:Int)≤(k:Int)+1:=by omega
 have htn:((k:Int)+1).toNat=k+1:=by omega
 have htn2:((n:Int)+1).toNat=n+1:=by omega
 have hb2: ¬ (c=k+1):=by omega
 have hb4: ¬ (c=k):=by omega
 have hb3:(k:Int)≤(n:Int)+1:=by omega
 have hkn:k≤n:=by omega
 have hln:(n:Int)+1≤(c:Int):=by omega
 have hal:arr.toList.length=arr.size:=Array.length_toList
 have ha2:arr2.toList.length=arr2.size:=Array.length_toList
 have hov : ∀ lb cb, (callFunc 221 #[.slice (some ⟨g2, 0, none⟩) 1 cap2, .slice (some ⟨g, (k + 1) * 2, none⟩) lb cb]).run Tryz.prog w = .ok (.value (.bool false)) w := fun lb cb => by
  rw[run_callFunc_extern Tryz.func221 (by kernel_rfl) (by kernel_rfl) (by kernel_rfl) (e:=Extern.SlicesOverlaps.overlaps #[35,35] #[4]) (by kernel_rfl),
   Lib.run_overlaps_apart w 35 4 114 t35 2 z114 ⟨g2,0,none⟩ ⟨g,(k+1)*2,none⟩ 1 cap2 lb cb hne T2 T arr2.size arr.size (by simp[World.shape?,hg2]) (by simp[World.shape?,hg]) (by omega) (by simp[World.frozen?,hg2]) (by simp[World.frozen?,hg2])]
  rfl
 obtain⟨mid,hmid⟩: ∃ mid,mid=midC 2 k (n - k) arr.toList:=⟨_,rfl⟩
 have hml:mid.length=(n - k)*2:=by rw[hmid];exact Q8f (by omega)
 obtain⟨arr1,harr1⟩: ∃ arr1:Array Value,arr1=(arr.toList.take ((k+1)*2)++mid++arr.toList.drop ((k+1)*2+(n - k)*2)).toArray:=⟨_,rfl⟩
 have hz1:arr1.size=arr.size:=by
  rw[harr1]
  simp only[size_toArray,length_append,length_take,length_drop,hml]
  omega
 have hal1:arr1.toList.length=arr1.size:=Array.length_toList
 obtain⟨ec,hec⟩: ∃ ec,ec=Fw.cut 2 arr2.toList 0:=⟨_,rfl⟩
 have hel:ec.length=1*2:=by rw[hec];unfold Fw.cut;rw[List.length_take,List.length_drop,ha2];omega
 obtain⟨arr3,harr3⟩: ∃ arr3:Array Value,arr3=(arr1.toList.take (k*2)++ec++arr1.toList.drop (k*2+1*2)).toArray:=⟨_,rfl⟩
 have hz4:arr3.size=arr.size:=by
  rw[harr3]
  simp only[size_toArray,length_append,length_take,length_drop,hel]
  omega
 have hm1: ∀ u∈mid,u.oneCell'=true:=fun u hu=>by rw[hmid] at hu;exact h1 u (Q8e hkn hu)
 have hc1: ∀ u∈ec,u.oneCell'=true:=fun u hu=>by rw[hec] at hu;exact h12 u hu
 have hcp1 : ∀ (W : World), W.heap = w.heap → ∀ ty dc sc, (Builtin.copy_ #[35, 35] ty #[.slice (some ⟨g, (k + 1) * 2, none⟩) (n - k) dc, .slice (some ⟨g, k * 2, none⟩) (n + 1 - k) sc]).run Tryz.prog W = .ok (goInt (n - k : Nat)) (W.setRow g arr1) := fun W hW ty dc sc => by
  have hgW:W.heap[g]?=some (.cells arr T (0,0)):=by rw[hW];exact hg
  rw[harr1]
  exact Q22 Quj (S:=⟨g,k*2,none⟩) (m:=n - k) (by simp only[Nat.min_def];split<;>omega) hml (by rw[hmid];exact Qtz hgW _ _) hgW (by omega) hm1
 have hcp2 : ∀ (W : World), W.heap[g]? = some (.cells arr1 T (0, 0)) → W.heap[g2]? = some (.cells arr2 T2 (0, 0)) → ∀ ty dc, (Builtin.copy_ #[35, 35] ty #[.slice (some ⟨g, k * 2, none⟩) (n + 1 - k) dc, .slice (some ⟨g2, 0, none⟩) 1 cap2]).run Tryz.prog W = .ok (goInt (1 : Nat)) (W.setRow g arr3) := fun W hW1 hW2 ty dc => by
  rw[harr3]
  exact Q22 Quj (S:=⟨g2,0,none⟩) (m:=1) (by simp only[Nat.min_def];split<;>omega) hel (by rw[hec];unfold Fw.cut;rw[Nat.zero_mul];exact Qtz hW2 _ _) hW1 (by omega) hc1
 have hrow1: ∀ (W:World),W.heap=w.heap→(W.setRow g arr1).heap[g]?=some (.cells arr1 T (0,0)):=fun W hW=>setRow_heap W g arr arr1 T (0,0) (by rw[hW];exact hg)
 have hrow2: ∀ (W:World),W.heap=w.heap→(W.setRow g arr1).heap[g2]?=some (.cells arr2 T2 (0,0)):=fun W hW=>(setRow_other W g g2 _ hne).trans (by rw[hW];exact hg2)
 have hfin : ∀ i, i < n + 1 → Fw.cut 2 arr3.toList i = if i < k then Fw.cut 2 arr.toList i else if i = k then Fw.cut 2 arr2.toList 0 else Fw.cut 2 arr.toList (i - 1) := fun i hi => by
  rw[harr3,show(arr1.toList.take (k*2)++ec++arr1.toList.drop (k*2+1*2)).toArray.toList=_ from rfl,Qum hel (by omega)]
  by_cases h3:i<k
  ·rw[if_pos h3,if_pos h3,harr1,show(arr.toList.take ((k+1)*2)++mid++arr.toList.drop ((k+1)*2+(n - k)*2)).toArray.toList=_ from rfl,Qum hml (by omega),if_pos (by omega)]
  ·rw[if_neg h3,if_neg h3]
   by_cases h4:i=k
   ·rw[if_pos (by omega),if_pos h4,h4,Nat.sub_self,hec]
    unfold Fw.cut
    rw[Nat.zero_mul,List.drop_zero,List.drop_zero,List.take_take,Nat.min_self]
   ·rw[if_neg (by omega),if_neg h4,harr1,show(arr.toList.take ((k+1)*2)++mid++arr.toList.drop ((k+1)*2+(n - k)*2)).toArray.toList=_ from rfl,Qum hml (by omega),if_neg (by omega),if_pos (by omega),hmid,Q8g (by omega),show k+(i - (k+1))=i - 1 by omega]
 clear harr1 harr3 hmid hec hml hel hal ha2 hal1 hm1 hc1
 go_enter Tryz.func168,Tryz.ntmps168
 go_wp2_with (simp only[hov])
 go_region_law_o (refine Q75 rfl _ _ 35 35 rfl (.slice (some ⟨g,(k+1)*2,none⟩) (n - k) (c - (k+1))) (.slice (some ⟨g,k*2,none⟩) (n+1 - k) (c - k)) (by simp[Act.eval,Act.put]) (by simp[Act.eval,Act.put]) (hcp1 w.drew rfl 3 (c - (k+1)) (c - k)) ?_)
 go_wp2
 rw[hcp2 (w.drew.setRow g arr1) (hrow1 w.drew rfl) (hrow2 w.drew rfl) 3 (c - k)]
 simp only[Result.andThen]
 rw[Oper.upon_value]
 go_wp2
 go_ret
 exact⟨rfl,arr3,setRow_heap _ g arr1 arr3 T (0,0) (hrow1 w.drew rfl),hz4,hfin,rfl,rfl,rfl,by simp,fun b hb=>(setRow_other _ g b _ hb).trans (setRow_other _ g b _ hb)⟩
set_option maxHeartbeats 4000000 in
set_option maxRecDepth 100000 in
theorem Yd5 {n k g:Nat} {arr:Array Value} {T:TypeId} (hbig:n≤1073741824) (hk:k<n) (hg:w.heap[g]?=some (.cells arr T (0,0))) (hsz:n*2≤arr.size) (h1: ∀ u∈arr.toList.take (n*2),u.oneCell'=true) (hg2:w.heap[g2]?=some (.cells arr2 T2 (0,0))) (hs2:2≤arr2.size) (h12: ∀ u∈Fw.cut 2 arr2.toList 0,u.oneCell'=true):
  Calls Tryz.prog 168 #[.slice (some ⟨g,0,none⟩) n n,.int .i64 k,.slice (some ⟨g2,0,none⟩) 1 cap2] w fun e w'=> ∃ G arr',e= .returned (.slice (some ⟨w.heap.size,0,none⟩) (n+1) G)∧n+1≤G∧G≤maxLen∧w'.heap[w.heap.size]?=some (.cells arr' 114 (0,0))∧arr'.size=G*2∧(∀ i,i<n+1→Fw.cut 2 arr'.toList i=if i<k then Fw.cut 2 arr.toList i else if i=k then Fw.cut 2 arr2.toList 0 else Fw.cut 2 arr.toList (i - 1))∧w'.os=w.os∧w'.tape=w.tape∧w'.output=w.output∧w.heap.size≤w'.heap.size∧(∀ b,b<w.heap.size→w'.heap[b]?=w.heap[b]?):=by
 have mixed:Tryz.prog.follows .mixedOrders=true:=by kernel_rfl
 have t35:=Tryz.underlying35;have a35:=Tryz.isAgg35;have z35:=Tryz.sizeOf35;have v35:=Tryz.zeroValue35;have u35:=run_underlying t35
 have t114:=Tryz.underlying114;have a114:=Tryz.isAgg114;have z114:=Tryz.sizeOf114;have v114:=Tryz.zeroValue114;have u114:=run_underlying t114
 have t3:=Tryz.underlying3;have a3:=Tryz.isAgg3;have z3:=Tryz.sizeOf3;have v3:=Tryz.zeroValue3;have u3:=run_underlying t3
 have hkn:k≤n:=by omega
 obtain⟨hu,i0,hi0,his,hib⟩:=Qbd Quj
 have hz0:i0.zero=some (.agg #[.string ⟨#[]⟩,.string ⟨#[]⟩]):=by
  have:=v114 w
  simp only[zeroValue,Sem.run_bind,typeInfo,run_program,hi0,Sem.run_pure,Result.andThen_ok] at this
  cases hzz:i0.zero with
  | none=>rw[hzz] at this;simp at this
  | some z'=>rw[hzz] at this;simp at this;rw[this]
 have hal:arr.toList.length=arr.size:=Array.length_toList
 have ha2:arr2.toList.length=arr2.size:=Array.length_toList
 have hgw:g<w.heap.size:=(Array.getElem?_eq_some_iff.1 hg).1
 have hgw2:g2<w.heap.size:=(Array.getElem?_eq_some_iff.1 hg2).1
 obtain⟨G,hG⟩: ∃ G,G=grownCap w (n+1) n 114:=⟨_,rfl⟩
 have hGn:n+1≤G:=by rw[hG];exact grownCap_ge w _ _ _
 have hGm:G≤maxLen:=by rw[hG];exact grownCap_le_maxLen w _ _ _ (by unfold maxLen;omega)
 obtain⟨olds,holds⟩: ∃ olds,olds=(arr.toList.drop (0*2)).take (k*2):=⟨_,rfl⟩
 have hol:olds.length=k*2:=by rw[holds,List.length_take,List.length_drop];omega
 obtain⟨ROW,hROW⟩: ∃ ROW:Array Value,ROW=olds.toArray++Builtin.zeroCells ((.agg #[.string ⟨#[]⟩,.string ⟨#[]⟩]):Value).cells (n+1 - k)++Builtin.zeroCells ((.agg #[.string ⟨#[]⟩,.string ⟨#[]⟩]):Value).cells (G - (n+1)):=⟨_,rfl⟩
 have hzc:((.agg #[.string ⟨#[]⟩,.string ⟨#[]⟩]):Value).cells.size=2:=rfl
 have hRs:ROW.size=G*2:=by
  rw[hROW]
  simp only[Array.size_append,size_toArray,size_zeroCells,hzc,hol]
  omega
 have hRl:ROW.toList.length=ROW.size:=Array.length_toList
 have hRc : ∀ i, i < k → Fw.cut 2 ROW.toList i = Fw.cut 2 arr.toList i := fun i hi => by
  rw[hROW,Array.toList_append,Array.toList_append,append_assoc,Qj8 (n:=k) hol hi,holds,Nat.zero_mul,List.drop_zero,Qos hi]
 have hold:(Builtin.firstCells i0.size k (.slice (some ⟨g,0,none⟩) k n)).run Tryz.prog w.drew= .ok olds.toArray w.drew:=by
  rw[his]
  exact run_firstCells_some w.drew 2 k ⟨g,0,none⟩ k n olds hol (by rw[holds,Nat.zero_mul];exact Qtz (w:=w.drew) hg _ _)
 have hik:k+(n+1 - k)=n+1:=by omega
 have hkk:(n:Int)+1 - (k:Int)=((n+1 - k:Nat):Int):=by omega
 have hrz : ∀ ty, (Builtin.append_ #[35, 3] ty #[.slice (some ⟨g, 0, none⟩) k n, .int .i64 ((n : Int) + 1 - (k : Int))]).run Tryz.prog w = .ok (.slice (some ⟨w.heap.size, 0, none⟩) (n + 1) G) (w.drew.alloc (.cells ROW 114)) := fun ty => by
  have h:=Lib.run_append_grow_zeros w 35 3 ty 114 i0 (.agg #[.string ⟨#[]⟩,.string ⟨#[]⟩]) .i64 .i64 t35 t3 hi0 hz0 (some ⟨g,0,none⟩) k n olds hold (n+1 - k) (by omega) (by omega) (by omega) (by omega) (by rw[hib];omega) (by rw[hib,hik];exact growslice_fits (by omega) (by omega))
  rw[hik,←hG,←hROW] at h
  rw[hkk]
  exact h
 obtain⟨mid,hmid⟩: ∃ mid,mid=midC 2 k (n - k) arr.toList:=⟨_,rfl⟩
 have hml:mid.length=(n - k)*2:=by rw[hmid];exact Q8f (by omega)
 obtain⟨ec,hec⟩: ∃ ec,ec=Fw.cut 2 arr2.toList 0:=⟨_,rfl⟩
 have hel:ec.length=1*2:=by rw[hec];unfold Fw.cut;rw[List.length_take,List.length_drop,ha2];omega
 obtain⟨arr1,harr1⟩: ∃ arr1:Array Value,arr1=(ROW.toList.take (k*2)++ec++ROW.toList.drop (k*2+1*2)).toArray:=⟨_,rfl⟩
 have hz1:arr1.size=ROW.size:=by
  rw[harr1]
  simp only[size_toArray,length_append,length_take,length_drop,hel]
  omega
 have hal1:arr1.toList.length=arr1.size:=Array.length_toList
 obtain⟨arr3,harr3⟩: ∃ arr3:Array Value,arr3=(arr1.toList.take ((k+1)*2)++mid++arr1.toList.drop ((k+1)*2+(n - k)*2)).toArray:=⟨_,rfl⟩
 have hz4:arr3.size=G*2:=by
  rw[harr3]
  simp only[size_toArray,length_append,length_take,length_drop,hml]
  omega
 have hm1: ∀ u∈mid,u.oneCell'=true:=fun u hu=>by rw[hmid] at hu;exact h1 u (Q8e hkn hu)
 have hc1: ∀ u∈ec,u.oneCell'=true:=fun u hu=>by rw[hec] at hu;exact h12 u hu
 have hcp1 : ∀ (W : World), W.heap[w.heap.size]? = some (.cells ROW 114 (0, 0)) → W.heap[g2]? = some (.cells arr2 T2 (0, 0)) → ∀ ty dc, (Builtin.copy_ #[35, 35] ty #[.slice (some ⟨w.heap.size, k * 2, none⟩) (n + 1 - k) dc, .slice (some ⟨g2, 0, none⟩) 1 cap2]).run Tryz.prog W = .ok (goInt (1 : Nat)) (W.setRow w.heap.size arr1) := fun W hW1 hW2 ty dc => by
  rw[harr1]
  exact Q22 Quj (S:=⟨g2,0,none⟩) (m:=1) (by simp only[Nat.min_def];split<;>omega) hel (by rw[hec];unfold Fw.cut;rw[Nat.zero_mul];exact Qtz hW2 _ _) hW1 (by omega) hc1
 have hcp2 : ∀ (W : World), W.heap[w.heap.size]? = some (.cells arr1 114 (0, 0)) → W.heap[g]? = some (.cells arr T (0, 0)) → ∀ ty dc sc, (Builtin.copy_ #[35, 35] ty #[.slice (some ⟨w.heap.size, (k + 1) * 2, none⟩) (n - k) dc, .slice (some ⟨g, k * 2, none⟩) (n - k) sc]).run Tryz.prog W = .ok (goInt (n - k : Nat)) (W.setRow w.heap.size arr3) := fun W hW1 hW2 ty dc sc => by
  rw[harr3]
  exact Q22 Quj (S:=⟨g,k*2,none⟩) (m:=n - k) (Nat.min_self _) hml (by rw[hmid];exact Qtz hW2 _ _) hW1 (by omega) hm1
 have hfin : ∀ i, i < n + 1 → Fw.cut 2 arr3.toList i = if i < k then Fw.cut 2 arr.toList i else if i = k then Fw.cut 2 arr2.toList 0 else Fw.cut 2 arr.toList (i - 1) := fun i hi => by
  rw[harr3,show(arr1.toList.take ((k+1)*2)++mid++arr1.toList.drop ((k+1)*2+(n - k)*2)).toArray.toList=_ from rfl,Qum hml (by omega)]
  by_cases h3:i<k+1
  ·rw[if_pos h3,harr1,show(ROW.toList.take (k*2)++ec++ROW.toList.drop (k*2+1*2)).toArray.toList=_ from rfl,Qum hel (by omega)]
   by_cases h4:i<k
   ·rw[if_pos h4,if_pos h4,hRc i h4]
   ·rw[if_neg h4,if_neg h4,if_pos (by omega),if_pos (by omega),show i - k=0 by omega,hec]
    unfold Fw.cut
    rw[Nat.zero_mul,List.drop_zero,List.drop_zero,List.take_take,Nat.min_self]
  ·rw[if_neg h3,if_pos (by omega),if_neg (by omega),if_neg (by omega),hmid,Q8g (by omega),show k+(i - (k+1))=i - 1 by omega]
 have hn1: ∀ (W:World),W.heap=(w.drew.alloc (.cells ROW 114)).heap→W.heap[w.heap.size]?=some (.cells ROW 114 (0,0)):=fun W hW=>by rw[hW];exact heap_alloc_new w.drew _
 have ho1: ∀ (W:World),W.heap=(w.drew.alloc (.cells ROW 114)).heap→ ∀ b,b<w.heap.size→W.heap[b]?=w.heap[b]?:=fun W hW b hb=>by rw[hW];exact heap_alloc_old w.drew _ hb
 have hn2: ∀ (W:World),W.heap=((w.drew.alloc (.cells ROW 114)).setRow w.heap.size arr1).heap→W.heap[w.heap.size]?=some (.cells arr1 114 (0,0)):=fun W hW=>by rw[hW];exact setRow_heap _ _ ROW arr1 _ (0,0) (heap_alloc_new w.drew _)
 have ho2: ∀ (W:World),W.heap=((w.drew.alloc (.cells ROW 114)).setRow w.heap.size arr1).heap→ ∀ b,b<w.heap.size→W.heap[b]?=w.heap[b]?:=fun W hW b hb=>by rw[hW,setRow_other _ _ b _ (by omega)];exact heap_alloc_old w.drew _ hb
 clear harr1 harr3 hmid hec hml hel hal ha2 hal1 hm1 hc1 hROW hRs hRl hRc hold holds hol hG hkk hik
 have hz2: ¬ ((k:Int)=(n:Int)):=by omega
 have hz3:(n:Int)<(n:Int)+1:=by omega
 have hw0:IntKind.i64.wrap ((n:Int)+1)=(n:Int)+1:=by rw[IntKind.wrap_i64];omega
 have hw1:IntKind.i64.wrap ((k:Int)+1)=(k:Int)+1:=by rw[IntKind.wrap_i64];omega
 have hw2:IntKind.i64.wrap ((n:Int)+1 - (k:Int))=(n:Int)+1 - (k:Int):=by rw[IntKind.wrap_i64];omega
 have hb1:(0:Int)≤(k:Int)+1:=by omega
 have htn:((k:Int)+1).toNat=k+1:=by omega
 have hb2: ¬ (G=k+1):=by omega
 have hb3:(k:Int)≤(n:Int)+1:=by omega
 have hb4: ¬ (G=k):=by omega
 have hb5: ¬ (n=k):=by omega
 go_enter Tryz.func168,Tryz.ntmps168
 go_wp2_with (at_builtin;refine Lib.wpList_append_run _ rfl _ _ _ _ rfl _ _ rfl rfl _ _ (hrz _) ?_)
 rw[hcp1 (w.alloc (.cells ROW 114)).drew (hn1 _ rfl) ((ho1 _ rfl g2 hgw2).trans hg2) 3 (G - k)]
 simp only[Result.andThen]
 rw[Oper.upon_value]
 go_wp2
 go_region_law_o (refine Q75 rfl _ _ 35 35 rfl (.slice (some ⟨w.heap.size,(k+1)*2,none⟩) (n - k) (G - (k+1))) (.slice (some ⟨g,k*2,none⟩) (n - k) (n - k)) (by simp[Act.eval,Act.put]) (by simp[Act.eval,Act.put]) (hcp2 ((w.alloc (.cells ROW 114)).drew.setRow w.heap.size arr1).drew (hn2 _ rfl) ((ho2 _ rfl g hgw).trans hg) 3 (G - (k+1)) (n - k)) ?_)
 go_wp2
 go_ret
 refine⟨G,arr3,rfl,hGn,hGm,setRow_heap _ _ arr1 arr3 _ (0,0) (hn2 _ rfl),hz4,hfin,rfl,rfl,rfl,?_,fun b hb=>(setRow_other _ _ b _ (by omega)).trans (ho2 _ rfl b hb)⟩
 simp
theorem Yg1 (k:Nat) (hk:k≤xs.length) (hbig:xs.length≤1073741824) {v v2:Value} {F2:List Nat} (hv:SlO w v xs F) (hF:F.Nodup) (hv2:SlO w v2 [c0] F2) (hdj: ∀ b∈F2,b ∉ F):
  Calls Tryz.prog 168 #[v,.int .i64 k,v2] w (InsQ (insL xs k c0) F w):=by
 have hfl:Qqw (Str.fk (α:=Cell))=true:=rfl
 rcases hv2.fl inferInstance hfl with ⟨_,e2⟩ | ⟨g2,cap2,arr2,T2,e1,e2,e3,e4,e5,e6,e7⟩
 ·cases e2
 subst e1
 have hs2:2≤arr2.size:=by
  have:1≤cap2:=e3
  have:=Nat.mul_le_mul_right (Dat.sz Cell) this
  exact Nat.le_trans this e5
 have h12: ∀ u∈Fw.cut 2 arr2.toList 0,u.oneCell'=true:=fun u hu=>e7.one w u (by unfold Fw.cut at hu;rwa [Nat.zero_mul,List.drop_zero] at hu)
 by_cases hkn:k=xs.length
 ·subst hkn
  have h:=Yg0 hbig hv hF e2 hs2 e7 h12 (cap2:=cap2)
  unfold insL
  rw[List.take_length,List.drop_length]
  exact h
 have hk':k<xs.length:=by omega
 have hc0: ∀ w,Dat.own w (Fw.cut 2 arr2.toList 0) c0 []:=fun w=>e7 0 c0 rfl w
 rcases hv.fl inferInstance hfl with ⟨_,q2⟩ | ⟨g,cap,arr,T,q1,q2,q3,q4,q5,q6,q7⟩
 ·rw[q2] at hk';simp at hk'
 subst q1
 have hlt:=hv.lt
 have h1:=q7.one w
 have hne:g2≠g:=fun e=>hdj g2 e6 (by rw[e];exact q6)
 by_cases hroom:xs.length+1≤cap
 ·refine (Yd4 hbig hk' hroom q4 q2 q5 h1 e2 hs2 h12 hne (cap2 := cap2)).mono fun e w' hq => ?_
  obtain⟨rfl,arr',r1,r2,r3,r4,r5,r6,r7,r8⟩:=hq
  refine⟨_,[g],rfl,(q7.ins hk hc0 r3).slo r1 (Qr1 hk).symm hroom q4 (by rw[r2];exact q5),by simp,r4,r5,r6,r7,fun b _ hb=>r8 b fun e=>hb (by rw[e];exact q6),fun b hb=> .inl (by rw[mem_singleton.1 hb];exact q6)⟩
 ·obtain rfl : cap = xs.length := by omega
  refine(Yd5 hbig hk' q2 q5 h1 e2 hs2 h12 (cap2:=cap2)).mono fun e w' hq=>?_
  obtain⟨G,arr',rfl,r0,r0',r1,r2,r3,r4,r5,r6,r7,r8⟩:=hq
  exact⟨_,[w.heap.size],rfl,(q7.ins hk hc0 r3).slo r1 (Qr1 hk).symm r0 r0' (by rw[r2];exact Nat.le_refl _),by simp,r4,r5,r6,r7,fun b hb _=>r8 b hb,fun b hb=> .inr (by rw[mem_singleton.1 hb];exact Nat.le_refl _)⟩
end
def Q67 (xs:List Cell) (k:Int) (ys:List Cell):List Cell:=insL xs k.toNat (nth ys 0)
theorem Ybx (xs : List Cell) (k : Int) (ys : List Cell) (hy : ys.length = 1) (h0 : 0 ≤ k) (hk : k ≤ xs.length) (hbig : xs.length ≤ 1073741824) : CTM Tryz.prog Gw gls 168 0 2 [(0, .own Cell instDatCell xs), (1, .own Cell instDatCell ys)] [] [.sl 0 xs.length, .v (.int .i64 k), .sl 1 ys.length] [(0, .own Cell instDatCell (Q67 xs k ys))] 1 [.sl 0 (Q67 xs k ys).length] True := CTM.row2 fun w v v2 F F2 h1 h2 h3 h4 => by
 match ys,hy with
 | [c0], _ =>
  obtain⟨j,rfl⟩: ∃ j:Nat,k=(j:Int):=⟨k.toNat,by omega⟩
  exact Yg1 j (by omega) hbig h1 h2 h3 h4
end
section
def idxL (f:Cell→Bool) (xs:List Cell):Nat→Nat→Int
 | 0,_=> -1
 | n+1,i=>bif f (nth xs i) then(i:Int) else idxL f xs n (i+1)
theorem Q52 {f:Cell→Bool} {xs:List Cell}: ∀ n i,i+n=xs.length→(idxL f xs n i= -1∧ ∀ j,i≤j→j<xs.length→f (nth xs j)=false) ∨ ∃ m,i≤m∧m<xs.length∧idxL f xs n i=(m:Int)∧f (nth xs m)=true∧ ∀ j,i≤j→j<m→f (nth xs j)=false:=by
 intro n
 induction n with
 | zero=>intro i h;exact .inl ⟨rfl,fun j h1 h2=>by omega⟩
 | succ n ih =>
  intro i h
  rw[idxL]
  cases hf:f (nth xs i) with
  | true=>exact .inr ⟨i,Nat.le_refl _,by omega,rfl,hf,fun j h1 h2=>by omega⟩
  | false =>
   rcases ih (i+1) (by omega) with ⟨h1,h2⟩ | ⟨m,h1,h2,h3,h4,h5⟩
   ·exact .inl ⟨h1,fun j a b=>if e:j=i then e▸hf else h2 j (by omega) b⟩
   ·exact .inr ⟨m,by omega,h2,h3,h4,fun j a b=>if e:j=i then e▸hf else h5 j (by omega) b⟩
theorem Ylz (p0:List Cell) (k:ByteArray): ∀ n i,Qa3 p0 k n i=idxL (fun c=>Qb0 c k) p0 n i:=by
 intro n
 induction n with
 | zero=>intro i;rfl
 | succ n ih=>intro i;rw[Qa3,idxL,ih]
theorem Yly (p0:List Cell) (k:ByteArray): ∀ n i,Qa2 p0 k n i=idxL (fun c=>Qjp c k) p0 n i:=by
 intro n
 induction n with
 | zero=>intro i;rfl
 | succ n ih=>intro i;rw[Qa2,idxL,ih]
theorem Qgd {α:Type} [Inhabited α] {xs:List α} {i:Nat} (h:i<xs.length):xs[i]?=some (nth xs i):=by
 rw[getElem?_eq_getElem h]
 simp[nth,List.getD_eq_getElem?_getD,h]
theorem Qg4 {α:Type} [Inhabited α] {xs:List α} {i:Nat} (h:i<xs.length):xs.take (i+1)=xs.take i++[nth xs i]:=by
 rw[List.take_add_one,Qgd h]
 rfl
theorem Qyo {f:Cell→Bool} {xs:List Cell} {n:Nat} (hn:n≤xs.length) (h: ∀ j,j<n→f (nth xs j)=false):(xs.take n).filter (fun c=>!f c)=xs.take n:=by
 induction n with
 | zero=>simp
 | succ n ih =>
  rw[Qg4 (by omega),List.filter_append,ih (by omega) fun j hj=>h j (by omega)]
  simp[h n (by omega)]
theorem Yn9 (p0:List Cell) (k:ByteArray) (hb:p0.length≤9223372036854775806) (K:(List Cell×Int)→List Cell): ∀ (n:Nat) (w:List Cell) (i j:Nat),w.length=p0.length→i<j→j≤p0.length→p0.length - j≤n→w.take i=(p0.take j).filter (fun c=>!Qb0 c k)→(∀ m,j≤m→w[m]?=p0[m]?)→
  ∃ (w':List Cell) (i':Nat),Qcy p0 k K n w i j=K (w',(i':Int))∧w'.length=p0.length∧i'≤p0.length∧w'.take i'=p0.filter (fun c=>!Qb0 c k):=by
 intro n
 induction n with
 | zero =>
  intro w i j h1 h2 h3 h4 h5 h6
  obtain rfl:j=p0.length:=by omega
  exact⟨w,i,rfl,h1,by omega,by rw[h5,List.take_length]⟩
 | succ n ih =>
  intro w i j h1 h2 h3 h4 h5 h6
  rw[Qcy]
  by_cases hj:j<p0.length
  ·rw[decide_eq_true (show(j:Int)<(w.length:Int) by omega),cond_true,IntWalk.i64_in ((j:Int)+1) (by omega),IntWalk.i64_in ((i:Int)+1) (by omega)]
   have hx:nth w j=nth p0 j:=by
    have:=h6 j (Nat.le_refl _)
    rw[Qgd (by omega),Qgd hj] at this
    exact Option.some.inj this
   have hjt:((j:Int)).toNat=j:=rfl
   have hit:((i:Int)).toNat=i:=rfl
   rw[hjt,hit,hx,show(j:Int)+1=((j+1:Nat):Int) from rfl,show(i:Int)+1=((i+1:Nat):Int) from rfl]
   have hfil:(p0.take (j+1)).filter (fun c=>!Qb0 c k)=(p0.take j).filter (fun c=>!Qb0 c k)++[nth p0 j].filter (fun c=>!Qb0 c k):=by rw[Qg4 hj,List.filter_append]
   cases hc:Qb0 (nth p0 j) k with
   | true =>
    refine ih w i (j+1) h1 (by omega) (by omega) (by omega) ?_ fun m hm=>h6 m (by omega)
    rw[hfil,h5]
    simp[hc]
   | false =>
    refine ih (w.set i (nth p0 j)) (i+1) (j+1) (by rw[length_set];exact h1) (by omega) (by omega) (by omega) ?_ fun m hm=>?_
    ·rw[hfil,←h5]
     have hl:i<(w.set i (nth p0 j)).length:=by rw[List.length_set];omega
     rw[List.take_add_one,List.getElem?_set_self (by omega),List.take_set_of_le (by omega)]
     simp[hc]
    ·rw[List.getElem?_set_ne (by omega)]
     exact h6 m (by omega)
  ·rw[decide_eq_false (show ¬ (j:Int)<(w.length:Int) by omega),cond_false]
   obtain rfl:j=p0.length:=by omega
   exact⟨w,i,rfl,h1,by omega,by rw[h5,List.take_length]⟩
theorem Qoy (p0:List Cell) (k:ByteArray) (hb:p0.length≤9223372036854775806):Qak p0 k=p0.filter (fun c=>!Qb0 c k):=by
 unfold Qak Qbb
 rw[Ylz]
 rcases Q52 (f:=fun c=>Qb0 c k) (xs:=p0) (p0.length - 0) 0 (by omega) with ⟨h1,h2⟩ | ⟨m,_,h2,h3,h4,h5⟩
 ·rw[h1,decide_eq_true rfl,cond_true]
  have:=Qyo (f:=fun c=>Qb0 c k) (xs:=p0) (Nat.le_refl _) fun j hj=>h2 j (by omega) hj
  rw[List.take_length] at this
  exact this.symm
 ·rw[h3,decide_eq_false (by omega),cond_false,IntWalk.i64_in ((m:Int)+1) (by omega)]
  obtain⟨w',i',e1,e2,e3,e4⟩:=Yn9 p0 k hb (fun e=>(List.take e.2.toNat (List.take e.2.toNat e.1++List.replicate (e.1.length - e.2.toNat) (Cell.mk ⟨#[]⟩ ⟨#[]⟩)))) (p0.length - (m+1)) p0 m (m+1) rfl (by omega) (by omega) (Nat.le_refl _) (by
   rw[Qg4 h2,List.filter_append,Qyo (by omega) fun j hj=>h5 j (by omega) hj]
   simp[h4]) fun _ _=>rfl
  rw[show((m:Int)+1).toNat=m+1 from rfl,show(m:Int)+1=((m+1:Nat):Int) from rfl,e1]
  show List.take i' (List.take i' w'++_)=_
  rw[List.take_append_of_le_length (by rw[length_take];omega),List.take_take,Nat.min_self,e4]
theorem Q4i (p0:List Cell) (k:ByteArray) (hb:p0.length≤9223372036854775806):(Qak p0 k).length≤p0.length:=by rw[Qoy p0 k hb];exact List.length_filter_le _ _
theorem Qri (p0:List Cell) (k:ByteArray):p0.length≤9223372036854775806→(Qak p0 k).length≤p0.length:=Q4i p0 k
theorem Ylq {k:Int} {n:Nat} (h: -1≤k∧k<n):0≤(bif decide (k<0) then(n:Int) else k)∧(bif decide (k<0) then(n:Int) else k)≤n:=by
 rw[Bool.cond_eq_ite]
 split
 ·omega
 ·rename_i hc
  have:=of_decide_eq_false (Bool.not_eq_true _▸hc)
  omega
end
section
theorem Ykb:FnOk Tryz.prog 164:=⟨_,Tryz.func164,rfl,by kernel_rfl⟩
theorem Yj9:FnOk Tryz.prog 168:=⟨_,Tryz.func168,rfl,by kernel_rfl⟩
def Qlr (p0:List Cell) (p1:ByteArray) (p2:ByteArray):(List Cell):=bif (!(Qjs p1))||(decide ((p2.size:Int)>60)) then p0 else(bif decide (p2=⟨#[]⟩) then(Qak p0 p1) else(Q67 (Qak p0 p1) (bif (decide ((Qbi (Qak p0 p1) p1)<0)) then((Qak p0 p1).length:Int) else(Qbi (Qak p0 p1) p1)) ([(Cell.mk p1 p2)]:List Cell)))
theorem Yaq (p0:List Cell) (p1:ByteArray) (p2:ByteArray) (hz_p1:p1.size≤9223372036854775807) (hk1:p1.size≤9223372036854775807) (h2:p2.size≤9223372036854775807) (hb:p0.length≤1073741820):CTMs 92 0 1 [(0,.own Cell instDatCell p0)] [] [.sl 0 p0.length,.v (.string p1),.v (.string p2)] [(0,.own Cell instDatCell (Qlr p0 p1 p2))] 1 [.sl 0 ((Qlr p0 p1 p2).length)] True:=by
 refine enM Tryz.func92 Tryz.ntmps92 fun S w p hG hb hg=>?_
 refine Run.cg (σ':=⟨37,1,[(0,.sl 0 p0.length),(1,.v (.string p1)),(2,.v (.string p2))],[(0,.own Cell instDatCell p0)]⟩) rfl ?_
 refine gd 0 fun hg_p0=>?_
 have hl_p0:p0.length≤9223372036854775807:=hg_p0.1
 have hM:=Qlr.eq_1 p0 p1 p2
 have hdl:=Qri p0 p1 (by omega)
 have hin:=Ql3 (Qak p0 p1) p1
 refine ad 9 ?_
 refine op (cl (Qqd p1 hz_p1) Ycf) ?_
 refine ad 2 ?_
 refine ag 4 ?_
 refine ad 1 ?_
 refine cd (fun h1=>?_) (fun h1=>?_)
 ·
  have hM:=hM.trans (bt h1)
  refine ad 5 ?_
  exact rzM (rs:=[.tmp 6]) [0] [1] (hg1:=trivial) (hG1:=congrArg (fun x=>(True:Prop)) hM) (congrArg (fun x=>([(0,.own Cell instDatCell x)]:List (Nat×En))) hM) (congrArg (fun x=>([.sl 0 x.length]:List V)) hM)
 ·
  have hM:=hM.trans (bf h1)
  refine ad 5 ?_
  refine og (cm [0,1] [] [1] [0] [0] (Qog p0 p1 (by first | assumption | exact gs _ | exact Qsa (by unfold I64;omega) (by decide) | (show ByteArray.size _≤_;unfold maxLen;omega))) Ykb) fun _=>?_
  refine ad 8 ?_
  refine cd (fun h2=>?_) (fun h2=>?_)
  ·
   have hM:=hM.trans (bt h2)
   refine ad 5 ?_
   exact rzM (rs:=[.tmp 6]) [2] [0] (hg1:=trivial) (hG1:=congrArg (fun x=>(True:Prop)) hM) (congrArg (fun x=>([(0,.own Cell instDatCell x)]:List (Nat×En))) hM) (congrArg (fun x=>([.sl 0 x.length]:List V)) hM)
  ·
   have hM:=hM.trans (bf h2)
   refine ad 5 ?_
   refine op (cl (Qmx (Qak p0 p1) p1 (by first | assumption | exact gs _ | exact Qsa (by unfold I64;omega) (by decide) | (show ByteArray.size _≤_;unfold maxLen;omega))) Yfr) ?_
   refine ad 8 ?_
   refine Run.mid ⟨37,2,[(0,.sl 0 ((Qak p0 p1).length)),(2,.v (.string p2)),(4,.pt 1 0),(7,.v (.int .i64 (bif (decide ((Qbi (Qak p0 p1) p1)<0)) then((Qak p0 p1).length:Int) else(Qbi (Qak p0 p1) p1))))],[(0,.own Cell instDatCell (Qak p0 p1)),(1,.var [.v (.string p1)] 9)]⟩ ?_ ?_
   ·refine cd (fun h3=>?_) (fun h3=>?_)
    ·
     refine ad 5 ?_
     exact Run.at [2,1] [0,1] (by first | exact su | (rw[h3];exact su)) (by decide)
    ·
     refine ad 1 ?_
     exact Run.at [2,1] [0,1] (by first | exact su | (rw[h3];exact su)) (by decide)
   refine ad 8 ?_
   refine li 2 (d:=instDatCell) ([(Cell.mk p1 p2)]:List Cell) ?_
   refine og (cm [0,2] [] [1,0] [] [2] (Ybx (Qak p0 p1) (bif (decide ((Qbi (Qak p0 p1) p1)<0)) then((Qak p0 p1).length:Int) else(Qbi (Qak p0 p1) p1)) ([(Cell.mk p1 p2)]:List Cell) rfl (Ylq hin).1 (Ylq hin).2 om) Yj9) fun _=>?_
   refine ad 2 ?_
   exact rzM (rs:=[.tmp 6]) [3] [0] (hg1:=trivial) (hG1:=congrArg (fun x=>(True:Prop)) hM) (congrArg (fun x=>([(0,.own Cell instDatCell x)]:List (Nat×En))) hM) (congrArg (fun x=>([.sl 0 x.length]:List V)) hM)
def Qb4 (p0:List Cell) (p1:ByteArray) (p2:ByteArray):Nat→(List Cell)→Bool→Nat→(List Cell)
 | 0,v7,v8,i=>bif (!v8) then(v7++[(Cell.mk p1 p2)]) else v7
 | n+1,v7,v8,i=>Qb4 p0 p1 p2 n (bif (!decide (((nth p0 i).Key)=p1)) then((bif ((!v8)&&(!(ltB ((nth p0 i).Key) p1||decide (((nth p0 i).Key)=p1)))) then(v7++[(Cell.mk p1 p2)]) else v7)++[(nth p0 i)]) else(bif ((!v8)&&(!(ltB ((nth p0 i).Key) p1||decide (((nth p0 i).Key)=p1)))) then(v7++[(Cell.mk p1 p2)]) else v7)) (((!v8)&&(!(ltB ((nth p0 i).Key) p1||decide (((nth p0 i).Key)=p1))))||v8) (i+1)
def Qhs (p0:List Cell) (p1:ByteArray) (p2:ByteArray):(List Cell):=bif (!(Qip p1))||(decide ((p2.size:Int)>60)) then(([]:List Cell)++p0) else(Qb4 p0 p1 p2 (p0.length - 0) ([]:List Cell) (decide (p2=⟨#[]⟩)) 0)
theorem Q3l (p0:List Cell) (p1:ByteArray) (p2:ByteArray) (hz_p1:p1.size≤9223372036854775807) (hk1:p1.size≤9223372036854775807) (h2:p2.size≤9223372036854775807) (hb:p0.length≤1073741820):CTs 151 [.o (.sl Cell instDatCell p0),.o (.c (.string p1)),.o (.c (.string p2))] [Re.sl Cell instDatCell (Qhs p0 p1 p2)]:=by
 refine en Tryz.func151 Tryz.ntmps151 fun w hG hgd=>?_
 obtain⟨hg_p0,_⟩:=hgd
 have hl_p0:p0.length≤9223372036854775807:=hg_p0.1
 have hM:=Qhs.eq_1 p0 p1 p2
 refine ad 6 ?_
 refine op (l0) ?_
 refine ad 6 ?_
 refine op (cl (Qp9 p1 hz_p1) Ycc) ?_
 refine ad 2 ?_
 refine ag 4 ?_
 refine ad 1 ?_
 refine cd (fun h1=>?_) (fun h1=>?_)
 ·
  have hM:=hM.trans (bt h1)
  refine ad 4 ?_
  refine li 1 (d:=instDatCell) ([]:List Cell) ?_
  refine op (aS (dα:=instDatCell) (e:=114) (by':=32) ([]:List Cell) p0 [1] (hb:=by(try simp only[List.length_append,List.length_cons,List.length_nil]);first | omega | exact om) (hm:=by(try simp only[List.length_append,List.length_cons,List.length_nil]);first | omega | exact om)) ?_
  refine ad 2 ?_
  exact rz (rs:=[.tmp 6]) (congrArg (fun x=>[Re.sl Cell instDatCell x]) hM)
 ·
  have hM:=hM.trans (bf h1)
  refine ad 13 ?_
  refine li 1 (d:=instDatCell) ([]:List Cell) ?_
  refine Run.loopM (ι:=(List Cell)×Bool×Nat) (fun s=>Qb4 p0 p1 p2 (p0.length - s.2.2) s.1 s.2.1 s.2.2) (fun s=>⟨70,2,[(0,.sl 0 p0.length),(1,.v (.string p1)),(2,.v (.string p2)),(7,.sl 1 s.1.length),(8,.v (.bool s.2.1)),(9,.v (.int .i64 (s.2.2:Int)))],[(0,.ros Cell instDatCell p0),(1,.own Cell instDatCell s.1)]⟩) (fun s=>s.2.2≤p0.length∧s.1.length≤2*s.2.2) (fun s=>p0.length - s.2.2) (([]:List Cell),decide (p2=⟨#[]⟩),0) [0,1] [1,0] hM (by exact⟨by(try dsimp only);omega,by simp⟩) su (by decide) ?_
  rintro ⟨v7,v8,i⟩ hv hE
  try dsimp only at hE
  obtain⟨hi,hv0⟩:=hv
  try dsimp only at hi hv0
  refine ad 8 ?_
  refine cd (fun h2=>?_) (fun h2=>?_)
  ·
   have h2l:i<p0.length:=dtl h2
   have hM:=hE.trans ((congrArg (fun n=>Qb4 p0 p1 p2 n v7 v8 i) (sb1 h2l)).trans (Qb4.eq_2 _ _ _ _ _ _ _))
   refine ad 9 ?_
   refine Run.midO ⟨70,2,[(0,.sl 0 p0.length),(1,.v (.string p1)),(2,.v (.string p2)),(7,.sl 1 v7.length),(8,.v (.bool v8)),(9,.v (.int .i64 (i:Int))),(40,.v (.bool ((!v8)&&(!(ltB ((nth p0 i).Key) p1||decide (((nth p0 i).Key)=p1))))))],[(0,.ros Cell instDatCell p0),(1,.own Cell instDatCell v7)]⟩ ?_ ?_
   ·refine bc 32 (fun h3=>?_) (fun h3=>?_)
    ·
     refine ad 5 ?_
     have hg5:=Qai (k:=i) hg_p0 om
     refine op (ix (xs:=p0) i om) ?_
     refine ad 7 ?_
     refine op (sQ) ?_
     refine ad 2 ?_
     exact Run.at [0,1] [1,2] (by first | exact su | (rw[h3];exact su)) (by decide)
    ·
     refine ad 9 ?_
     exact Run.at [0,1] [0,1] (by first | exact su | (rw[h3];exact su)) (by decide)
   refine Run.mid ⟨70,2,[(0,.sl 0 p0.length),(1,.v (.string p1)),(2,.v (.string p2)),(7,.sl 1 ((bif ((!v8)&&(!(ltB ((nth p0 i).Key) p1||decide (((nth p0 i).Key)=p1)))) then(v7++[(Cell.mk p1 p2)]) else v7).length)),(8,.v (.bool (((!v8)&&(!(ltB ((nth p0 i).Key) p1||decide (((nth p0 i).Key)=p1))))||v8))),(9,.v (.int .i64 (i:Int)))],[(0,.ros Cell instDatCell p0),(1,.own Cell instDatCell (bif ((!v8)&&(!(ltB ((nth p0 i).Key) p1||decide (((nth p0 i).Key)=p1)))) then(v7++[(Cell.mk p1 p2)]) else v7))]⟩ ?_ ?_
   ·refine cd (fun h6=>?_) (fun h6=>?_)
    ·
     refine ad 7 ?_
     refine op (ap [(Cell.mk p1 p2)] (hg:=gdt) (hb:=by(try simp only[Bool.cond_eq_ite]);(repeat' split)<;>((try simp only[List.length_append,List.length_cons,List.length_nil]);omega)) (hm:=by(try simp only[Bool.cond_eq_ite]);(repeat' split)<;>((try simp only[List.length_append,List.length_cons,List.length_nil]);omega))) ?_
     refine ad 5 ?_
     exact Run.at [0,3] [1,2] (by first | exact su | (rw[h6];exact su)) (by decide)
    ·
     refine ad 1 ?_
     exact Run.at [0,1] [0,1] (by first | exact su | (rw[h6];exact su)) (by decide)
   refine ad 4 ?_
   have hg8:=Qai (k:=i) hg_p0 om
   refine op (ix (xs:=p0) i om) ?_
   refine ad 5 ?_
   refine Run.mid ⟨70,2,[(0,.sl 0 p0.length),(1,.v (.string p1)),(2,.v (.string p2)),(7,.sl 1 ((bif (!decide (((nth p0 i).Key)=p1)) then((bif ((!v8)&&(!(ltB ((nth p0 i).Key) p1||decide (((nth p0 i).Key)=p1)))) then(v7++[(Cell.mk p1 p2)]) else v7)++[(nth p0 i)]) else(bif ((!v8)&&(!(ltB ((nth p0 i).Key) p1||decide (((nth p0 i).Key)=p1)))) then(v7++[(Cell.mk p1 p2)]) else v7)).length)),(8,.v (.bool (((!v8)&&(!(ltB ((nth p0 i).Key) p1||decide (((nth p0 i).Key)=p1))))||v8))),(9,.v (.int .i64 (i:Int)))],[(0,.ros Cell instDatCell p0),(1,.own Cell instDatCell (bif (!decide (((nth p0 i).Key)=p1)) then((bif ((!v8)&&(!(ltB ((nth p0 i).Key) p1||decide (((nth p0 i).Key)=p1)))) then(v7++[(Cell.mk p1 p2)]) else v7)++[(nth p0 i)]) else(bif ((!v8)&&(!(ltB ((nth p0 i).Key) p1||decide (((nth p0 i).Key)=p1)))) then(v7++[(Cell.mk p1 p2)]) else v7)))]⟩ ?_ ?_
   ·refine cd (fun h9=>?_) (fun h9=>?_)
    ·
     refine ad 4 ?_
     have hg11:=Qai (k:=i) hg_p0 om
     refine op (ix (xs:=p0) i om) ?_
     refine ad 2 ?_
     refine op (ap [(nth p0 i)] (hg:=gdt) (hb:=by(try simp only[Bool.cond_eq_ite]);(repeat' split)<;>((try simp only[List.length_append,List.length_cons,List.length_nil]);omega)) (hm:=by(try simp only[Bool.cond_eq_ite]);(repeat' split)<;>((try simp only[List.length_append,List.length_cons,List.length_nil]);omega))) ?_
     refine ad 2 ?_
     exact Run.at [0,5] [3,4] (by first | exact su | (rw[h9];exact su)) (by decide)
    ·
     refine ad 1 ?_
     exact Run.at [0,1] [1,2] (by first | exact su | (rw[h9];exact su)) (by decide)
   refine ad 4 ?_
   rw[Qb3 (i:=i) om]
   refine ad 2 ?_
   exact Run.again (bif (!decide (((nth p0 i).Key)=p1)) then((bif ((!v8)&&(!(ltB ((nth p0 i).Key) p1||decide (((nth p0 i).Key)=p1)))) then(v7++[(Cell.mk p1 p2)]) else v7)++[(nth p0 i)]) else(bif ((!v8)&&(!(ltB ((nth p0 i).Key) p1||decide (((nth p0 i).Key)=p1)))) then(v7++[(Cell.mk p1 p2)]) else v7),((!v8)&&(!(ltB ((nth p0 i).Key) p1||decide (((nth p0 i).Key)=p1))))||v8,(i+1)) [0,1] [0,1] ⟨by exact⟨by(try dsimp only);omega,by(try dsimp only);(try simp only[Bool.cond_eq_ite]);(repeat' split)<;>((try simp only[length_append,length_cons,length_nil]);omega)⟩,hM⟩ rfl lv1 su (by decide)
  ·
   have h2l: ¬ (i<p0.length):=dfl h2
   have hM:=hE.trans ((congrArg (fun n=>Qb4 p0 p1 p2 n v7 v8 i) (sb0 h2l)).trans (Qb4.eq_1 _ _ _ _ _ _))
   refine ad 7 ?_
   refine Run.mid ⟨70,1,[(7,.sl 0 ((bif (!v8) then(v7++[(Cell.mk p1 p2)]) else v7).length))],[(0,.own Cell instDatCell (bif (!v8) then(v7++[(Cell.mk p1 p2)]) else v7))]⟩ ?_ ?_
   ·refine cd (fun h12=>?_) (fun h12=>?_)
    ·
     refine ad 6 ?_
     refine op (ap [(Cell.mk p1 p2)] (hg:=gdt) (hb:=by(try simp only[Bool.cond_eq_ite]);(repeat' split)<;>((try simp only[List.length_append,List.length_cons,List.length_nil]);omega)) (hm:=by(try simp only[Bool.cond_eq_ite]);(repeat' split)<;>((try simp only[List.length_append,List.length_cons,List.length_nil]);omega))) ?_
     refine ad 2 ?_
     exact Run.at [3] [2] (by first | exact su | (rw[h12];exact su)) (by decide)
    ·
     refine ad 1 ?_
     exact Run.at [1] [1] (by first | exact su | (rw[h12];exact su)) (by decide)
   refine ad 5 ?_
   exact rz (rs:=[.tmp 6]) (congrArg (fun x=>[Re.sl Cell instDatCell x]) hM)
end
section
open Go.RowKit Go.Shelf
set_option maxHeartbeats 1000000 in
set_option maxRecDepth 1000000 in
theorem Yhj (b:Nat) (w:World) (h0:w.cell? ⟨b,0,none⟩=some (.pointer (some ⟨b,0,none⟩))):
  Calls Tryz.prog 271 #[.pointer (some ⟨b,0,none⟩)] w fun e w'=>e= .returned (.tuple #[])∧w'=w:=by
 obtain⟨j,hj,_⟩:=Option.map_eq_some_iff.1 (show(Tryz.prog.info? 240).map (·.size)=some 2 by kernel_rfl)
 have mixed:Tryz.prog.follows .mixedOrders=true:=by kernel_rfl
 have t72:=Tryz.underlying240;have a72:=Tryz.isAgg240;have z72:=Tryz.sizeOf240;have u72:=run_underlying t72
 have t70:=Tryz.underlying238;have a70:=Tryz.isAgg238;have z70:=Tryz.sizeOf238;have v70:=Tryz.zeroValue238;have u70:=run_underlying t70
 have t4:=Tryz.underlying4;have a4:=Tryz.isAgg4;have u4:=run_underlying t4
 have t164:=Tryz.underlying266;have a164:=Tryz.isAgg266;have u164:=run_underlying t164
 go_enter Tryz.func271,Tryz.ntmps271
 go_wp2
 rw[Lib.run_neq_ptr_same w _ t70 hj]
 go_wp2
 go_end0
 exact⟨rfl,rfl⟩
set_option maxHeartbeats 1000000 in
set_option maxRecDepth 1000000 in
theorem Yel (b:Nat) (w:World) (h0:w.cell? ⟨b,0,none⟩=some (.pointer none)) (hsh:w.shape? b=some (240,2)) (hfz:w.frozen? ⟨b,0,none⟩=false):
  Calls Tryz.prog 271 #[.pointer (some ⟨b,0,none⟩)] w fun e w'=>e= .returned (.tuple #[])∧w'=w.setCell ⟨b,0,none⟩ (.pointer (some ⟨b,0,none⟩)):=by
 obtain⟨j,hj,hjs⟩:=Option.map_eq_some_iff.1 (show(Tryz.prog.info? 240).map (·.size)=some 2 by kernel_rfl)
 have mixed:Tryz.prog.follows .mixedOrders=true:=by kernel_rfl
 have t72:=Tryz.underlying240;have a72:=Tryz.isAgg240;have z72:=Tryz.sizeOf240;have u72:=run_underlying t72
 have t70:=Tryz.underlying238;have a70:=Tryz.isAgg238;have z70:=Tryz.sizeOf238;have v70:=Tryz.zeroValue238;have u70:=run_underlying t70
 have t4:=Tryz.underlying4;have a4:=Tryz.isAgg4;have u4:=run_underlying t4
 have t164:=Tryz.underlying266;have a164:=Tryz.isAgg266;have u164:=run_underlying t164
 go_enter Tryz.func271,Tryz.ntmps271
 go_wp2
 rw[Lib.run_to_unsafe w ⟨b,0,none⟩ t70 t164 hj (by rw[hjs];decide) hsh (Nat.zero_lt_succ 1)]
 simp only[Result.andThen]
 rw[Oper.upon_value]
 go_wp2
 rw[run_callFunc_extern Tryz.func291 (by kernel_rfl) (by kernel_rfl) (by kernel_rfl) (e:=Extern.AbiNoEscape.same) (by kernel_rfl)]
 rw[Lib.run_noEscape]
 simp only[Result.andThen]
 rw[Oper.upon_value]
 go_wp2
 rw[Lib.run_from_unsafe w ⟨b,0,none⟩ t164 t70 hj hsh (by kernel_rfl)]
 simp only[Result.andThen]
 rw[Oper.upon_value]
 go_wp2
 go_end0
 exact⟨rfl,rfl⟩
theorem Q54 {w:World} {g n b:Nat} (h:b≠g):(w.freeze ⟨g,0,none⟩ n).heap[b]?=w.heap[b]?:=by
 unfold World.freeze
 split
 ·rfl
 ·show(w.heap.modify g _)[b]?=_
  rw[Array.getElem?_modify,if_neg (fun e=>h e.symm)]
theorem Yag {w:World} {g n:Nat} {arr:Array Value} {T:TypeId} {fz:Nat×Nat} (h:w.heap[g]?=some (.cells arr T fz)): ∃ fz',(w.freeze ⟨g,0,none⟩ n).heap[g]?=some (.cells arr T fz'):=by
 unfold World.freeze
 split
 ·exact⟨_,h⟩
 ·refine⟨if fz.1==fz.2 then(0,0+n) else(min fz.1 0,max fz.2 (0+n)),?_⟩
  show(w.heap.modify g _)[g]?=_
  rw[Array.getElem?_modify,if_pos rfl,h]
  rfl
theorem Q7a {w:World} {g n:Nat}:(w.freeze ⟨g,0,none⟩ n).heap.size=w.heap.size:=by
 unfold World.freeze
 split
 ·rfl
 ·exact Array.size_modify
theorem Q7b {w:World} {g n:Nat}:(w.freeze ⟨g,0,none⟩ n).os=w.os∧(w.freeze ⟨g,0,none⟩ n).tape=w.tape∧(w.freeze ⟨g,0,none⟩ n).output=w.output:=by
 unfold World.freeze
 split<;>exact⟨rfl,rfl,rfl⟩
set_option maxHeartbeats 1000000 in
set_option maxRecDepth 100000 in
theorem Ycv (b g cap:Nat) (p:Value) (arr:Array Value) (fz:Nat×Nat) (l:List UInt8) (w:World) (h0:l≠[]) (hb:w.heap[b]?=some (.cells #[p,.slice (some ⟨g,0,none⟩) l.length cap] 240 (0,0))) (hg:w.heap[g]?=some (.cells arr 5 fz)) (hle:l.length≤arr.size) (hcap:l.length≤cap) (hm:cap≤maxLen)
  (hc: ∀ j x,l[j]?=some x→w.cell? ((⟨g,0,none⟩:Addr).add j)=some (.int .u8 x.toNat)):
  Calls Tryz.prog 248 #[.pointer (some ⟨b,0,none⟩)] w fun e w'=>e= .returned (.string ⟨l.toArray⟩)∧w'=w.drew.freeze ⟨g,0,none⟩ l.length:=by
 have hl0:l.length≠0:=by simpa using h0
 have c1:w.drew.cell? ⟨b,1,none⟩=some (.slice (some ⟨g,0,none⟩) l.length cap):=by
  have:w.drew.heap[b]?=some (.cells #[p,.slice (some ⟨g,0,none⟩) l.length cap] 240 (0,0)):=hb
  simp[World.cell?,this]
 have hSD:(Builtin.unsafeSliceData_ #[144] 253 #[.slice (some ⟨g,0,none⟩) l.length cap]).run Tryz.prog w.drew= .ok (.pointer (some ⟨g,0,none⟩)) w.drew:=Lib.run_unsafeSliceData_row _ _ _ _ _ _ (by omega)
 have hUS:(Builtin.unsafeString_ #[253,3] 9 #[.pointer (some ⟨g,0,none⟩),.int .i64 l.length]).run Tryz.prog w.drew= .ok (.string ⟨l.toArray⟩) (w.drew.freeze ⟨g,0,none⟩ l.length):=
  Lib.run_unsafeString_row w.drew 253 3 9 5 Tryz.underlying253 (by kernel_rfl) g arr.size (by have hg':w.drew.heap[g]?=some (.cells arr 5 fz):=hg;simp[World.shape?,hg']) l h0 hle (by unfold maxLen at hm;omega) hc
 have mixed:Tryz.prog.follows .mixedOrders=true:=by kernel_rfl
 have t72:=Tryz.underlying240;have a72:=Tryz.isAgg240;have z72:=Tryz.sizeOf240;have u72:=run_underlying t72
 have t70:=Tryz.underlying238;have a70:=Tryz.isAgg238;have z70:=Tryz.sizeOf238;have v70:=Tryz.zeroValue238;have u70:=run_underlying t70
 have t37:=Tryz.underlying144;have a37:=Tryz.isAgg144;have z37:=Tryz.sizeOf144;have v37:=Tryz.zeroValue144;have u37:=run_underlying t37
 have t127:=Tryz.underlying253;have a127:=Tryz.isAgg253;have z127:=Tryz.sizeOf253;have v127:=Tryz.zeroValue253;have u127:=run_underlying t127
 have t3:=Tryz.underlying3;have a3:=Tryz.isAgg3;have z3:=Tryz.sizeOf3;have v3:=Tryz.zeroValue3;have u3:=run_underlying t3
 have t9:=Tryz.underlying9;have a9:=Tryz.isAgg9;have z9:=Tryz.sizeOf9;have v9:=Tryz.zeroValue9;have u9:=run_underlying t9
 go_enter Tryz.func248,Tryz.ntmps248
 go_wp2
 go_region_o
 all_goals (go_wp2;go_ret;exact⟨rfl,rfl⟩)
theorem Ydp {w:World} {b:Nat} {x y u:Value} {T:TypeId} (h:w.heap[b]?=some (.cells #[x,y] T (0,0))):(w.setCell ⟨b,0,none⟩ u).heap[b]?=some (.cells #[u,y] T (0,0))∧(∀ k,k≠b→(w.setCell ⟨b,0,none⟩ u).heap[k]?=w.heap[k]?)∧(w.setCell ⟨b,0,none⟩ u).heap.size=w.heap.size:=by
 unfold World.setCell
 refine⟨?_,fun k hk=>?_,Array.size_modify⟩
 ·show(w.heap.modify b _)[b]?=_
  rw[Array.getElem?_modify,if_pos rfl,h]
  rfl
 ·show(w.heap.modify b _)[k]?=_
  rw[Array.getElem?_modify,if_neg (fun e=>hk e.symm)]
def BufP (xs:List UInt8) (l:Loc) (w:World):Prop:=SlO w (.slice l.A xs.length l.cap) xs l.F∧ ∀ g,l.A=some ⟨g,0,none⟩→ ∃ arr,w.heap[g]?=some (.cells arr 5 (0,0))∧arr.size=l.cap∧0<l.cap
theorem Yn1 (b:Nat) (p v:Value) (w:World) (hb:w.heap[b]?=some (.cells #[p,v] 240 (0,0))) (hp:p= .pointer none∨p= .pointer (some ⟨b,0,none⟩)):
  Calls Tryz.prog 271 #[.pointer (some ⟨b,0,none⟩)] w fun e w'=>e= .returned (.tuple #[])∧w'.heap[b]?=some (.cells #[.pointer (some ⟨b,0,none⟩),v] 240 (0,0))∧w'.os=w.os∧w'.tape=w.tape∧w'.output=w.output∧w'.heap.size=w.heap.size∧ ∀ k,k≠b→w'.heap[k]?=w.heap[k]?:=by
 rcases hp with rfl | rfl
 ·refine(Yel b w (by simp[World.cell?,hb]) (by simp[World.shape?,hb]) (by simp[World.frozen?,hb])).mono ?_
  rintro e w' ⟨rfl,rfl⟩
  obtain⟨s1,s2,s3⟩:=Ydp (u:= .pointer (some ⟨b,0,none⟩)) hb
  exact⟨rfl,s1,rfl,rfl,rfl,s3,s2⟩
 ·refine(Yhj b w (by simp[World.cell?,hb])).mono ?_
  rintro e w' ⟨rfl,rfl⟩
  exact⟨rfl,hb,rfl,rfl,rfl,rfl,fun _ _=>rfl⟩
theorem Yez {l:List Value} {xs:List UInt8} (h:FlE l xs) {j:Nat} {z:UInt8} (hj:xs[j]?=some z):l[j]?=some (Value.int .u8 z.toNat):=by
 obtain⟨q,rr,hq,hq2,hq3⟩:=(inferInstance:Str UInt8).op (Dat.own_rd (B:=fun _=>True) (h j z hj default) fun _ _=>trivial)
 have hq2':q= .int .u8 z.toNat:=hq2
 have hq3':rr=[]:=hq3
 subst hq2'
 subst hq3'
 have h1:(Fw.cut 1 l j)[0]?=some (Value.int .u8 z.toNat):=by
  have:Fw.cut 1 l j=[Value.int .u8 z.toNat]:=hq
  rw[this]
  rfl
 unfold Fw.cut at h1
 rw[getElem?_take,if_pos (by omega),getElem?_drop,Nat.mul_one,Nat.add_zero] at h1
 exact h1
theorem Ydh {l : List Value} {xs : List UInt8} (h : FlE l xs) (hl : xs.length ≤ l.length) : l.take xs.length = xs.map fun b => Value.int .u8 b.toNat := by
 apply List.ext_getElem?
 intro j
 rw[getElem?_take,getElem?_map]
 by_cases hj:j<xs.length
 ·rw[if_pos hj,Yez h (getElem?_eq_getElem hj),getElem?_eq_getElem hj]
  rfl
 ·rw[if_neg hj,List.getElem?_eq_none (by omega:xs.length≤j)]
  rfl
theorem strE (str : ByteArray) (w : World) : Qke w ((Qa7 str).map fun b => Value.int .u8 b.toNat) (Qa7 str) (List.replicate (Qa7 str).length []) := ⟨by simp, fun i u hi => ⟨[], by rw [List.getElem?_replicate, if_pos (List.getElem?_eq_some_iff.1 hi).1], by
 refine⟨⟨?_,trivial⟩,rfl⟩
 have hlt:=(List.getElem?_eq_some_iff.1 hi).1
 show((((Qa7 str).map fun b=>Value.int .u8 b.toNat).drop (i*1)).take 1)=_
 rw[Nat.mul_one]
 rw[List.drop_eq_getElem_cons (by rw[length_map];exact hlt),List.take_succ_cons,List.take_zero,List.getElem_map,(List.getElem?_eq_some_iff.1 hi).2]⟩⟩
theorem Ylr {w:World} {v:Value} {xs:List UInt8} {F:List Nat} (str:ByteArray) (hv:SlO w v xs F) (hF:F.Nodup) (hT: ∀ g n cap,v= .slice (some ⟨g,0,none⟩) n cap→ ∃ arr,w.heap[g]?=some (.cells arr 5 (0,0))∧arr.size=cap∧0<cap) (hb:xs.length+str.size≤140737488355328):
  ∃ v' w' F',(Builtin.append_ #[144,9] 144 #[v,.string str]).run Tryz.prog w= .ok v' w'∧SlO w' v' (xs++Qa7 str) F'∧F'.Nodup∧w'.os=w.os∧w'.tape=w.tape∧w'.output=w.output∧w.heap.size≤w'.heap.size∧(∀ b,b<w.heap.size→b ∉ F→w'.heap[b]?=w.heap[b]?)∧(∀ b∈F',b∈F∨w.heap.size≤b)∧
   ∀ g n cap,v'= .slice (some ⟨g,0,none⟩) n cap→ ∃ arr,w'.heap[g]?=some (.cells arr 5 (0,0))∧arr.size=cap∧0<cap:=by
 have hlen:(Qa7 str).length=str.size:=by unfold Qa7;rw[Array.length_toList];rfl
 have hch:Qeh Tryz.prog 144 5 1 1=true:=by kernel_rfl
 have hfc : ∀ w : World, (Builtin.firstCells (Dat.sz UInt8) (Qa7 str).length (.string str)).run Tryz.prog w = .ok ((Qa7 str).map fun b => Value.int .u8 b.toNat).toArray w := fun w => by
  rw[hlen]
  show Result.ok _ _=_
  congr 1
  have e:(str.extract 0 str.size).data=str.data:=by
   rw[ByteArray.data_extract]
   exact Array.extract_size
  rw[e]
  apply Array.toList_inj.1
  rw[Array.toList_map]
  rfl
 obtain⟨v',w',F',hrun,r1,r2,r3,r4,r5,r6,r7,r8⟩:=Ydq (P:=Tryz.prog) (ts:=9) (ty:=144) (ys:=Qa7 str) (news:=(Qa7 str).map fun b=>Value.int .u8 b.toNat) (Gs:=List.replicate (Qa7 str).length []) hch rfl Tryz.zeroValue5 rfl hv hF Tryz.underlying9 hlen.symm hfc (by rw[length_map];exact(Nat.mul_one _).symm) (fun u hu=>by obtain⟨b,_,rfl⟩:=List.mem_map.1 hu;rfl) (strE str w) (by rw[Ql7];simp) (fun b hb=>by rw[Ql7] at hb;cases hb) (by rw[hlen];omega) (by rw[hlen];unfold maxLen;omega)
 ·refine⟨v',w',F',hrun,r1,r2,r3,r4,r5,r6,r7,fun b hb=>?_,fun g n cap hg=>?_⟩
  ·rcases r8 b hb with h | h | h
   ·exact .inl h
   ·rw[Ql7] at h;cases h
   ·exact .inr h
  ·obtain⟨i0,hi,hz0,hz1,hz2⟩:=info_parts (show(Tryz.prog.info? 5).map (fun i=>(i.zero,i.size,i.bytes))=some (some (.int .u8 0),1,1) by kernel_rfl)
   have hown:w.ownsRowF 0 5 1 v xs.length (xs.map fun b=>Value.int .u8 b.toNat):=by
    refine⟨by simp,?_⟩
    rcases hv.fl inferInstance rfl with ⟨e1,e2⟩ | ⟨g0,cap0,arr,T,e1,e2,e3,e4,e5,e6,e7⟩
    ·exact .inl ⟨e1,by rw[e2];rfl⟩
    ·obtain⟨arr',q1,q2,_⟩:=hT g0 _ _ e1
     rw[e2] at q1
     cases q1
     refine .inr ⟨g0,cap0,arr,(0,0),e1,Nat.zero_le _,e2,Nat.zero_le _,e3,e4,by rw[q2,Nat.mul_one],?_⟩
     rw[Nat.mul_one]
     exact Ydh e7 (by have hz:arr.toList.length=arr.size:=Array.length_toList;omega)
   obtain⟨v2,w2,hrun2,hown2,_,hiff⟩:=Lib.run_append_own_stringF (P:=Tryz.prog) (w:=w) 0 144 9 144 5 i0 Tryz.underlying144 Tryz.underlying9 hi hz0 hz1 hz2 v xs.length _ hown str (by unfold maxLen;omega) hb (Nat.zero_le _)
   rw[hrun] at hrun2
   injection hrun2 with hv2 hw2
   subst hv2
   subst hw2
   rcases hown2.2 with ⟨hn,_⟩ | ⟨g1,cap1,cur,fz,hv1,_,hg1,_,_,_,hs1,_⟩
   ·rw[hn] at hg;injection hg with hg _ _;cases hg
   ·have hv1':=hv1
    rw[hg] at hv1
    injection hv1 with a1 _ a3
    injection a1 with a1
    injection a1 with a1
    subst a1
    subst a3
    rcases r1.fl inferInstance rfl with ⟨e1,_⟩ | ⟨g0,cap0,arr,T,e1,e2,_⟩
    ·rw[e1] at hg;injection hg with hg _ _;cases hg
    ·rw[e1] at hg
     injection hg with b1 _ b3
     injection b1 with b1
     injection b1 with b1
     subst b1
     subst b3
     have e2':=e2
     rw[hg1] at e2'
     injection e2' with e2'
     injection e2' with c1 c2 c3
     subst c3
     refine⟨_,hg1,by rw[hs1,Nat.mul_one],?_⟩
     by_cases hz:(xs++Qa7 str).length=0
     ·rw[length_append,hlen] at hz
      rcases hv.fl inferInstance rfl with ⟨d1,d2⟩ | ⟨g9,cap9,arr9,T9,d1,d2,d3,d4,d5,d6,d7⟩
      ·have hn:=hiff.2 ⟨d1,by omega⟩
       rw[hv1'] at hn
       injection hn with hn _ _
       cases hn
      ·obtain⟨arr',q1,q2,q3⟩:=hT g9 _ _ d1
       have d2':=d2
       rw[q1] at d2'
       injection d2' with d2'
       injection d2' with x1 x2 x3
       subst x1
       subst x2
       have hroom:=Lib.run_append_room_stringF (P:=Tryz.prog) w 144 9 144 5 i0 Tryz.underlying144 Tryz.underlying9 hi hz1 g9 xs.length cap9 arr' (0,0) d2 (by simp) str (by omega) (by omega)
       rw[←d1,hrun] at hroom
       injection hroom with y1 _
       rw[hv1'] at y1
       injection y1 with _ _ y3
       omega
     ·omega
end
section
open Go.RowKit Go.Shelf
theorem Ydo {w:World} {b:Nat} {x y u:Value} {T:TypeId} (h:w.heap[b]?=some (.cells #[x,y] T (0,0))):(w.setCell ⟨b,1,none⟩ u).heap[b]?=some (.cells #[x,u] T (0,0))∧(∀ k,k≠b→(w.setCell ⟨b,1,none⟩ u).heap[k]?=w.heap[k]?)∧(w.setCell ⟨b,1,none⟩ u).heap.size=w.heap.size:=by
 unfold World.setCell
 refine⟨?_,fun k hk=>?_,Array.size_modify⟩
 ·show(w.heap.modify b _)[b]?=_
  rw[Array.getElem?_modify,if_pos rfl,h]
  rfl
 ·show(w.heap.modify b _)[k]?=_
  rw[Array.getElem?_modify,if_neg (fun e=>hk e.symm)]
set_option maxHeartbeats 2000000 in
set_option maxRecDepth 1000000 in
theorem Yln (b:Nat) (p v:Value) (xs:List UInt8) (F:List Nat) (str:ByteArray) (w:World) (hb:w.heap[b]?=some (.cells #[p,v] 240 (0,0))) (hp:p= .pointer none∨p= .pointer (some ⟨b,0,none⟩))
  (hv:SlO w v xs F) (hF:F.Nodup) (hbF:b ∉ F) (hT: ∀ g n cap,v= .slice (some ⟨g,0,none⟩) n cap→ ∃ arr,w.heap[g]?=some (.cells arr 5 (0,0))∧arr.size=cap∧0<cap) (hlen:xs.length+str.size≤140737488355328):
  Calls Tryz.prog 245 #[.pointer (some ⟨b, 0, none⟩), .string str] w fun e w' => e = .returned (.tuple #[.int .i64 str.size, .nilIface]) ∧ ∃ v' F', w'.heap[b]? = some (.cells #[.pointer (some ⟨b, 0, none⟩), v'] 240 (0, 0)) ∧ SlO w' v' (xs ++ Qa7 str) F' ∧ F'.Nodup ∧ b ∉ F' ∧
   w'.os=w.os∧w'.tape=w.tape∧w'.output=w.output∧w.heap.size≤w'.heap.size∧(∀ k,k<w.heap.size→k ∉ F→k≠b→w'.heap[k]?=w.heap[k]?)∧(∀ k∈F',k∈F∨w.heap.size≤k)∧
   ∀ g n cap,v'= .slice (some ⟨g,0,none⟩) n cap→ ∃ arr,w'.heap[g]?=some (.cells arr 5 (0,0))∧arr.size=cap∧0<cap:=by
 have hlt:b<w.heap.size:=(Array.getElem?_eq_some_iff.1 hb).1
 have mixed:Tryz.prog.follows .mixedOrders=true:=by kernel_rfl
 have t72:=Tryz.underlying240;have a72:=Tryz.isAgg240;have z72:=Tryz.sizeOf240;have u72:=run_underlying t72
 have t70:=Tryz.underlying238;have a70:=Tryz.isAgg238;have z70:=Tryz.sizeOf238;have v70:=Tryz.zeroValue238;have u70:=run_underlying t70
 have t37:=Tryz.underlying144;have a37:=Tryz.isAgg144;have z37:=Tryz.sizeOf144;have v37:=Tryz.zeroValue144;have u37:=run_underlying t37
 have t3:=Tryz.underlying3;have a3:=Tryz.isAgg3;have z3:=Tryz.sizeOf3;have v3:=Tryz.zeroValue3;have u3:=run_underlying t3
 have t9:=Tryz.underlying9;have a9:=Tryz.isAgg9;have z9:=Tryz.sizeOf9;have v9:=Tryz.zeroValue9;have u9:=run_underlying t9
 have e240: ∀ args w,(callFunc 271 args).run Tryz.prog w= .ok (.enter 271 args) w:=enters_of Tryz.func271 (by kernel_rfl) rfl
 rcases hv.form with ⟨A,cap,rfl,hle⟩
 have cc:=Yn1 b p (.slice A xs.length cap) w hb hp
 clear hb
 go_enter Tryz.func245,Tryz.ntmps245
 go_wp2_with (go_at_fn 271;refine cc.mono ?_)
 rintro e w1 ⟨rfl,hbk,k1,k2,k3,k4,k5⟩
 have hv1:SlO w1 (.slice A xs.length cap) xs F:=hv.same fun k hk=>k5 k fun e=>hbF (e▸hk)
 have hT1 : ∀ g n cap', Value.slice A xs.length cap = .slice (some ⟨g, 0, none⟩) n cap' → ∃ arr, w1.heap[g]? = some (.cells arr 5 (0, 0)) ∧ arr.size = cap' ∧ 0 < cap' := fun g n cap' hvv => by
  obtain⟨arr,q1,q2⟩:=hT g n cap' hvv
  refine⟨arr,?_,q2⟩
  by_cases hgb:g=b
  ·exfalso
   subst hgb
   rcases hv.fl inferInstance rfl with ⟨e1,_⟩ | ⟨g0,cap0,arr0,T0,e1,_,_,_,_,e6,_⟩
   ·rw[hvv] at e1;injection e1 with e1 _ _;cases e1
   ·rw[hvv] at e1
    injection e1 with e1 _ _
    injection e1 with e1
    injection e1 with e1
    exact hbF (e1▸e6)
  ·rw[k5 g hgb]
   exact q1
 obtain⟨v',w2,F',hrun,r1,r2,r3,r4,r5,r6,r7,r8,r9⟩:=Ylr str hv1 hF hT1 hlen
 clear cc hv hv1 hT hT1
 obtain⟨l',rfl,hF'⟩:=Qx3 r1
 have c1:w1.cell? ⟨b,1,none⟩=some (.slice A xs.length cap):=by rw[Lib.cell_of_heap hbk];rfl
 have hb2:w2.heap[b]?=some (.cells #[.pointer (some ⟨b,0,none⟩),.slice A xs.length cap] 240 (0,0)):=by
  rw[r7 b (by rw[k4];exact hlt) hbF]
  exact hbk
 have d1:w2.cell? ⟨b,1,none⟩=some (.slice A xs.length cap):=by rw[Lib.cell_of_heap hb2];rfl
 have f1:w2.frozen? ⟨b,1,none⟩=false:=Lib.frozen_of_heap hb2 1
 have hbF':b ∉ F':=fun h=>(r8 b h).elim hbF fun h=>by omega
 go_wp2_with (at_builtin;refine Lib.wpList_append_run _ rfl _ _ _ _ rfl _ _ rfl rfl _ _ hrun ?_)
 go_ret2
 obtain⟨s1,s2,s3⟩:=Ydo (u:= .slice l'.A (xs++Qa7 str).length l'.cap) hb2
 rw[length_append] at s1 s2 s3 r1 r9
 refine⟨rfl,_,F',s1,r1.same fun k hk=>s2 k fun e=>hbF' (e▸hk),r2,hbF',r3.trans k1,r4.trans k2,r5.trans k3,by rw[s3];omega,fun k hk hkF hkb=>?_,fun k hk=>(r8 k hk).imp id fun h=>by omega,fun g n cap hg=>?_⟩
 ·rw[s2 k hkb,r7 k (by omega) hkF,k5 k hkb]
 ·obtain⟨arr,q1,q2⟩:=r9 g n cap hg
  refine⟨arr,?_,q2⟩
  rw[s2 g ?_]
  ·exact q1
  ·rintro rfl
   rw[hb2] at q1
   injection q1 with q1
   injection q1 with _ q1 _
   exact absurd q1 (by decide)
theorem Qp4 {θ:List Loc} {r b:Nat} {l:Loc} (h:θ[r]?=some l) (hA:l.A=some ⟨b,0,none⟩):V.con θ (.pt r 0)=some (.pointer (some ⟨b,0,none⟩)):=by
 obtain⟨A,cap,F⟩:=l
 simp only at hA
 subst hA
 simp only[V.con,h,Addr.add_zero']
theorem Q3h {θ:List Loc} {r n:Nat} {l:Loc} (h:θ[r]?=some l):V.con θ (.sl r n)=some (.slice l.A n l.cap):=by
 simp only[V.con,h]
theorem Yan {θ:List Loc} {x y:V} {u v:Value} (h1:x.con θ=some u) (h2:y.con θ=some v):conL θ [x,y]=some [u,v]:=by
 simp only[conL,h1,h2]
theorem Ylm {θ:List Loc} {x:V} {u:Value} (h1:x.con θ=some u):conL θ [x]=some [u]:=by
 simp only[conL,h1]
theorem Ycw {S:Nat→Prop} {w w':World} {p:Nat→Loc} {b:Nat} {xs':List UInt8} {v':Value} {F F':List Nat} (hA:(p 0).A=some ⟨b,0,none⟩) (hF0:(p 0).F=[b]) (hbS: ¬ S b) (hbl:b<w.heap.size) (dom: ∀ k,S k→k<w.heap.size) (hFS: ∀ k∈F,¬ S k)
  (hb':w'.heap[b]?=some (.cells #[.pointer (some ⟨b,0,none⟩),v'] 240 (0,0))) (r1:SlO w' v' xs' F') (r2:F'.Nodup) (hbF':b ∉ F') (r3:w'.os=w.os) (r4:w'.tape=w.tape) (r5:w'.output=w.output) (r6:w.heap.size≤w'.heap.size) (r7: ∀ k,k<w.heap.size→k ∉ F→k≠b→w'.heap[k]?=w.heap[k]?) (r8: ∀ k∈F',k∈F∨w.heap.size≤k)
  (r9: ∀ g n cap,v'= .slice (some ⟨g,0,none⟩) n cap→ ∃ arr,w'.heap[g]?=some (.cells arr 5 (0,0))∧arr.size=cap∧0<cap) {x:V} {ux:Value} (hx: ∀ θ,x.con θ=some ux) {y:V} {uy:Value} (hy: ∀ θ,y.con θ=some uy):
  MQ S w p 1 [(0,.var [.pt 0 0,.sl 1 xs'.length] 240),(1,.any (BufP xs'))] 1 [x,y] True w' (.tuple #[ux,uy]):=by
 obtain⟨l',hv',hF'⟩:=Qx3 r1
 subst hv'
 have g0:(thz p 1++[l'])[0]?=some (p 0):=rfl
 have g1:(thz p 1++[l'])[1]?=some l':=rfl
 refine⟨trivial,[l'],[ux,uy],rfl,by simp only[conL,hx,hy],rfl,?_⟩
 have f0:((En.var [.pt 0 0,.sl 1 xs'.length] 240).ck (thz p 1++[l']) 0).F=[b]:=(Qaj g0).trans hF0
 have f1:((En.any (BufP xs')).ck (thz p 1++[l']) 1).F=F':=(Qaj g1).trans hF'
 have same: ∀ k,S k→w'.heap[k]?=w.heap[k]?:=fun k hk=>r7 k (dom k hk) (fun h=>hFS k h hk) fun e=>hbS (e▸hk)
 refine⟨⟨r3,r4,r5,r6,same⟩,dom,fun c hc=>?_,fun c hc k hk=>?_,?_⟩
 ·rcases List.mem_cons.1 hc with rfl | hc
  ·intro w2 hw2
   refine⟨p 0,b,[.pointer (some ⟨b,0,none⟩),.slice l'.A xs'.length l'.cap],g0,hA,hF0,?_,?_⟩
   ·exact Yan (Qp4 g0 hA) (Q3h g1)
   ·exact(hw2 b (by rw[f0];exact mem_singleton.2 rfl)).trans hb'
  ·obtain rfl:=mem_singleton.1 hc
   intro w2 hw2
   rw[f1] at hw2
   refine⟨l',g1,fun k hk=>?_,?_,fun g hg=>?_⟩
   ·rw[hF'] at hk
    have:=r1.lt k hk
    rcases Nat.lt_or_ge k w2.heap.size with h | h
    ·exact h
    ·have:=hw2 k hk
     rw[Array.getElem?_eq_none h,Array.getElem?_eq_getElem (r1.lt k hk)] at this
     cases this
   ·rw[hF']
    exact r1.same hw2
   ·obtain⟨arr,q1,q2⟩:=r9 g _ _ (by rw[hg])
    have hgF:g∈F':=by
     rcases r1.fl inferInstance rfl with ⟨e1,_⟩ | ⟨g0,cap0,arr0,T0,e1,_,_,_,_,e6,_⟩
     ·rw[hg] at e1;injection e1 with e1 _ _;cases e1
     ·rw[hg] at e1
      injection e1 with e1 _ _
      injection e1 with e1
      injection e1 with e1
      rw[e1]
      exact e6
    exact⟨arr,(hw2 g hgF).trans q1,q2⟩
 ·rcases List.mem_cons.1 hc with rfl | hc
  ·rw[f0] at hk
   rw[mem_singleton.1 hk]
   exact⟨hbS,by omega⟩
  ·obtain rfl:=mem_singleton.1 hc
   rw[f1] at hk
   refine⟨fun hS=>?_,r1.lt k hk⟩
   rcases r8 k hk with h | h
   ·exact hFS k h hS
   ·have:=dom k hS;omega
 ·show(List.flatMap (·.F) [(En.var [.pt 0 0,.sl 1 xs'.length] 240).ck (thz p 1++[l']) 0,(En.any (BufP xs')).ck (thz p 1++[l']) 1]).Nodup
  rw[List.flatMap_cons,List.flatMap_cons,List.flatMap_nil,append_nil,f0,f1]
  exact List.nodup_cons.2 ⟨hbF',r2⟩
theorem k_ws (xs:List UInt8) (str:ByteArray) (hlen:xs.length+str.size≤140737488355328):CTMs 245 1 2 [(0,.var [.pt 0 0,.sl 1 xs.length] 240),(1,.any (BufP xs))] [] [.pt 0 0,.v (.string str)] [(0,.var [.pt 0 0,.sl 1 (xs++Qa7 str).length] 240),(1,.any (BufP (xs++Qa7 str)))] 1 [.v (.int .i64 str.size),.v .nilIface] True:=by
 intro S w p us hG hgs hsh _ hargs
 have g0:=Qia (p:=p) (n:=2) (k:=0) (by omega)
 have g1:=Qia (p:=p) (n:=2) (k:=1) (by omega)
 have e0:(([(0,.var [.pt 0 0,.sl 1 xs.length] 240),(1,.any (BufP xs))]:List (Nat×En)).map fun e=>e.2.ck (thz p 2) e.1)[0]?=some ((En.var [.pt 0 0,.sl 1 xs.length] 240).ck (thz p 2) 0):=rfl
 have e1:(([(0,.var [.pt 0 0,.sl 1 xs.length] 240),(1,.any (BufP xs))]:List (Nat×En)).map fun e=>e.2.ck (thz p 2) e.1)[1]?=some ((En.any (BufP xs)).ck (thz p 2) 1):=rfl
 obtain⟨l0,b,ccs,hl0,hA,hF,hcc,hb⟩:=hsh.get e0
 obtain⟨l1,hl1,hlt1,hv,hT⟩:=hsh.get e1
 rw[g0] at hl0;cases hl0
 rw[g1] at hl1;cases hl1
 have f0:((En.var [.pt 0 0,.sl 1 xs.length] 240).ck (thz p 2) 0).F=[b]:=(Qaj g0).trans hF
 have f1:((En.any (BufP xs)).ck (thz p 2) 1).F=(p 1).F:=Qaj g1
 have hus:us=[.pointer (some ⟨b,0,none⟩),.string str]:=by
  have:conL (thz p 2) [.pt 0 0,.v (.string str)]=some [.pointer (some ⟨b,0,none⟩),.string str]:=Yan (Qp4 g0 hA) rfl
  rw[this] at hargs
  exact(Option.some.inj hargs).symm
 subst hus
 have hccs:ccs=[.pointer (some ⟨b,0,none⟩),.slice (p 1).A xs.length (p 1).cap]:=by
  have:conL (thz p 2) [.pt 0 0,.sl 1 xs.length]=some [.pointer (some ⟨b,0,none⟩),.slice (p 1).A xs.length (p 1).cap]:=Yan (Qp4 g0 hA) (Q3h g1)
  rw[this] at hcc
  exact(Option.some.inj hcc).symm
 subst hccs
 have hnd:=hsh.nd e1
 rw[f1] at hnd
 have hdj:=hsh.dj e0 e1 (by omega)
 rw[f0,f1] at hdj
 have hge0:=hsh.ge _ (List.mem_of_getElem? e0) b (by rw[f0];exact mem_singleton.2 rfl)
 have hge1:=hsh.ge _ (List.mem_of_getElem? e1)
 rw[f1] at hge1
 refine(Yln b _ _ xs (p 1).F str w hb (.inr rfl) hv hnd (hdj b (mem_singleton.2 rfl)) (fun g n cap hg=>?_) hlen).mono fun e w' hq=>?_
 ·injection hg with h1 h2 h3
  obtain⟨arr,q1,q2,q3⟩:=hT g h1
  exact⟨arr,q1,by rw[q2,h3],by rw[←h3];exact q3⟩
 ·obtain⟨rfl,v',F',q1,q2,q3,q4,q5,q6,q7,q8,q9,q10,q11⟩:=hq
  exact⟨_,rfl,Ycw (F:=(p 1).F) hA hF hge0.1 hge0.2 hsh.dom (fun k hk=>(hge1 k hk).1) q1 q2 q3 q4 q5 q6 q7 q8 q9 q10 q11 (fun _=>rfl) (fun _=>rfl)⟩
theorem Yms (str:ByteArray) (hlen:str.size≤140737488355328):CTMs 245 1 1 [(0,.var [.v (.pointer none),.v (.slice none 0 0)] 240)] [] [.pt 0 0,.v (.string str)] [(0,.var [.pt 0 0,.sl 1 (Qa7 str).length] 240),(1,.any (BufP (Qa7 str)))] 1 [.v (.int .i64 str.size),.v .nilIface] True:=by
 intro S w p us hG hgs hsh _ hargs
 have g0:=Qia (p:=p) (n:=1) (k:=0) (by omega)
 have e0:(([(0,.var [.v (.pointer none),.v (.slice none 0 0)] 240)]:List (Nat×En)).map fun e=>e.2.ck (thz p 1) e.1)[0]?=some ((En.var [.v (.pointer none),.v (.slice none 0 0)] 240).ck (thz p 1) 0):=rfl
 obtain⟨l0,b,ccs,hl0,hA,hF,hcc,hb⟩:=hsh.get e0
 rw[g0] at hl0;cases hl0
 cases hcc
 have f0:((En.var [.v (.pointer none),.v (.slice none 0 0)] 240).ck (thz p 1) 0).F=[b]:=(Qaj g0).trans hF
 have hus:us=[.pointer (some ⟨b,0,none⟩),.string str]:=by
  have:conL (thz p 1) [.pt 0 0,.v (.string str)]=some [.pointer (some ⟨b,0,none⟩),.string str]:=Yan (Qp4 g0 hA) rfl
  rw[this] at hargs
  exact(Option.some.inj hargs).symm
 subst hus
 have hge0:=hsh.ge _ (List.mem_of_getElem? e0) b (by rw[f0];exact mem_singleton.2 rfl)
 refine(Yln b _ _ [] [] str w hb (.inl rfl) (Qhj.2 (.inl ⟨rfl,rfl,rfl⟩)) List.nodup_nil (fun h=>by cases h) (fun g n cap hg=>by injection hg with hg _ _;cases hg) (by simpa using hlen)).mono fun e w' hq=>?_
 obtain⟨rfl,v',F',q1,q2,q3,q4,q5,q6,q7,q8,q9,q10,q11⟩:=hq
 exact⟨_,rfl,Ycw (F:=[]) hA hF hge0.1 hge0.2 hsh.dom (fun k hk=>by cases hk) q1 q2 q3 q4 q5 q6 q7 q8 q9 q10 q11 (fun _=>rfl) (fun _=>rfl)⟩
set_option maxHeartbeats 1000000 in
set_option maxRecDepth 100000 in
theorem Ylo (b n cap:Nat) (p:Value) (A:Option Addr) (w:World) (hb:w.heap[b]?=some (.cells #[p,.slice A n cap] 240 (0,0))):
  Calls Tryz.prog 246 #[.pointer (some ⟨b,0,none⟩)] w fun e w'=>e= .returned (.int .i64 n)∧w'=w:=by
 have c1:w.cell? ⟨b,1,none⟩=some (.slice A n cap):=by rw[Lib.cell_of_heap hb];rfl
 have mixed:Tryz.prog.follows .mixedOrders=true:=by kernel_rfl
 have t72:=Tryz.underlying240;have a72:=Tryz.isAgg240;have z72:=Tryz.sizeOf240;have u72:=run_underlying t72
 have t70:=Tryz.underlying238;have a70:=Tryz.isAgg238;have z70:=Tryz.sizeOf238;have v70:=Tryz.zeroValue238;have u70:=run_underlying t70
 have t37:=Tryz.underlying144;have a37:=Tryz.isAgg144;have z37:=Tryz.sizeOf144;have v37:=Tryz.zeroValue144;have u37:=run_underlying t37
 have t3:=Tryz.underlying3;have a3:=Tryz.isAgg3;have z3:=Tryz.sizeOf3;have v3:=Tryz.zeroValue3;have u3:=run_underlying t3
 clear hb
 go_enter Tryz.func246,Tryz.ntmps246
 go_wp2
 go_ret
 exact⟨rfl,rfl⟩
set_option maxHeartbeats 1000000 in
set_option maxRecDepth 100000 in
theorem Q2q (b cap:Nat) (p:Value) (A:Option Addr) (w:World) (hb:w.heap[b]?=some (.cells #[p,.slice A 0 cap] 240 (0,0))) (hA:A=none∨cap≠0):
  Calls Tryz.prog 248 #[.pointer (some ⟨b,0,none⟩)] w fun e w'=>e= .returned (.string .empty)∧w'=w.drew:=by
 have c1:w.drew.cell? ⟨b,1,none⟩=some (.slice A 0 cap):=by
  have:w.drew.heap[b]?=some (.cells #[p,.slice A 0 cap] 240 (0,0)):=hb
  simp[World.cell?,this]
 have hSD:(Builtin.unsafeSliceData_ #[144] 253 #[.slice A 0 cap]).run Tryz.prog w.drew= .ok (.pointer A) w.drew:=by
  cases A with
  | none=>exact Lib.run_unsafeSliceData_nil _ _ _ _ _
  | some a=>exact Lib.run_unsafeSliceData_row _ _ _ _ _ _ (hA.elim (fun h=>by cases h) id)
 have hUS:(Builtin.unsafeString_ #[253,3] 9 #[.pointer A,.int .i64 0]).run Tryz.prog w.drew= .ok (.string .empty) w.drew:=Lib.run_unsafeString_none _ _ _ _ _
 have mixed:Tryz.prog.follows .mixedOrders=true:=by kernel_rfl
 have t72:=Tryz.underlying240;have a72:=Tryz.isAgg240;have z72:=Tryz.sizeOf240;have u72:=run_underlying t72
 have t70:=Tryz.underlying238;have a70:=Tryz.isAgg238;have z70:=Tryz.sizeOf238;have v70:=Tryz.zeroValue238;have u70:=run_underlying t70
 have t37:=Tryz.underlying144;have a37:=Tryz.isAgg144;have z37:=Tryz.sizeOf144;have v37:=Tryz.zeroValue144;have u37:=run_underlying t37
 have t127:=Tryz.underlying253;have a127:=Tryz.isAgg253;have z127:=Tryz.sizeOf253;have v127:=Tryz.zeroValue253;have u127:=run_underlying t127
 have t3:=Tryz.underlying3;have a3:=Tryz.isAgg3;have z3:=Tryz.sizeOf3;have v3:=Tryz.zeroValue3;have u3:=run_underlying t3
 have t9:=Tryz.underlying9;have a9:=Tryz.isAgg9;have z9:=Tryz.sizeOf9;have v9:=Tryz.zeroValue9;have u9:=run_underlying t9
 clear hA
 go_enter Tryz.func248,Tryz.ntmps248
 go_wp2
 go_region_o
 all_goals (go_wp2;go_ret;exact⟨rfl,rfl⟩)
def BufZ (xs:List UInt8) (l:Loc) (w:World):Prop:=(l.A=none∧xs=[]) ∨ ∃ g arr fz,l.A=some ⟨g,0,none⟩∧g∈l.F∧w.heap[g]?=some (.cells arr 5 fz)∧arr.size=l.cap∧0<l.cap∧l.cap≤maxLen∧xs.length≤l.cap∧ ∀ (j:Nat) (x:UInt8),xs[j]?=some x→arr[j]?=some (Value.int .u8 x.toNat)
theorem BufP.z {xs:List UInt8} {l:Loc} {w:World} (h:BufP xs l w):BufZ xs l w:=by
 obtain⟨hv,hT⟩:=h
 rcases hv.fl inferInstance rfl with ⟨e1,e2⟩ | ⟨g,cap,arr,T,e1,e2,e3,e4,e5,e6,e7⟩
 ·injection e1 with e1 _ _
  exact .inl ⟨e1,e2⟩
 ·injection e1 with h1 _ h3
  obtain⟨arr',q1,q2,q3⟩:=hT g h1
  rw[e2] at q1
  injection q1 with q1
  injection q1 with x1 x2 _
  subst x1
  subst x2
  refine .inr ⟨g,arr,(0,0),h1,e6,e2,q2,q3,by rw[h3];exact e4,by rw[h3];exact e3,fun j x hj=>?_⟩
  have:=Yez e7 hj
  rwa [Array.getElem?_toList] at this
theorem Ymt {P:List UInt8→Loc→World→Prop} (xs:List UInt8):CTMs 246 2 2 [(0,.var [.pt 0 0,.sl 1 xs.length] 240),(1,.any (P xs))] [] [.pt 0 0] [(0,.var [.pt 0 0,.sl 1 xs.length] 240),(1,.any (P xs))] 0 [.v (.int .i64 xs.length)] True:=by
 intro S w p us hG hgs hsh _ hargs
 have g0:=Qia (p:=p) (n:=2) (k:=0) (by omega)
 have e0:(([(0,.var [.pt 0 0,.sl 1 xs.length] 240),(1,.any (P xs))]:List (Nat×En)).map fun e=>e.2.ck (thz p 2) e.1)[0]?=some ((En.var [.pt 0 0,.sl 1 xs.length] 240).ck (thz p 2) 0):=rfl
 have g1:=Qia (p:=p) (n:=2) (k:=1) (by omega)
 obtain⟨l0,b,ccs,hl0,hA,hF,hcc,hb⟩:=hsh.get e0
 rw[g0] at hl0;cases hl0
 have hus:us=[.pointer (some ⟨b,0,none⟩)]:=by
  have:conL (thz p 2) [.pt 0 0]=some [.pointer (some ⟨b,0,none⟩)]:=Ylm (Qp4 g0 hA)
  rw[this] at hargs
  exact(Option.some.inj hargs).symm
 subst hus
 have hccs:ccs=[.pointer (some ⟨b,0,none⟩),.slice (p 1).A xs.length (p 1).cap]:=by
  have:conL (thz p 2) [.pt 0 0,.sl 1 xs.length]=some [.pointer (some ⟨b,0,none⟩),.slice (p 1).A xs.length (p 1).cap]:=Yan (Qp4 g0 hA) (Q3h g1)
  rw[this] at hcc
  exact(Option.some.inj hcc).symm
 subst hccs
 refine(Ylo b _ _ _ _ w hb).mono ?_
 rintro e w' ⟨rfl,rfl⟩
 refine⟨_,rfl,trivial,[],[_],rfl,rfl,rfl,?_⟩
 rw[append_nil]
 exact hsh
theorem BufZ.same {xs:List UInt8} {l:Loc} {w w2:World} (h:BufZ xs l w) (hw: ∀ k∈l.F,w2.heap[k]?=w.heap[k]?):BufZ xs l w2:=by
 rcases h with h | ⟨g,arr,fz,h1,h2,h3,h4⟩
 ·exact .inl h
 ·exact .inr ⟨g,arr,fz,h1,h2,(hw g h2).trans h3,h4⟩
theorem Yh6 {P:List UInt8→Loc→World→Prop} (xs:List UInt8) (hP: ∀ l w,P xs l w→BufZ xs l w):CTMs 248 2 2 [(0,.var [.pt 0 0,.sl 1 xs.length] 240),(1,.any (P xs))] [] [.pt 0 0] [(0,.var [.pt 0 0,.sl 1 xs.length] 240),(1,.any (BufZ xs))] 0 [.v (.string (bstr xs))] True:=by
 intro S w p us hG hgs hsh _ hargs
 have g0:=Qia (p:=p) (n:=2) (k:=0) (by omega)
 have e0:(([(0,.var [.pt 0 0,.sl 1 xs.length] 240),(1,.any (P xs))]:List (Nat×En)).map fun e=>e.2.ck (thz p 2) e.1)[0]?=some ((En.var [.pt 0 0,.sl 1 xs.length] 240).ck (thz p 2) 0):=rfl
 have e1:(([(0,.var [.pt 0 0,.sl 1 xs.length] 240),(1,.any (P xs))]:List (Nat×En)).map fun e=>e.2.ck (thz p 2) e.1)[1]?=some ((En.any (P xs)).ck (thz p 2) 1):=rfl
 have g1:=Qia (p:=p) (n:=2) (k:=1) (by omega)
 obtain⟨l0,b,ccs,hl0,hA,hF,hcc,hb⟩:=hsh.get e0
 obtain⟨l1,hl1,hlt1,hPw⟩:=hsh.get e1
 rw[g0] at hl0;cases hl0
 rw[g1] at hl1;cases hl1
 have f0:((En.var [.pt 0 0,.sl 1 xs.length] 240).ck (thz p 2) 0).F=[b]:=(Qaj g0).trans hF
 have f1:((En.any (P xs)).ck (thz p 2) 1).F=(p 1).F:=Qaj g1
 have f1':((En.any (BufZ xs)).ck (thz p 2) 1).F=(p 1).F:=Qaj g1
 have hus:us=[.pointer (some ⟨b,0,none⟩)]:=by
  have:conL (thz p 2) [.pt 0 0]=some [.pointer (some ⟨b,0,none⟩)]:=Ylm (Qp4 g0 hA)
  rw[this] at hargs
  exact(Option.some.inj hargs).symm
 subst hus
 have hccs:ccs=[.pointer (some ⟨b,0,none⟩),.slice (p 1).A xs.length (p 1).cap]:=by
  have:conL (thz p 2) [.pt 0 0,.sl 1 xs.length]=some [.pointer (some ⟨b,0,none⟩),.slice (p 1).A xs.length (p 1).cap]:=Yan (Qp4 g0 hA) (Q3h g1)
  rw[this] at hcc
  exact(Option.some.inj hcc).symm
 subst hccs
 have key: ∀ w',w'.os=w.os→w'.tape=w.tape→w'.output=w.output→w'.heap.size=w.heap.size→(∀ k,k ∉ (p 1).F→w'.heap[k]?=w.heap[k]?)→(∀ w2:World,(∀ k∈(p 1).F,w2.heap[k]?=w'.heap[k]?)→BufZ xs (p 1) w2)→
   SH S w w' (([(0,.var [.pt 0 0,.sl 1 xs.length] 240),(1,.any (BufZ xs))]:List (Nat×En)).map fun e=>e.2.ck (thz p 2) e.1):=by
  intro w' k1 k2 k3 k4 k5 k6
  have h2:=hsh.turn (c':=(En.any (BufZ xs)).ck (thz p 2) 1) (w':=w') e1 k1 k2 k3 (by omega) (fun k _ hk=>k5 k (by rwa [f1] at hk)) (fun w2 hw2=>?_) (fun k hk=>?_) (by rw[f1'];have:=hsh.nd e1;rwa [f1] at this)
  ·exact h2
  ·rw[f1'] at hw2
   refine⟨p 1,g1,fun k hk=>?_,k6 w2 hw2⟩
   have:=hw2 k hk
   rcases Nat.lt_or_ge k w2.heap.size with h | h
   ·exact h
   ·have hl:=hlt1 k hk
    rw[Array.getElem?_eq_none h,Array.getElem?_eq_getElem (by omega)] at this
    cases this
  ·rw[f1'] at hk
   rw[f1]
   exact⟨.inl hk,by rw[k4];exact hlt1 k hk⟩
 have hz:=hP _ _ hPw
 rcases hz with ⟨hA1,rfl⟩ | ⟨g,arr,fz,hA1,hgF,hg,hsz,hc0,hcm,hle,hcell⟩
 ·refine(Q2q b _ _ _ w hb (.inl hA1)).mono ?_
  rintro e w' ⟨rfl,rfl⟩
  refine⟨_,rfl,trivial,[],[_],rfl,rfl,rfl,?_⟩
  rw[append_nil]
  exact key w.drew rfl rfl rfl rfl (fun _ _=>rfl) fun w2 hw2=> .inl ⟨hA1,rfl⟩
 ·have hz:BufZ xs (p 1) w:= .inr ⟨g,arr,fz,hA1,hgF,hg,hsz,hc0,hcm,hle,hcell⟩
  by_cases hx:xs=[]
  ·subst hx
   refine(Q2q b _ _ _ w hb (.inr (by omega))).mono ?_
   rintro e w' ⟨rfl,rfl⟩
   refine⟨_,rfl,trivial,[],[_],rfl,rfl,rfl,?_⟩
   rw[append_nil]
   exact key w.drew rfl rfl rfl rfl (fun _ _=>rfl) fun w2 hw2=>hz.same hw2
  ·rw[hA1] at hb
   refine(Ycv b g _ _ arr fz xs w hx hb hg (by omega) hle hcm fun j x hj=>?_).mono ?_
   ·rw[Qqm,cell_of_row w g j arr 5 fz hg]
    exact hcell j x hj
   ·rintro e w' ⟨rfl,rfl⟩
    refine⟨_,rfl,trivial,[],[_],rfl,rfl,rfl,?_⟩
    rw[append_nil]
    obtain⟨fz',hg'⟩:=Yag (w:=w.drew) (n:=xs.length) hg
    have hr:=Q7b (w:=w.drew) (g:=g) (n:=xs.length)
    refine key _ hr.1 hr.2.1 hr.2.2 Q7a (fun k hk=>Q54 fun e=>hk (e▸hgF)) fun w2 hw2=>?_
    exact BufZ.same (.inr ⟨g,arr,fz',hA1,hgF,hg',hsz,hc0,hcm,hle,hcell⟩) hw2
end
section
theorem Qny (P:Program) (g o:Nat) (t:TypeId) (fz:Nat×Nat): ∀ (vs:List Value) (i:Nat) (cur:Array Value) (w:World),w.heap[g]?=some (.cells cur t fz)→(fz.2=0∨cur.size≤fz.1)→o+i+vs.length≤cur.size→(∀ v∈vs,v.oneCell'=true)→
  (storeCells ⟨g,o,none⟩ vs i).run P w= .ok () (w.setRow g (cur.toList.take (o+i)++vs++cur.toList.drop (o+i+vs.length)).toArray)
 | [], i, cur, w, hg, _, _, _ => by
  simp only[storeCells,append_nil,length_nil,Nat.add_zero,List.take_append_drop,Array.toArray_toList]
  rw[setRow_self w g cur t fz hg]
  rfl
 | v :: rest, i, cur, w, hg, hfz, hl, h1 => by
  have hi:o+i<cur.size:=by simp at hl;omega
  have hadd:(⟨g,o,none⟩:Addr).add i=⟨g,o+i,none⟩:=by unfold Addr.add;split<;>simp_all
  have hcell:w.cell? ⟨g,o+i,none⟩=some cur[o+i]:=by simp[World.cell?,hg,hi]
  have hfro:w.frozen? ⟨g,o+i,none⟩=false:=by
   obtain⟨lo,hi'⟩:=fz
   simp only[World.frozen?,hg,Bool.and_eq_false_iff,decide_eq_false_iff_not]
   simp only at hfz
   omega
  have hst:(store ((⟨g,o,none⟩:Addr).add i) v).run P w= .ok () (w.setRow g (cur.setIfInBounds (o+i) v)):=by
   rw[hadd,run_store P w _ v _ (h1 v (by simp)),hcell]
   simp[hfro,setCell_eq_setRow w g (o+i) cur t fz v hg]
  have ih:=Qny P g o t fz rest (i+1) (cur.setIfInBounds (o+i) v) (w.setRow g (cur.setIfInBounds (o+i) v)) (setRow_heap w g cur _ t _ hg) (by rw[Array.size_setIfInBounds];exact hfz) (by simp at hl ⊢;omega) (fun x hx=>h1 x (by simp[hx]))
  simp only[storeCells,Sem.run_bind,hst,Result.andThen_ok,ih,setRow_setRow]
  congr 3
  have e:=list_seg_step cur.toList (o+i) v rest (by simp at hl ⊢;omega)
  simpa [Array.toList_setIfInBounds,Nat.add_assoc] using e
def u8s (xs:List UInt8):List Value:=xs.map fun b=>Value.int .u8 b.toNat
theorem Qne (xs:List UInt8):(u8s xs).length=xs.length:=by simp[u8s]
theorem Ya9 (xs ys:List UInt8):u8s (xs++ys)=u8s xs++u8s ys:=by simp[u8s]
theorem Ygq {xs : List UInt8} : ∀ u ∈ u8s xs, u.oneCell' = true := fun u hu => by
 obtain⟨b,_,rfl⟩:=List.mem_map.1 hu
 rfl
def BufM (e:TypeId) (xs:List UInt8) (l:Loc) (w:World):Prop:= ∃ g arr fz,l.A=some ⟨g,0,none⟩∧l.F=[g]∧w.heap[g]?=some (.cells arr e fz)∧(fz.2=0∨arr.size≤fz.1)∧xs.length≤l.cap∧l.cap≤maxLen∧l.cap≤arr.size∧arr.toList.take xs.length=u8s xs
theorem BufM.same {e:TypeId} {xs:List UInt8} {l:Loc} {w w2:World} (h:BufM e xs l w) (hw: ∀ k∈l.F,w2.heap[k]?=w.heap[k]?):BufM e xs l w2:=by
 obtain⟨g,arr,fz,h1,h2,h3,h4⟩:=h
 exact⟨g,arr,fz,h1,h2,(hw g (by rw[h2];exact mem_singleton.2 rfl)).trans h3,h4⟩
theorem BufM.lt {e:TypeId} {xs:List UInt8} {l:Loc} {w:World} (h:BufM e xs l w): ∀ k∈l.F,k<w.heap.size:=by
 obtain⟨g,arr,fz,h1,h2,h3,h4⟩:=h
 intro k hk
 rw[h2] at hk
 rw[mem_singleton.1 hk]
 exact(Array.getElem?_eq_some_iff.1 h3).1
theorem BufM.cell {e:TypeId} {xs:List UInt8} {w:World} {g:Nat} {arr:Array Value} {fz:Nat×Nat} (h3:w.heap[g]?=some (.cells arr e fz)) (h8:arr.toList.take xs.length=u8s xs): ∀ j u,(u8s xs)[j]?=some u→w.cell? ((⟨g,0,none⟩:Addr).add j)=some u:=by
 intro j u hj
 rw[←h8,getElem?_take] at hj
 split at hj
 ·rw[Qqm]
  have:(⟨g,0+j,none⟩:Addr)=⟨g,j,none⟩:=by rw[Nat.zero_add]
  first
  | (rw[cell_of_row w g j arr e fz h3];rwa [Array.getElem?_toList] at hj)
  | (rw[this,cell_of_row w g j arr e fz h3];rwa [Array.getElem?_toList] at hj)
 ·cases hj
section
variable {P:Program}
set_option maxHeartbeats 1000000 in
theorem Ydr {t ts e ty:Nat} {z u:Value} {w:World} {l:Loc} {xs ys:List UInt8} (ht:Qeh P t e 1 1=true) (hz: ∀ w,(zeroValue e).run P w= .ok z w) (hzs:z.cells.size=1) (hv:BufM e xs l w)
  (hts:P.underlying ts=some .string ∨ ∃ q,P.underlying ts=some (.slice q)) (hln: ∀ w,(Builtin.lenOf u).run P w= .ok ys.length w) (hfirst: ∀ w':World,w'.heap=w.heap→(Builtin.firstCells 1 ys.length u).run P w'= .ok (u8s ys).toArray w') (hb:xs.length+ys.length≤140737488355328):
  ∃ l' w',(Builtin.append_ #[t,ts] ty #[.slice l.A xs.length l.cap,u]).run P w= .ok (.slice l'.A (xs++ys).length l'.cap) w'∧BufM e (xs++ys) l' w'∧w'.os=w.os∧w'.tape=w.tape∧w'.output=w.output∧w.heap.size≤w'.heap.size∧(∀ b,b<w.heap.size→b ∉ l.F→w'.heap[b]?=w.heap[b]?)∧(∀ b∈l'.F,b∈l.F∨w.heap.size≤b)∧l'.F.Nodup:=by
 obtain⟨hu,i,hi,his,hib⟩:=Qbd ht
 have hzi:i.zero=some z:=by
  have:=hz w
  simp only[zeroValue,Sem.run_bind,typeInfo,run_program,hi,Sem.run_pure,Result.andThen_ok] at this
  cases hzz:i.zero with
  | none=>rw[hzz] at this;simp at this
  | some z'=>rw[hzz] at this;simp at this;rw[this]
 have hm:xs.length+ys.length≤maxLen:=by unfold maxLen;omega
 obtain⟨g,arr,fz,h1,h2,h3,h4,h5,h6,h7,h8⟩:=hv
 have hal:arr.toList.length=arr.size:=Array.length_toList
 rw[h1]
 by_cases hroom:xs.length+ys.length≤l.cap
 ·have hst:=Qny P g xs.length e fz (u8s ys) 0 arr w h3 h4 (by rw[Qne];omega) Ygq
  simp only[Nat.add_zero] at hst
  refine⟨⟨some ⟨g,0,none⟩,l.cap,[g]⟩,w.setRow g (arr.toList.take xs.length++u8s ys++arr.toList.drop (xs.length+(u8s ys).length)).toArray,?_,⟨g,_,fz,rfl,rfl,setRow_heap w g arr _ e _ h3,?_,by rw[length_append];exact hroom,h6,?_,?_⟩,rfl,rfl,rfl,by simp,fun b _ hbF=>setRow_other w g b _ fun e=>hbF (by rw[h2,e];exact mem_singleton.2 rfl),fun b hb=> .inl (by rw[h2];exact hb),by simp⟩
  ·rw[length_append]
   have hf:=hfirst w rfl
   rcases hts with hts | ⟨q,hts⟩<;>simp[Builtin.append_,run_underlying hu,run_underlying hts,sizeOf,typeInfo,hi,his,hln,hroom,hf,Addr.add_lit,hst]
  ·have:(arr.toList.take xs.length++u8s ys++arr.toList.drop (xs.length+(u8s ys).length)).toArray.size=arr.size:=by
    simp only[size_toArray,length_append,length_take,length_drop,hal,Qne]
    omega
   rw[this]
   exact h4
  ·simp only[size_toArray,length_append,length_take,length_drop,hal,Qne]
   omega
  ·show List.take _ (arr.toList.take xs.length++u8s ys++arr.toList.drop (xs.length+(u8s ys).length))=_
   rw[h8,←Ya9]
   exact List.take_left' (Qne _)
 ·have hge:=grownCap_ge w (xs.length+ys.length) l.cap e
  have hcm:=grownCap_le_maxLen w (xs.length+ys.length) l.cap e hm
  refine⟨⟨some ⟨w.heap.size,0,none⟩,grownCap w (xs.length+ys.length) l.cap e,[w.heap.size]⟩,w.drew.alloc (.cells ((u8s xs).toArray++(u8s ys).toArray++Builtin.zeroCells z.cells (grownCap w (xs.length+ys.length) l.cap e - (xs.length+ys.length))) e),?_,⟨w.heap.size,_,(0,0),rfl,rfl,heap_alloc_new w.drew _,.inl rfl,by rw[length_append];exact hge,hcm,?_,?_⟩,rfl,rfl,rfl,by simp,fun b hb _=>heap_alloc_old w.drew _ hb,fun b hb=> .inr (by rw[mem_singleton.1 hb];exact Nat.le_refl _),by simp⟩
  ·have hf2:=run_firstCells_some (P:=P) w.drew 1 xs.length ⟨g,0,none⟩ xs.length l.cap (u8s xs) (by rw[Qne,Nat.mul_one]) (BufM.cell h3 h8)
   have hf:=hfirst w.drew rfl
   have h63': ¬ (9223372036854775807<((xs.length:Int)+(ys.length:Int))):=by simp only[maxLen] at hm;omega
   have h48': ¬ (281474976710656<Builtin.nextslicecap (xs.length+ys.length) l.cap*i.bytes):=by have:=growslice_fits (old:=l.cap) (need:=xs.length+ys.length) (bytes:=i.bytes) (by omega) (by rw[hib];omega);omega
   have hng: ¬ (xs.length+ys.length≤l.cap):=hroom
   rw[length_append]
   rcases hts with hts | ⟨q,hts⟩<;>(simp[Builtin.append_,run_underlying hu,run_underlying hts,sizeOf,typeInfo,hi,his,hzi,hln,hf,hf2,hng,h63',h48',zeroValue,grownCap,newRow,Question.forced];try (congr 2;apply Array.ext';simp[append_assoc]))
  ·simp only[Array.size_append,size_toArray,size_zeroCells,hzs,Qne]
   omega
  ·simp only[Array.toList_append,append_assoc]
   rw[←append_assoc,←Ya9]
   exact List.take_left' (Qne _)
end
section
variable {c:Cx} {σ:St} {all:Array Oper} {ty:TypeId} {pos:String} {after:Array Edge} {d:Nat}
theorem R.turnA {θ:List Loc} {a:Act} {w w':World} {ns:List Nat} {n:Nat} {l':Loc} {P':Loc→World→Prop} {FF:List Nat} (h:R c θ σ a w) (hFF: ∀ b∈FF,b∈(Qnv ns σ.E).flatMap (fun e=>(e.2.ck (θ++[l']) e.1).F)) (hos:w'.os=w.os) (htape:w'.tape=w.tape) (hout:w'.output=w.output) (hsize:w.heap.size≤w'.heap.size)
  (hsame: ∀ b,b<w.heap.size→b ∉ FF→w'.heap[b]?=w.heap[b]?) (hok: ∀ w2:World,(∀ b∈l'.F,w2.heap[b]?=w'.heap[b]?)→(∀ b∈l'.F,b<w2.heap.size)∧P' l' w2) (hF: ∀ b∈l'.F,b∈FF∨w.heap.size≤b) (hn:l'.F.Nodup) (hd:Nat.blt d σ.n=true):
  R c (θ++[l']) ⟨σ.n,σ.m+1,(d,.sl σ.m n)::σ.ρ,(σ.m,.any P')::Qhd ns σ.E⟩ (a.put (some d) (.slice l'.A n l'.cap)) w':=by
 obtain⟨S,w1,hh⟩:=h.heap
 have hg':(θ++[l'])[σ.m]?=some l':=by rw[←h.len];exact Qfu
 have hfuse:=(hh.ext (θ':=[l'])).fuse ns (p:=(σ.m,En.any P')) (w':=w') hos htape hout hsize (fun b hbl hbn=>hsame b hbl fun hb=>hbn (hFF b hb)) ?_ ?_ ?_ trivial
 ·exact⟨by rw[length_append,h.len];rfl,(h.env.ext (θ':=[l'])).put hd (by simp only[V.con,hg']),S,w1,hfuse⟩
 ·intro w2 hw2
  have hw2' : ∀ b ∈ l'.F, w2.heap[b]? = w'.heap[b]? := fun b hb => hw2 b (by
   show b∈locF _ σ.m
   rw[Qaj hg']
   exact hb)
  exact⟨l',hg',(hok w2 hw2').1,(hok w2 hw2').2⟩
 ·intro b hb
  have hb':b∈l'.F:=by
   have:b∈locF (θ++[l']) σ.m:=hb
   rwa [Qaj hg'] at this
  exact⟨(hF b hb').imp (hFF b) id,(hok w' fun _ _=>rfl).1 b hb'⟩
 ·show(locF _ σ.m).Nodup
  rw[Qaj hg']
  exact hn
theorem Qys: ∀ {E:List (Nat×En)},Qhd [] E=E
 | []=>rfl
 | (r, x) :: E => by
  show(r,x)::Qhd [] E=_
  rw[Qys]
theorem OpS.toBytesM {t u e by':Nat} {x:Operand} {s:ByteArray} (hx:ev σ.ρ x=some (.v (.string s))) (hs:s.size≤maxLen) (ht:c.ti u= .sl e 1 by') (he:c.ti e= .int .u8) (hu:c.ti t= .str) (hd:Nat.blt d σ.n=true):
  OpS c σ all ⟨some d,.convert t u x,ty,pos,after,none⟩ ⟨σ.n,σ.m+1,(d,.sl σ.m (Qa7 s).length)::σ.ρ,(σ.m,.any (BufM e (Qa7 s)))::σ.E⟩:=
 OpS.of fun θ a w h K Q hK => by
  have hts:=(Qbd (c.tsl ht)).1
  have hte:=c.tint he
  have htu:=c.tstr hu
  have h0:=run_bytes_of_string (P:=c.P) w t u e s htu hts hte
  have hlen:(Qa7 s).length=s.size:=by unfold Qa7;rw[Array.length_toList];rfl
  have hrun:(execOp a.eval ⟨some d,.convert t u x,ty,pos,after,none⟩).run c.P w= .ok (.value (.slice (some ⟨w.heap.size,0,none⟩) (Qa7 s).length (grownCap w s.size 0 e))) (w.drew.alloc (.cells (bytesRow s (grownCap w s.size 0 e)) e ((bytesRow s (grownCap w s.size 0 e)).size,(bytesRow s (grownCap w s.size 0 e)).size+1))):=by
   rw[hlen]
   simp only[execOp,h.env.env.eval (h.env.isv hx),h0,Sem.run_bind,Result.andThen_ok,Sem.run_pure]
  have hcap:s.size≤grownCap w s.size 0 e:=grownCap_ge w s.size 0 e
  unfold Oper.wp
  rw[hrun,Oper.upon_value]
  have hB:BufM e (Qa7 s) ⟨some ⟨w.heap.size,0,none⟩,grownCap w s.size 0 e,[w.heap.size]⟩ (w.drew.alloc (.cells (bytesRow s (grownCap w s.size 0 e)) e ((bytesRow s (grownCap w s.size 0 e)).size,(bytesRow s (grownCap w s.size 0 e)).size+1))):=by
   refine⟨w.heap.size,_,_,rfl,rfl,heap_alloc_new w.drew _,.inr (Nat.le_refl _),by rw[hlen];exact hcap,grownCap_le_maxLen w _ _ _ hs,?_,?_⟩
   ·show grownCap w s.size 0 e≤_
    simp[bytesRow]
    have:s.data.size=s.size:=rfl
    omega
   ·apply List.ext_getElem?
    intro j
    rw[getElem?_take]
    by_cases hj:j<(Qa7 s).length
    ·rw[if_pos hj,Array.getElem?_toList,bytesRow_at s _ j (by rw[hlen] at hj;exact hj)]
     unfold u8s
     rw[getElem?_map,getElem?_eq_getElem hj]
     simp[Qa7]
    ·rw[if_neg hj,List.getElem?_eq_none (by rw[Qne];omega)]
  have:=h.turnA (ns:=[]) (n:=(Qa7 s).length) (FF:=[]) (P':=BufM e (Qa7 s)) (d:=d) (l':=⟨some ⟨w.heap.size,0,none⟩,grownCap w s.size 0 e,[w.heap.size]⟩) (w':=w.drew.alloc (.cells (bytesRow s (grownCap w s.size 0 e)) e ((bytesRow s (grownCap w s.size 0 e)).size,(bytesRow s (grownCap w s.size 0 e)).size+1))) (fun b hb=>by cases hb) rfl rfl rfl (by simp) (fun b hb _=>heap_alloc_old w.drew _ hb) (fun w2 hw2=>⟨(hB.same hw2).lt,hB.same hw2⟩) (fun b hb=> .inr (by rw[mem_singleton.1 hb];exact Nat.le_refl _)) (by simp) hd
  rw[Qys] at this
  exact hK _ _ _ this
theorem Yls {t ts e by' r:Nat} {x y:Operand} {z u:Value} {xs ys:List UInt8} {θ:List Loc} {a:Act} {w:World} {Q:Exit→Act→World→Prop} {K:Act→World→Prop} (h:R c θ σ a w) (hx:ev σ.ρ x=some (.sl r xs.length)) (hr:lkE σ.E r=some (.any (BufM e xs))) (hey:a.eval y=u)
    (ht:c.ti t= .sl e 1 by') (hby:by'=1) (hz:c.zr e=some z) (hzs:z.cells.size=1) (hts:c.P.underlying ts=some .string ∨ ∃ q,c.P.underlying ts=some (.slice q)) (hln: ∀ w,(Builtin.lenOf u).run c.P w= .ok ys.length w) (hfirst: ∀ w':World,w'.heap=w.heap→(Builtin.firstCells 1 ys.length u).run c.P w'= .ok (u8s ys).toArray w') (hd:Nat.blt d σ.n=true) (hb:xs.length+ys.length≤140737488355328)
    (hK: ∀ η a' w',R c (θ++η) ⟨σ.n,σ.m+1,(d,.sl σ.m (xs++ys).length)::σ.ρ,(σ.m,.any (BufM e (xs++ys)))::Qhd [r] σ.E⟩ a' w'→K a' w'):
    Oper.wp c.P ⟨some d,.call { callee:= .builtin .append,args:= #[x,y],argTypes:= #[t,ts] },ty,pos,after,none⟩ a w K Q:=by
  subst hby
  obtain⟨S,w1,hh⟩:=h.heap
  obtain⟨l,hlo,hlt,hB⟩:=(hh.sh.ok _ (List.mem_map.2 ⟨_,Qe1 hr,rfl⟩)).here
  have hex:a.eval x= .slice l.A xs.length l.cap:=by
    have:=h.env.con hx
    simp only[V.con,hlo,Option.some.injEq] at this
    exact this.symm
  obtain⟨l',w',hrun,r1,r2,r3,r4,r5,r6,r7,r8⟩:=Ydr (P:=c.P) (ty:=ty) (c.tsl ht) (c.zok e z hz) hzs hB hts hln hfirst hb
  unfold Oper.wp
  have:(execOp a.eval ⟨some d,.call { callee:= .builtin .append,args:= #[x,y],argTypes:= #[t,ts] },ty,pos,after,none⟩).run c.P w= .ok (.value (.slice l'.A (xs++ys).length l'.cap)) w':=by
    simp[execOp,resolve,hex,hey,invoke,builtin,hrun]
  rw[this,Oper.upon_value]
  refine hK [l'] _ _ (h.turnA (ns:=[r]) (FF:=l.F) (fun b hb=>?_) r2 r3 r4 r5 r6 (fun w2 hw2=>⟨(r1.same hw2).lt,r1.same hw2⟩) r7 r8 hd)
  refine List.mem_flatMap.2 ⟨_,Qnu (Qe1 hr) (Qya (mem_singleton.2 rfl)),?_⟩
  show b∈locF _ r
  rw[Qaj (Qem hlo)]
  exact hb
theorem OpS.appM {t ts e by' r len:Nat} {x y:Operand} {z:Value} (xs:List UInt8) (str:ByteArray) (hx:ev σ.ρ x=some (.sl r len)) (hl:len=xs.length) (hr:lkE σ.E r=some (.any (BufM e xs))) (hy:ev σ.ρ y=some (.v (.string str)))
    (ht:c.ti t= .sl e 1 by') (hby:by'=1) (hts:c.ti ts= .str) (hz:c.zr e=some z) (hzs:z.cells.size=1) (hd:Nat.blt d σ.n=true) (hb:xs.length+str.size≤140737488355328):
    OpS c σ all ⟨some d,.call { callee:= .builtin .append,args:= #[x,y],argTypes:= #[t,ts] },ty,pos,after,none⟩ ⟨σ.n,σ.m+1,(d,.sl σ.m (xs++Qa7 str).length)::σ.ρ,(σ.m,.any (BufM e (xs++Qa7 str)))::Qhd [r] σ.E⟩:=
  OpS.of fun θ a w h K Q hK => by
    subst hl
    have hlen:(Qa7 str).length=str.size:=by unfold Qa7;rw[Array.length_toList];rfl
    refine Yls h hx hr (h.env.env.eval (h.env.isv hy)) ht hby hz hzs (.inl (c.tstr hts)) (fun w=>?_) (fun w' _=>?_) hd (by rw[hlen];exact hb) hK
    · rw[hlen];rfl
    · rw [hlen]
      show Result.ok _ _=_
      congr 1
      have e:(str.extract 0 str.size).data=str.data:=by
        rw[ByteArray.data_extract]
        exact Array.extract_size
      rw[e]
      apply Array.toList_inj.1
      rw[Array.toList_map]
      rfl
theorem OpS.appMs {t e by' r q n len:Nat} {x y:Operand} {z:Value} (xs ys:List UInt8) (hx:ev σ.ρ x=some (.sl r len)) (hl:len=xs.length) (hr:lkE σ.E r=some (.any (BufM e xs))) (hy:ev σ.ρ y=some (.sl q n)) (hs:SlOk σ.E UInt8 instDatUInt8 ys (.sl q n))
    (ht:c.ti t= .sl e 1 by') (hby:by'=1) (hz:c.zr e=some z) (hzs:z.cells.size=1) (hd:Nat.blt d σ.n=true) (hb:xs.length+ys.length≤140737488355328):
    OpS c σ all ⟨some d,.call { callee:= .builtin .append,args:= #[x,y],argTypes:= #[t,t] },ty,pos,after,none⟩ ⟨σ.n,σ.m+1,(d,.sl σ.m (xs++ys).length)::σ.ρ,(σ.m,.any (BufM e (xs++ys)))::Qhd [r] σ.E⟩:=
  OpS.of fun θ a w h K Q hK => by
    subst hl
    obtain⟨S,w1,hh⟩:=h.heap
    have hc:=h.env.con hy
    obtain⟨A,cap,hA,h1,h2,h3⟩:=hh.slOk hc hs
    refine Yls h hx hr hA ht hby hz hzs (.inr ⟨_,(Qbd (c.tsl ht)).1⟩) (fun w=>rfl) (fun w' hw'=>?_) hd hb hK
    by_cases hn:ys=[]
    · subst hn
      cases A with
      | none=>rfl
      | some A=>exact run_firstCells_some (P:=c.P) w' 1 0 A 0 cap [] rfl (fun j v hj=>by simp at hj)
    · obtain ⟨ad, rfl, hb, hcs⟩ := h3 hn
      refine run_firstCells_some (P:=c.P) w' 1 ys.length ad ys.length cap (u8s ys) (by rw[Qne,Nat.mul_one]) fun j v hj=>?_
      have hjl:j<ys.length:=by
        have:=(List.getElem?_eq_some_iff.1 hj).1
        rwa [Qne] at this
      obtain⟨cs,hrd,hcell⟩:=hcs j ys[j] (getElem?_eq_getElem hjl)
      obtain⟨v',r',rfl,hv,rfl⟩:=(inferInstance:Str UInt8).op hrd
      have:=hcell 0 v' rfl
      have e1:j*Dat.sz UInt8=j:=Nat.mul_one j
      rw[e1,Addr.add_zero'] at this
      have hj':v= .int .u8 ys[j].toNat:=by
        unfold u8s at hj
        rw[getElem?_map,getElem?_eq_getElem hjl] at hj
        exact(Option.some.inj hj).symm
      have hv':v'= .int .u8 ys[j].toNat:=hv
      rw[hj',←hv']
      unfold World.cell? at this ⊢
      rw[hw']
      exact this
theorem OpS.toStrM {t u e by' r len:Nat} {x:Operand} (xs:List UInt8) (hx:ev σ.ρ x=some (.sl r len)) (hl:len=xs.length) (hr:lkE σ.E r=some (.any (BufM e xs))) (ht:c.ti t= .sl e 1 by') (he:c.ti e= .int .u8) (hu:c.ti u= .str) (hd:Nat.blt d σ.n=true):
  OpS c σ all ⟨some d,.convert t u x,ty,pos,after,none⟩ (put d (.v (.string (bstr xs))) σ):=
 OpS.of fun θ a w h K Q hK => by
  subst hl
  obtain⟨S,w1,hh⟩:=h.heap
  obtain⟨l,hlo,hlt,g,arr,fz,h1,h2,h3,h4,h5,h6,h7,h8⟩:=(hh.sh.ok _ (List.mem_map.2 ⟨_,Qe1 hr,rfl⟩)).here
  have hex:a.eval x= .slice (some ⟨g,0,none⟩) xs.length l.cap:=by
   have:=h.env.con hx
   simp only[V.con,hlo,Option.some.injEq] at this
   rw[h1] at this
   exact this.symm
  have hcells:=BufM.cell h3 h8
  have:=run_convert_bytes_back (P:=c.P) w t u e ⟨g,0,none⟩ l.cap xs (Qbd (c.tsl ht)).1 (c.tint he) (c.tstr hu) (fun j hj=>hcells j _ (by unfold u8s;rw[getElem?_map,getElem?_eq_getElem hj];rfl))
  have hrun:(execOp a.eval ⟨some d,.convert t u x,ty,pos,after,none⟩).run c.P w= .ok (.value (.string (bstr xs))) w:=by
   simp only[execOp,hex,this,Sem.run_bind,Result.andThen_ok,Sem.run_pure]
   rfl
  unfold Oper.wp
  rw[hrun,Oper.upon_value]
  exact hK [] _ _ (h.put hd rfl).app0
end
end
section
section
variable {fn:Func} {Bz:Bs} {S1:Nat→Prop} {w1:World} {hk1:Keep Bz.S0 Bz.w w1} {hs1: ∀ b,Bz.S0 b→S1 b} {hd1: ∀ b,S1 b→b<w1.heap.size} {σ:St} {all:Array Oper} {ty:TypeId} {pos:String} {after:Array Edge} {d:Nat}
theorem tbM {t u e by':Nat} {x:Operand} {s:ByteArray} (hx:ev σ.ρ x=some (.v (.string s)):=by exact Dq0) (ht:ti u= .sl e 1 by':=by rfl) (he:ti e= .int .u8:=by rfl) (hu:ti t= .str:=by rfl) (hd:Nat.blt d σ.n=true:=by rfl) (hs:s.size≤maxLen):
  OpS (cx fn Bz S1 w1 hk1 hs1 hd1) σ all ⟨some d,.convert t u x,ty,pos,after,none⟩ ⟨σ.n,σ.m+1,(d,.sl σ.m (Qa7 s).length)::σ.ρ,(σ.m,.any (BufM e (Qa7 s)))::σ.E⟩:=OpS.toBytesM hx hs ht he hu hd
theorem aM {t ts e by' r len:Nat} {x y:Operand} {z:Value} (xs:List UInt8) (str:ByteArray) (hb:xs.length+str.size≤140737488355328) (hx:ev σ.ρ x=some (.sl r len):=by exact Dq0) (hr:lkE σ.E r=some (.any (BufM e xs)):=by exact Dq0) (hy:ev σ.ρ y=some (.v (.string str)):=by exact Dq0) (hl:len=xs.length:=by rfl) (ht:ti t= .sl e 1 by':=by rfl) (hby:by'=1:=by rfl) (hts:ti ts= .str:=by rfl) (hz:zr e=some z:=by rfl) (hzs:z.cells.size=1:=by rfl) (hd:Nat.blt d σ.n=true:=by rfl):
    OpS (cx fn Bz S1 w1 hk1 hs1 hd1) σ all ⟨some d,.call { callee:= .builtin .append,args:= #[x,y],argTypes:= #[t,ts] },ty,pos,after,none⟩ ⟨σ.n,σ.m+1,(d,.sl σ.m (xs++Qa7 str).length)::σ.ρ,(σ.m,.any (BufM e (xs++Qa7 str)))::Qhd [r] σ.E⟩:=OpS.appM xs str hx hl hr hy ht hby hts hz hzs hd hb
theorem aMs {t e by' r q n len:Nat} {x y:Operand} {z:Value} (xs ys:List UInt8) (hb:xs.length+ys.length≤140737488355328) (hx:ev σ.ρ x=some (.sl r len):=by exact Dq0) (hr:lkE σ.E r=some (.any (BufM e xs)):=by exact Dq0) (hy:ev σ.ρ y=some (.sl q n):=by exact Dq0) (hs:SlOk σ.E UInt8 instDatUInt8 ys (.sl q n):=by dsimp only[SlOk,payE,En.pay,lkE,cond,Nat.beq];first | exact⟨rfl,rfl⟩ | exact⟨by exact om,rfl⟩) (hl:len=xs.length:=by rfl) (ht:ti t= .sl e 1 by':=by rfl) (hby:by'=1:=by rfl) (hz:zr e=some z:=by rfl) (hzs:z.cells.size=1:=by rfl) (hd:Nat.blt d σ.n=true:=by rfl):
    OpS (cx fn Bz S1 w1 hk1 hs1 hd1) σ all ⟨some d,.call { callee:= .builtin .append,args:= #[x,y],argTypes:= #[t,t] },ty,pos,after,none⟩ ⟨σ.n,σ.m+1,(d,.sl σ.m (xs++ys).length)::σ.ρ,(σ.m,.any (BufM e (xs++ys)))::Qhd [r] σ.E⟩:=OpS.appMs xs ys hx hl hr hy hs ht hby hz hzs hd hb
theorem tsM {t u e by' r len:Nat} {x:Operand} (xs:List UInt8) (hx:ev σ.ρ x=some (.sl r len):=by exact Dq0) (hr:lkE σ.E r=some (.any (BufM e xs)):=by exact Dq0) (hl:len=xs.length:=by rfl) (ht:ti t= .sl e 1 by':=by rfl) (he:ti e= .int .u8:=by rfl) (hu:ti u= .str:=by rfl) (hd:Nat.blt d σ.n=true:=by rfl):
  OpS (cx fn Bz S1 w1 hk1 hs1 hd1) σ all ⟨some d,.convert t u x,ty,pos,after,none⟩ (put d (.v (.string (bstr xs))) σ):=OpS.toStrM xs hx hl hr ht he hu hd
end
end
section
theorem Yba (x:Int): -9972≤Int.tmod x 9973∧Int.tmod x 9973≤9972:=by
 have h1:=Int.tmod_lt_of_pos x (show(0:Int)<9973 by decide)
 have h2:=Int.lt_tmod_of_pos x (show(0:Int)<9973 by decide)
 omega
theorem Qtc (p0:ByteArray): ∀ n (v:Int) i,-9972≤v→v≤9972→ -9972≤Qdk p0 n v i∧Qdk p0 n v i≤9972:=by
 intro n
 induction n with
 | zero=>intro v i h1 h2;exact⟨h1,h2⟩
 | succ n ih=>intro v i h1 h2;rw[Qdk];exact ih _ _ (Yba _).1 (Yba _).2
theorem Qmn (p0:ByteArray): -9972≤Qhc p0∧Qhc p0≤9972:=Qtc p0 _ 7 0 (by decide) (by decide)
theorem Qsj (p0:ByteArray): ∀ n (v:Int) i,Qfe p0 n v i=Qdk p0 n v i:=by
 intro n
 induction n with
 | zero=>intro v i;rfl
 | succ n ih=>intro v i;rw[Qfe,Qdk,ih]
theorem Qpr (p0:ByteArray):Qc0 p0=Qhc p0:=Qsj p0 _ _ _
theorem Qj0 (p0:ByteArray): -9972≤Qc0 p0∧Qc0 p0≤9972:=by
 rw[Qpr]
 exact Qmn p0
end
section
theorem Yfe:FnOk Tryz.prog 238:=⟨_,Tryz.func238,rfl,by kernel_rfl⟩
theorem Ycb:FnOk Tryz.prog 239:=⟨_,Tryz.func239,rfl,by kernel_rfl⟩
theorem Yfd:FnOk Tryz.prog 245:=⟨_,Tryz.func245,rfl,by kernel_rfl⟩
theorem Yiz:FnOk Tryz.prog 246:=⟨_,Tryz.func246,rfl,by kernel_rfl⟩
theorem Yfc:FnOk Tryz.prog 247:=⟨_,Tryz.func247,rfl,by kernel_rfl⟩
theorem Yfb:FnOk Tryz.prog 248:=⟨_,Tryz.func248,rfl,by kernel_rfl⟩
theorem Yiy:FnOk Tryz.prog 249:=⟨_,Tryz.func249,rfl,by kernel_rfl⟩
def Qdb (p0:Int) (p1:List Cell):Nat→(List UInt8)→Nat→ByteArray
 | 0,w2,i=>bif decide ((((((bstr w2)++⟨#[32,35]⟩)++(Qco (Qhc (bstr w2))))++⟨#[10]⟩).size:Int)>4000) then⟨#[]⟩ else((((bstr w2)++⟨#[32,35]⟩)++(Qco (Qhc (bstr w2))))++⟨#[10]⟩)
 | n+1,w2,i=>bif ((!(Qjs ((nth p1 i).Key)))||(decide ((((nth p1 i).Val).size:Int)>60)))||(decide ((w2.length:Int)>4000)) then⟨#[]⟩ else(Qdb p0 p1 n (w2++Qa7 (((⟨#[32]⟩++(Qgu ((nth p1 i).Key)))++⟨#[61]⟩)++(Qgu ((nth p1 i).Val)))) (i+1))
def Qhn (p0:Int) (p1:List Cell):ByteArray:=bif !(Qcd p0 1 100000) then⟨#[]⟩ else(Qdb p0 p1 (p1.length - 0) (Qa7 (Qco p0)) 0)
theorem Qut (p0:Int) (p1:List Cell):CTs 220 [.o (.c (.int .i64 p0)),.o (.sl Cell instDatCell p1)] [Re.c (.string (Qhn p0 p1))]:=by
 refine en Tryz.func220 Tryz.ntmps220 fun w hG hgd=>?_
 obtain⟨hg_p1,_⟩:=hgd
 have hl_p1:p1.length≤9223372036854775807:=hg_p1.1
 have hM:=Qhn.eq_1 p0 p1
 refine ad 8 ?_
 refine op (cl (Qha p0 1 100000) Qwe) ?_
 refine ad 2 ?_
 refine cd (fun h1=>?_) (fun h1=>?_)
 ·
  have hM:=hM.trans (bt h1)
  refine ad 4 ?_
  exact rz (rs:=[.tmp 4]) (rzS hM)
 ·
  have hM:=hM.trans (bf h1)
  have th1:=Qhy (by simpa using h1)
  refine ad 8 ?_
  have hs2:=Qkr (p0:=p0) lv3
  refine op (cl (Qnh p0 lv3) Yce) ?_
  refine og (cm [1] [1] [0] [] [1] (Yms (Qco p0) (by first | omega | exact om | (simp only[ByteArray.size_append,bts,size_toArray,length_cons,length_nil];omega))) Yfd) fun _=>?_
  refine ad 9 ?_
  refine Run.loopM (ι:=(List UInt8)×Nat) (fun s=>Qdb p0 p1 (p1.length - s.2) s.1 s.2) (fun s=>⟨57,3,[(5,.pt 0 0),(15,.sl 2 p1.length),(16,.v (.int .i64 (p1.length:Int))),(17,.v (.int .i64 (s.2:Int)))],[(0,.var [.pt 0 0,.sl 1 s.1.length] 240),(1,.any (BufP s.1)),(2,.ros Cell instDatCell p1)]⟩) (fun s=>s.2≤p1.length∧s.1.length≤100000) (fun s=>p1.length - s.2) ((Qa7 (Qco p0)),0) [1,2,0] [0,1,2] hM (by exact⟨by(try dsimp only);omega,by(try dsimp only);(try simp only[Qbt]);omega⟩) su (by decide) ?_
  rintro ⟨w2,i⟩ hv hE
  try dsimp only at hE
  obtain⟨hi,hv0⟩:=hv
  try dsimp only at hi hv0
  refine ad 5 ?_
  refine cd (fun h3=>?_) (fun h3=>?_)
  ·
   have h3l:i<p1.length:=dtl h3
   have hM:=hE.trans ((congrArg (fun n=>Qdb p0 p1 n w2 i) (sb1 h3l)).trans (Qdb.eq_2 _ _ _ _ _))
   refine ad 5 ?_
   have hg5:=Qai (k:=i) hg_p1 om
   refine op (ix (xs:=p1) i om) ?_
   refine ad 9 ?_
   refine op (cl (Qqd ((nth p1 i).Key) hg5.1) Ycf) ?_
   refine ad 2 ?_
   refine ag 5 ?_
   refine ad 1 ?_
   refine Run.midO ⟨57,4,[(5,.pt 0 0),(7,.pt 2 0),(15,.sl 3 p1.length),(16,.v (.int .i64 (p1.length:Int))),(17,.v (.int .i64 (i:Int))),(34,.v (.bool (((!(Qjs ((nth p1 i).Key)))||(decide ((((nth p1 i).Val).size:Int)>60)))||(decide ((w2.length:Int)>4000)))))],[(0,.var [.pt 0 0,.sl 1 w2.length] 240),(1,.any (BufP w2)),(2,.var [.v (.string ((nth p1 i).Key)),.v (.string ((nth p1 i).Val))] 114),(3,.ros Cell instDatCell p1)]⟩ ?_ ?_
   ·refine bc 31 (fun h6=>?_) (fun h6=>?_)
    ·
     refine ad 4 ?_
     exact Run.at [0,1,4,2] [2,3,0,4] (by first | exact su | (rw[h6];exact su)) (by decide)
    ·
     refine ad 1 ?_
     refine og (cm [0,1] [0,1] [2,3] [] [0,1,4] (Ymt (P:=BufP) w2) Yiz) fun _=>?_
     refine ad 4 ?_
     exact Run.at [0,1,4,2] [0,1,2,4] (by first | exact su | (rw[h6];exact su)) (by decide)
   refine cd (fun h7=>?_) (fun h7=>?_)
   ·
    have hM:=hM.trans (bt h7)
    refine ad 4 ?_
    exact rz (rs:=[.tmp 4]) (rzS hM)
   ·
    have hM:=hM.trans (bf h7)
    have hlv: ¬ ((w2.length:Int)>4000):=of_decide_eq_false (Bool.or_eq_false_iff.1 h7).2
    refine ad 1 ?_
    refine ds 10 [2,3] fun _ _ _ _ _ hb=>?_
    refine tk [0,1,5,6] ?_
    have hs8:=(show(Qgu ((nth p1 i).Key)).size≤40000 from Qyl ((nth p1 i).Key))
    refine on 2 [2,3] (cl (Qwj ((nth p1 i).Key) hg5.1) Yfc) ?_
    refine tx 3 (tca (hs:=szt)) ?_
    refine tx 4 (tca (hs:=szt)) ?_
    have hs9:=(show(Qgu ((nth p1 i).Val)).size≤40000 from Qyl ((nth p1 i).Val))
    refine on 7 [2,3] (cl (Qwj ((nth p1 i).Val) hg5.2) Yfc) ?_
    refine tx 8 (tca (hs:=szt)) ?_
    refine ong 9 [2,3] (cm [0,1] [0] [0,1] [] [2,3] (k_ws w2 (((⟨#[32]⟩++(Qgu ((nth p1 i).Key)))++⟨#[61]⟩)++(Qgu ((nth p1 i).Val))) (by first | omega | exact om | (simp only[ByteArray.size_append,bts,size_toArray,length_cons,length_nil];omega))) Yfd) fun _=>?_
    refine dn hb ?_
    refine ad 3 ?_
    rw[Qb3 (i:=i) om]
    refine ad 2 ?_
    exact Run.again ((w2++Qa7 (((⟨#[32]⟩++(Qgu ((nth p1 i).Key)))++⟨#[61]⟩)++(Qgu ((nth p1 i).Val)))),(i+1)) [0,4,3] [0,1,3] ⟨by exact⟨by(try dsimp only);omega,by(try dsimp only);(try simp only[length_append,Qbt,ByteArray.size_append,bts,size_toArray,length_cons,length_nil]);omega⟩,hM⟩ rfl lv1 su (by decide)
  ·
   have h3l: ¬ (i<p1.length):=dfl h3
   have hM:=hE.trans ((congrArg (fun n=>Qdb p0 p1 n w2 i) (sb0 h3l)).trans (Qdb.eq_1 _ _ _ _))
   have hsb:(bstr w2).size=w2.length:=by show w2.toArray.size=_;exact List.size_toArray
   refine ad 3 ?_
   refine og (cm [0,1] [0,1] [0,1] [] [2] (Yh6 (P:=BufP) w2 (fun _ _ h=>h.z)) Yfb) fun _=>?_
   refine op (ca (hs:=szt)) ?_
   refine og (cm [0,1] [0,1] [0,1] [] [2] (Yh6 (P:=BufZ) w2 (fun _ _ h=>h)) Yfb) fun _=>?_
   have hs10:=Qmn (bstr w2)
   refine op (cl (Q0x (bstr w2) szt) Yiy) ?_
   have hs11:=Qkr (p0:=(Qhc (bstr w2))) lv3
   refine op (cl (Qnh (Qhc (bstr w2)) lv3) Yce) ?_
   refine op (ca (hs:=szt)) ?_
   refine op (ca (hs:=szt)) ?_
   refine ad 9 ?_
   refine cd (fun h12=>?_) (fun h12=>?_)
   ·
    have hM:=hM.trans (bt h12)
    refine ad 4 ?_
    exact rz (rs:=[.tmp 4]) (rzS hM)
   ·
    have hM:=hM.trans (bf h12)
    refine ad 6 ?_
    exact rz (rs:=[.tmp 4]) (rzS hM)
def Qbr (p0:Int) (p1:List Cell):Nat→(List UInt8)→Nat→ByteArray
 | 0,v5,i=>bif decide ((((((bstr v5)++⟨#[32,35]⟩)++(Qb5 (Qc0 (bstr v5))))++⟨#[10]⟩).size:Int)>4000) then⟨#[]⟩ else((((bstr v5)++⟨#[32,35]⟩)++(Qb5 (Qc0 (bstr v5))))++⟨#[10]⟩)
 | n+1,v5,i=>bif ((!(Qip ((nth p1 i).Key)))||(decide ((((nth p1 i).Val).size:Int)>60)))||(decide ((v5.length:Int)>4000)) then⟨#[]⟩ else(Qbr p0 p1 n ((((v5++([(32:UInt8)]:List UInt8))++Qa7 ((Qep ((nth p1 i).Key)).1))++([(61:UInt8)]:List UInt8))++Qa7 ((Qep ((nth p1 i).Val)).1)) (i+1))
def Qcb (p0:Int) (p1:List Cell):ByteArray:=bif !(Qcm p0 1 100000) then⟨#[]⟩ else(Qbr p0 p1 (p1.length - 0) (Qa7 (Qb5 p0)) 0)
theorem Qup (p0:Int) (p1:List Cell):CTs 211 [.o (.c (.int .i64 p0)),.o (.sl Cell instDatCell p1)] [Re.c (.string (Qcb p0 p1))]:=by
 refine en Tryz.func211 Tryz.ntmps211 fun w hG hgd=>?_
 obtain⟨hg_p1,_⟩:=hgd
 have hl_p1:p1.length≤9223372036854775807:=hg_p1.1
 have hM:=Qcb.eq_1 p0 p1
 refine ad 8 ?_
 refine op (cl (Qhr p0 1 100000) Qwf) ?_
 refine ad 2 ?_
 refine cd (fun h1=>?_) (fun h1=>?_)
 ·
  have hM:=hM.trans (bt h1)
  refine ad 4 ?_
  exact rz (rs:=[.tmp 4]) (rzS hM)
 ·
  have hM:=hM.trans (bf h1)
  have th1:=Qg5 (by simpa using h1)
  refine ad 4 ?_
  have hs2:=Qgt (p0:=p0) lv3
  refine op (cl (Qh6 p0 lv3) Q2n) ?_
  refine op (tbM (hs:=by first | exact szt | (unfold maxLen;omega))) ?_
  refine ad 8 ?_
  refine Run.loopM (ι:=(List UInt8)×Nat) (fun s=>Qbr p0 p1 (p1.length - s.2) s.1 s.2) (fun s=>⟨85,2,[(1,.sl 0 p1.length),(5,.sl 1 s.1.length),(6,.v (.int .i64 (s.2:Int)))],[(0,.ros Cell instDatCell p1),(1,.any (BufM 5 s.1))]⟩) (fun s=>s.2≤p1.length∧s.1.length≤100000) (fun s=>p1.length - s.2) ((Qa7 (Qb5 p0)),0) [0,1] [1,0] hM (by exact⟨by(try dsimp only);omega,by(try dsimp only);(try simp only[Qbt]);omega⟩) su (by decide) ?_
  rintro ⟨v5,i⟩ hv hE
  try dsimp only at hE
  obtain⟨hi,hv0⟩:=hv
  try dsimp only at hi hv0
  refine ad 8 ?_
  refine cd (fun h3=>?_) (fun h3=>?_)
  ·
   have h3l:i<p1.length:=dtl h3
   have hM:=hE.trans ((congrArg (fun n=>Qbr p0 p1 n v5 i) (sb1 h3l)).trans (Qbr.eq_2 _ _ _ _ _))
   refine ad 8 ?_
   have hg5:=Qai (k:=i) hg_p1 om
   refine op (ix (xs:=p1) i om) ?_
   refine ad 2 ?_
   refine op (cl (Qp9 ((nth p1 i).Key) hg5.1) Ycc) ?_
   refine ad 2 ?_
   refine ag 2 ?_
   refine op (iG (xs:=p1) i om) ?_
   refine ag 5 ?_
   refine ad 1 ?_
   refine ag 4 ?_
   refine ad 1 ?_
   refine cd (fun h6=>?_) (fun h6=>?_)
   ·
    have hM:=hM.trans (bt h6)
    refine ad 4 ?_
    exact rz (rs:=[.tmp 4]) (rzS hM)
   ·
    have hM:=hM.trans (bf h6)
    have hlv: ¬ ((v5.length:Int)>4000):=of_decide_eq_false (Bool.or_eq_false_iff.1 h6).2
    refine ad 5 ?_
    have hg8:=Qai (k:=i) hg_p1 om
    refine op (ix (xs:=p1) i om) ?_
    refine ad 2 ?_
    have hs9:=Qx1 ((nth p1 i).Key)
    refine op (cl (Q2p ((nth p1 i).Key) hg8.1) Yfe) ?_
    refine ad 10 ?_
    have hg11:=Qai (k:=i) hg_p1 om
    refine op (ix (xs:=p1) i om) ?_
    refine ad 2 ?_
    have hs12:=Qx1 ((nth p1 i).Val)
    refine op (cl (Q2p ((nth p1 i).Val) hg11.2) Yfe) ?_
    refine ad 9 ?_
    refine li 6 (d:=instDatUInt8) ([(32:UInt8)]:List UInt8) ?_
    refine op (aMs v5 ([(32:UInt8)]:List UInt8) (hb:=by(try simp only[List.length_append,List.length_cons,List.length_nil,Qbt]);first | omega | exact om)) ?_
    refine ad 1 ?_
    refine op (aM (v5++([(32:UInt8)]:List UInt8)) ((Qep ((nth p1 i).Key)).1) (hb:=by(try simp only[List.length_append,List.length_cons,List.length_nil,Qbt]);first | omega | exact om)) ?_
    refine ad 1 ?_
    refine li 9 (d:=instDatUInt8) ([(61:UInt8)]:List UInt8) ?_
    refine op (aMs ((v5++([(32:UInt8)]:List UInt8))++Qa7 ((Qep ((nth p1 i).Key)).1)) ([(61:UInt8)]:List UInt8) (hb:=by(try simp only[List.length_append,List.length_cons,List.length_nil,Qbt]);first | omega | exact om)) ?_
    refine ad 1 ?_
    refine op (aM (((v5++([(32:UInt8)]:List UInt8))++Qa7 ((Qep ((nth p1 i).Key)).1))++([(61:UInt8)]:List UInt8)) ((Qep ((nth p1 i).Val)).1) (hb:=by(try simp only[List.length_append,List.length_cons,List.length_nil,Qbt]);first | omega | exact om)) ?_
    refine ad 6 ?_
    rw[Qb3 (i:=i) om]
    refine ad 2 ?_
    exact Run.again (((((v5++([(32:UInt8)]:List UInt8))++Qa7 ((Qep ((nth p1 i).Key)).1))++([(61:UInt8)]:List UInt8))++Qa7 ((Qep ((nth p1 i).Val)).1)),(i+1)) [0,11] [7,0] ⟨by exact⟨by(try dsimp only);omega,by(try dsimp only);(try simp only[length_append,Qbt,ByteArray.size_append,bts,size_toArray,length_cons,length_nil]);omega⟩,hM⟩ rfl lv1 su (by decide)
  ·
   have h3l: ¬ (i<p1.length):=dfl h3
   have hM:=hE.trans ((congrArg (fun n=>Qbr p0 p1 n v5 i) (sb0 h3l)).trans (Qbr.eq_1 _ _ _ _))
   have hsb:(bstr v5).size=v5.length:=by show v5.toArray.size=_;exact List.size_toArray
   refine ad 2 ?_
   refine Run.mid ⟨85,0,[(11,.v (.string ((((bstr v5)++⟨#[32,35]⟩)++(Qb5 (Qc0 (bstr v5))))++⟨#[10]⟩)))],[]⟩ ?_ ?_
   ·
    refine dr 10 fun _ _ _ _ _ hb=>?_
    refine tk [0,3] ?_
    refine o2 1 4 ?_ ?_
    ·
     refine on1 1 [0,1] (tsM v5) ?_
     refine tx 2 (tca (hs:=szt)) ?_
     refine on 4 [0,1] (tsM v5) ?_
     have hs13:=Qj0 (bstr v5)
     refine on 5 [0,1] (cl (Qno (bstr v5) szt) Ycb) ?_
     have hs14:=Qgt (p0:=(Qc0 (bstr v5))) lv3
     refine on 6 [0,1] (cl (Qh6 (Qc0 (bstr v5)) lv3) Q2n) ?_
     refine tx 7 (tca (hs:=szt)) ?_
     refine tx 8 (tca (hs:=szt)) ?_
     refine tk [9] ?_
     refine dn hb ?_
     exact Run.at [] [] su (by decide)
    ·
     refine on1 4 [0,1] (tsM v5) ?_
     refine o2 1 5 ?_ ?_
     ·
      refine on1 1 [0,1] (tsM v5) ?_
      refine tx 2 (tca (hs:=szt)) ?_
      have hs15:=Qj0 (bstr v5)
      refine on 5 [0,1] (cl (Qno (bstr v5) szt) Ycb) ?_
      have hs16:=Qgt (p0:=(Qc0 (bstr v5))) lv3
      refine on 6 [0,1] (cl (Qh6 (Qc0 (bstr v5)) lv3) Q2n) ?_
      refine tx 7 (tca (hs:=szt)) ?_
      refine tx 8 (tca (hs:=szt)) ?_
      refine tk [9] ?_
      refine dn hb ?_
      exact Run.at [] [] su (by decide)
     ·
      have hs17:=Qj0 (bstr v5)
      refine on1 5 [0,1] (cl (Qno (bstr v5) szt) Ycb) ?_
      refine o2 1 6 ?_ ?_
      ·
       refine on1 1 [0,1] (tsM v5) ?_
       refine tx 2 (tca (hs:=szt)) ?_
       have hs18:=Qgt (p0:=(Qc0 (bstr v5))) lv3
       refine on 6 [0,1] (cl (Qh6 (Qc0 (bstr v5)) lv3) Q2n) ?_
       refine tx 7 (tca (hs:=szt)) ?_
       refine tx 8 (tca (hs:=szt)) ?_
       refine tk [9] ?_
       refine dn hb ?_
       exact Run.at [] [] su (by decide)
      ·
       have hs19:=Qgt (p0:=(Qc0 (bstr v5))) lv3
       refine on1 6 [0,1] (cl (Qh6 (Qc0 (bstr v5)) lv3) Q2n) ?_
       refine on 1 [0,1] (tsM v5) ?_
       refine tx 2 (tca (hs:=szt)) ?_
       refine tx 7 (tca (hs:=szt)) ?_
       refine tx 8 (tca (hs:=szt)) ?_
       refine tk [9] ?_
       refine dn hb ?_
       exact Run.at [] [] su (by decide)
   refine ad 7 ?_
   refine cd (fun h20=>?_) (fun h20=>?_)
   ·
    have hM:=hM.trans (bt h20)
    refine ad 4 ?_
    exact rz (rs:=[.tmp 4]) (rzS hM)
   ·
    have hM:=hM.trans (bf h20)
    refine ad 6 ?_
    exact rz (rs:=[.tmp 4]) (rzS hM)
end
section
theorem Qpl (sep:ByteArray): ∀ (k:Nat) (s:ByteArray),∀ x∈Lib.splitB sep 0 k s,x.size≤s.size
 | 0, s => fun x hx => by
  obtain rfl:=mem_singleton.1 hx
  exact Nat.le_refl _
 | k + 1, s => fun x hx => by
  rcases Lib.indexB_cases s sep with h | ⟨i,h,_⟩
  ·rw[Lib.splitB_miss sep 0 (k+1) s h] at hx
   obtain rfl:=mem_singleton.1 hx
   exact Nat.le_refl _
  ·rw[Lib.splitB_hit sep 0 k s i h] at hx
   rcases List.mem_cons.1 hx with rfl | hx
   ·rw[ByteArray.size_extract]
    omega
   ·have:=Qpl sep k _ x hx
    rw[ByteArray.size_extract] at this
    omega
def Qb2 (c:UInt8) (s:ByteArray):List ByteArray:=Lib.splitB ⟨#[c]⟩ 0 (Lib.countB s ⟨#[c]⟩) s
theorem Qlx (c:UInt8) (s:ByteArray):(Qb2 c s).length=Lib.countB s ⟨#[c]⟩+1:=Lib.splitB_all ⟨#[c]⟩ (Nat.le_refl _) 0 _ s rfl
theorem Qsf (c:UInt8) (s:ByteArray):(Qb2 c s).length≤s.size+1:=by
 have:=Lib.countB_le ⟨#[c]⟩ (Nat.le_refl _) s.size s (Nat.le_refl _)
 rw[Qlx]
 omega
theorem Qro (c:UInt8) (s:ByteArray) (k:Nat):(nth (Qb2 c s) k).size≤s.size:=by
 unfold nth
 rw[List.getD_eq_getElem?_getD]
 rcases Nat.lt_or_ge k (Qb2 c s).length with h | h
 ·rw[getElem?_eq_getElem h]
  exact Qpl _ _ s _ (List.getElem_mem h)
 ·rw[List.getElem?_eq_none h]
  exact Nat.zero_le _
theorem Yaf (c : UInt8) (s : ByteArray) (hs : s.size ≤ 1048576) : CTs 242 [.o (.c (.string s)), .o (.c (.string ⟨#[c]⟩)), .o (.c (.int .i64 0)), .o (.c (.int .i64 (-1)))] [.sl ByteArray instDatByteArray (Qb2 c s)] := fun w vs hG hA => by
  obtain rfl:=Qxg (us:=[.string s,.string ⟨#[c]⟩,.int .i64 0,.int .i64 (-1)]) hA
  have hc:=Lib.countB_le ⟨#[c]⟩ (Nat.le_refl _) s.size s (Nat.le_refl _)
  have cc:=Go.Proofs.Any.strings_genSplit_core Tryz.lays221 (by kernel_rfl) s ⟨#[c]⟩ 0 (-1) (Lib.countB s ⟨#[c]⟩+1) w (by omega) (Nat.le_refl _) (Nat.zero_le _)
    (fun x cs hx => by
      refine(Go.Proofs.Any.strings_Index_one { Tryz.lays221 with } x c _).mono fun e w' h=>⟨?_,h.2⟩
      rw[h.1]
      show _=Ending.returned (Value.int .i64 (Lib.index x.data.toList [c]))
      rw[Lib.index_one])
    (by
      refine(Go.Proofs.Any.strings_Count_one { Tryz.lays221 with } s c w).mono fun e w' h=>⟨?_,h.2⟩
      rw[h.1]
      show _=Ending.returned (Value.int .i64 ((Lib.count s.data.toList [c]:Nat):Int))
      rw[Lib.count_one]
      rfl)
    (by decide) (by decide) (by rw[if_pos (by decide)];omega)
  rw[Nat.add_sub_cancel] at cc
  have hlen:=Qlx c s
  have e2:Lib.cellsOf (Qb2 c s) (Lib.countB s ⟨#[c]⟩+1)=((Qb2 c s).map Value.string).toArray:=by rw[←hlen];exact Lib.cellsOf_full _
  refine cc.mono fun e w2 hr=>?_
  obtain⟨rfl,rfl⟩:=hr
  have hl:=Qsf c s
  have hk:Below w.heap.size w (w.alloc (.cells ((Qb2 c s).map Value.string).toArray 9)):=(Below.refl _ w).alloc (Nat.le_refl _) _
  have hrow:(w.alloc (.cells ((Qb2 c s).map Value.string).toArray 9)).ownsRow w.heap.size 9 1 (.slice (some ⟨w.heap.size,0,none⟩) (Qb2 c s).length (Qb2 c s).length) (Qb2 c s).length ((Qb2 c s).map Value.string):=by
    refine⟨by rw[length_map,Nat.mul_one],.inr ⟨w.heap.size,(Qb2 c s).length,_,rfl,Nat.le_refl _,Array.getElem?_push_size,Nat.le_refl _,by unfold maxLen;omega,?_,?_⟩⟩
    · rw[size_toArray,length_map,Nat.mul_one]
    · rw[Nat.mul_one,List.take_of_length_le (by simp)]
  obtain⟨F,h1,h2,h3⟩:=Ybf (α:=ByteArray) (mk:=Value.string) rfl (fun x hx=>⟨⟨rfl,by have:=Qpl _ _ s x hx;show x.size≤maxLen;unfold maxLen;omega⟩,rfl⟩) hrow rfl
  show ∃ _,_
  rw[show Lib.splitB ⟨#[c]⟩ 0 (Lib.countB s ⟨#[c]⟩) s=Qb2 c s from rfl,e2,←hlen]
  refine⟨_,rfl,Keep.of_below hk fun _ h=>h,[_],F++[],rfl,⟨F,[],rfl,h1,rfl⟩,by rw[append_nil];exact h2,fun b hb=>?_⟩
  rw[append_nil] at hb
  have:=h3 b hb
  show ¬ b<w.heap.size
  omega
def genS (s sep:ByteArray) (a n:Int):List ByteArray:=Qb2 (Qav sep 0) s
theorem Yh8 (s sep:ByteArray) (a n:Int) (h1: ∃ c,sep=⟨#[c]⟩) (h2:a=0) (h3:n= -1) (hs:s.size≤1048576):CTs 242 [.o (.c (.string s)),.o (.c (.string sep)),.o (.c (.int .i64 a)),.o (.c (.int .i64 n))] [.sl ByteArray instDatByteArray (genS s sep a n)]:=by
 obtain⟨c,rfl⟩:=h1
 subst h2 h3
 exact Yaf c s hs
def idx1 (s sep:ByteArray):Int:=Lib.indexByte s.data.toList (Qav sep 0)
theorem Yh7 (s sep : ByteArray) (h1 : ∃ c, sep = ⟨#[c]⟩) : CTs 270 [.o (.c (.string s)), .o (.c (.string sep))] [.c (.int .i64 (idx1 s sep))] := fun w vs hG hA => by
 obtain⟨c,rfl⟩:=h1
 obtain rfl:=Qxg (us:=[.string s,.string ⟨#[c]⟩]) hA
 refine(Tryz.stringslite_Index_one s c w).mono fun e w2 h=>?_
 obtain⟨rfl,rfl⟩:=h
 refine⟨_,rfl,Keep.refl _ _,[_],[],rfl,⟨[],[],rfl,⟨rfl,rfl⟩,rfl⟩,List.nodup_nil,fun b hb=>by cases hb⟩
theorem Q50 (l:List UInt8) (c:UInt8): -1≤Lib.indexByte l c∧Lib.indexByte l c<(l.length:Int):=by
 induction l with
 | nil=>exact⟨Int.le_refl _,by show(-1:Int)<0;decide⟩
 | cons b l ih =>
  rw[Lib.indexByte,length_cons]
  by_cases hb:(b==c)=true
  ·rw[if_pos hb];omega
  ·rw[if_neg hb]
   split<;>simp_all<;>omega
theorem Yb1 (s sep:ByteArray): -1≤idx1 s sep∧idx1 s sep<(s.size:Int):=by
 have h:=Q50 s.data.toList (Qav sep 0)
 have e:s.data.toList.length=s.size:=Array.length_toList
 rw[e] at h
 exact h
end
section
theorem Yi2:FnOk Tryz.prog 242:=⟨_,Tryz.func242,rfl,by kernel_rfl⟩
theorem Yi0:FnOk Tryz.prog 244:=⟨_,Tryz.func244,rfl,by kernel_rfl⟩
theorem Yis:FnOk Tryz.prog 270:=⟨_,Tryz.func270,rfl,by kernel_rfl⟩
def Qbz (p0:ByteArray) (p1:ByteArray):ByteArray×ByteArray×Bool:=bif decide ((idx1 p0 p1)≥0) then(cutS p0 0 ((idx1 p0 p1).toNat),cutS p0 ((i64.wrap ((idx1 p0 p1)+(p1.size:Int))).toNat) p0.size,true) else(p0,⟨#[]⟩,false)
theorem Qmz (p0:ByteArray) (p1:ByteArray) (hn: ∃ c,p1=⟨#[c]⟩) (hq:p0.size≤1048576):CTs 244 [.o (.c (.string p0)),.o (.c (.string p1))] [Re.c (.string ((Qbz p0 p1).1)),Re.c (.string ((Qbz p0 p1).2.1)),Re.c (.bool ((Qbz p0 p1).2.2))]:=by
 refine en Tryz.func244 Tryz.ntmps244 fun w hG hgd=>?_
 have hM:=Qbz.eq_1 p0 p1
 have hp1:p1.size=1:=by obtain⟨c,rfl⟩:=hn;rfl
 refine ad 11 ?_
 have hs1:=Yb1 p0 p1
 refine op (cl (Yh7 p0 p1 (by assumption)) Yis) ?_
 refine ad 7 ?_
 refine cd (fun h2=>?_) (fun h2=>?_)
 ·
  have hM:=hM.trans (bt h2)
  refine ad 1 ?_
  refine Run.mid ⟨23,0,[(4,.v (.string (cutS p0 0 ((idx1 p0 p1).toNat)))),(5,.v (.string (cutS p0 ((i64.wrap ((idx1 p0 p1)+(p1.size:Int))).toNat) p0.size))),(6,.v (.bool true))],[]⟩ ?_ ?_
  ·
   refine dr 12 fun _ _ _ _ _ hb=>?_
   refine tk [0,1,3,4,5,6,7] ?_
   refine o2 2 8 ?_ ?_
   ·
    refine on1 2 [] (cu 0 ((idx1 p0 p1).toNat) (hl:=rfl)) ?_
    refine tk [9] ?_
    refine on 8 [] (cu ((i64.wrap ((idx1 p0 p1)+(p1.size:Int))).toNat) p0.size (hh:=rfl)) ?_
    refine tk [10,11] ?_
    refine dn hb ?_
    exact Run.at [] [] su (by decide)
   ·
    refine on1 8 [] (cu ((i64.wrap ((idx1 p0 p1)+(p1.size:Int))).toNat) p0.size (hh:=rfl)) ?_
    refine on 2 [] (cu 0 ((idx1 p0 p1).toNat) (hl:=rfl)) ?_
    refine tk [9,10,11] ?_
    refine dn hb ?_
    exact Run.at [] [] su (by decide)
  exact rz (rs:=[.tmp 4,.tmp 5,.tmp 6]) (congrArg (fun x=>[Re.c (.string x.1),Re.c (.string x.2.1),Re.c (.bool x.2.2)]) hM)
 ·
  have hM:=hM.trans (bf h2)
  refine ad 8 ?_
  exact rz (rs:=[.tmp 4,.tmp 5,.tmp 6]) (congrArg (fun x=>[Re.c (.string x.1),Re.c (.string x.2.1),Re.c (.bool x.2.2)]) hM)
def Qcq (p0:ByteArray) (p1:ByteArray):ByteArray×ByteArray×Bool:=((Qbz p0 p1).1,(Qbz p0 p1).2.1,(Qbz p0 p1).2.2)
theorem Q3i (p0:ByteArray) (p1:ByteArray) (hn: ∃ c,p1=⟨#[c]⟩) (hq:p0.size≤1048576):CTs 219 [.o (.c (.string p0)),.o (.c (.string p1))] [Re.c (.string ((Qcq p0 p1).1)),Re.c (.string ((Qcq p0 p1).2.1)),Re.c (.bool ((Qcq p0 p1).2.2))]:=by
 refine en Tryz.func219 Tryz.ntmps219 fun w hG hgd=>?_
 have hM:=Qcq.eq_1 p0 p1
 have hp1:p1.size=1:=by obtain⟨c,rfl⟩:=hn;rfl
 refine ad 10 ?_
 refine op (cl (Qmz p0 p1 (by first | assumption | exact⟨_,rfl⟩) lv2) Yi0) ?_
 refine ad 7 ?_
 exact rz (rs:=[.tmp 4,.tmp 5,.tmp 6]) (congrArg (fun x=>[Re.c (.string x.1),Re.c (.string x.2.1),Re.c (.bool x.2.2)]) hM)
def Qad (p0:ByteArray) (p1:ByteArray):(List ByteArray):=(genS p0 p1 0 (-1))
theorem Qyx (p0:ByteArray) (p1:ByteArray) (hn: ∃ c,p1=⟨#[c]⟩) (hq:p0.size≤1048576):CTs 217 [.o (.c (.string p0)),.o (.c (.string p1))] [Re.sl ByteArray instDatByteArray (Qad p0 p1)]:=by
 refine en Tryz.func217 Tryz.ntmps217 fun w hG hgd=>?_
 have hM:=Qad.eq_1 p0 p1
 have hp1:p1.size=1:=by obtain⟨c,rfl⟩:=hn;rfl
 refine ad 8 ?_
 refine og (clg (Yh8 p0 p1 0 (-1) (by assumption) rfl rfl (by assumption)) Yi2) fun hgq=>?_
 obtain⟨hg1,_⟩:=hgq
 refine ad 2 ?_
 exact rz (rs:=[.tmp 4]) (congrArg (fun x=>[Re.sl ByteArray instDatByteArray x]) hM)
def Qcr (p0:ByteArray) (p1:UInt8):Nat→(List ByteArray)→Int→Nat→(List ByteArray)
 | 0,v5,v6,i=>v5
 | n+1,v5,v6,i=>Qcr p0 p1 n (bif ((decide ((i:Int)=(p0.size:Int)))||(decide (((Qav p0 i).toNat:Int)=(p1.toNat:Int)))) then(v5++[cutS p0 v6.toNat i]) else v5) (bif ((decide ((i:Int)=(p0.size:Int)))||(decide (((Qav p0 i).toNat:Int)=(p1.toNat:Int)))) then((i+1:Nat):Int) else v6) (i+1)
def Qag (p0:ByteArray) (p1:UInt8):(List ByteArray):=Qcr p0 p1 ((p0.size+1) - 0) ([]:List ByteArray) 0 0
theorem Qp7 (p0:ByteArray) (p1:UInt8) (hq:p0.size≤1048576):CTs 210 [.o (.c (.string p0)),.o (.c (.int .u8 p1.toNat))] [Re.sl ByteArray instDatByteArray (Qag p0 p1)]:=by
 refine en Tryz.func210 Tryz.ntmps210 fun w hG hgd=>?_
 have hM:=Qag.eq_1 p0 p1
 refine ad 6 ?_
 refine op (l0) ?_
 refine ad 12 ?_
 refine li 0 (d:=instDatByteArray) ([]:List ByteArray) ?_
 refine Run.loopM (ι:=(List ByteArray)×Int×Nat) (fun s=>Qcr p0 p1 ((p0.size+1) - s.2.2) s.1 s.2.1 s.2.2) (fun s=>⟨36,1,[(0,.v (.string p0)),(1,.v (.int .u8 (p1.toNat:Int))),(5,.sl 0 s.1.length),(6,.v (.int .i64 s.2.1)),(7,.v (.int .i64 (s.2.2:Int)))],[(0,.own ByteArray instDatByteArray s.1)]⟩) (fun s=>s.2.2≤(p0.size+1)∧0≤s.2.1∧s.2.1≤(s.2.2:Int)∧s.1.length≤s.2.2) (fun s=>(p0.size+1) - s.2.2) (([]:List ByteArray),0,0) [0] [0] hM (by exact⟨by(try dsimp only);omega,by(try dsimp only);omega,by(try dsimp only);omega,by simp⟩) su (by decide) ?_
 rintro ⟨v5,v6,i⟩ hv hE
 try dsimp only at hE
 obtain⟨hi,hv0,hv1,hv2⟩:=hv
 try dsimp only at hi hv0 hv1 hv2
 refine ad 8 ?_
 refine cd (fun h1=>?_) (fun h1=>?_)
 ·
  have h1l:i<(p0.size+1):=dtl h1
  have hM:=hE.trans ((congrArg (fun n=>Qcr p0 p1 n v5 v6 i) (show(p0.size+1) - i=((p0.size+1) - (i+1))+1 by omega)).trans (Qcr.eq_2 _ _ _ _ _ _))
  refine ad 10 ?_
  refine ag 2 ?_
  refine op (sG (s:=p0) i (hk:=fun hB=>by(try simp at hB);omega)) ?_
  refine ag 3 ?_
  refine ad 1 ?_
  refine Run.mid ⟨36,1,[(0,.v (.string p0)),(1,.v (.int .u8 (p1.toNat:Int))),(5,.sl 0 ((bif ((decide ((i:Int)=(p0.size:Int)))||(decide (((Qav p0 i).toNat:Int)=(p1.toNat:Int)))) then(v5++[cutS p0 v6.toNat i]) else v5).length)),(6,.v (.int .i64 (bif ((decide ((i:Int)=(p0.size:Int)))||(decide (((Qav p0 i).toNat:Int)=(p1.toNat:Int)))) then((i+1:Nat):Int) else v6))),(7,.v (.int .i64 (i:Int)))],[(0,.own ByteArray instDatByteArray (bif ((decide ((i:Int)=(p0.size:Int)))||(decide (((Qav p0 i).toNat:Int)=(p1.toNat:Int)))) then(v5++[cutS p0 v6.toNat i]) else v5))]⟩ ?_ ?_
  ·refine cd (fun h2=>?_) (fun h2=>?_)
   ·
    refine ad 6 ?_
    refine op (cu v6.toNat i) ?_
    refine ad 1 ?_
    have hg3:Dat.good (cutS p0 v6.toNat i):=Qmp lv5
    refine op (ap [cutS p0 v6.toNat i] (hg:=gdt) (hb:=by simp only[List.length_cons,List.length_nil];first | omega | exact om)) ?_
    refine ad 5 ?_
    rw[Qb3 (i:=i) om]
    refine ad 2 ?_
    exact Run.at [2] [1] (by first | exact su | (rw[h2];exact su)) (by decide)
   ·
    refine ad 1 ?_
    exact Run.at [0] [0] (by first | exact su | (rw[h2];exact su)) (by decide)
  refine ad 4 ?_
  rw[Qb3 (i:=i) om]
  refine ad 2 ?_
  exact Run.again (bif ((decide ((i:Int)=(p0.size:Int)))||(decide (((Qav p0 i).toNat:Int)=(p1.toNat:Int)))) then(v5++[cutS p0 v6.toNat i]) else v5,bif ((decide ((i:Int)=(p0.size:Int)))||(decide (((Qav p0 i).toNat:Int)=(p1.toNat:Int)))) then((i+1:Nat):Int) else v6,(i+1)) [0] [0] ⟨by exact⟨by(try dsimp only);omega,by(try dsimp only);((try simp only[Bool.cond_eq_ite]);(repeat' split)<;>omega),by(try dsimp only);((try simp only[Bool.cond_eq_ite]);(repeat' split)<;>omega),by(try dsimp only);((try simp only[Bool.cond_eq_ite]);(repeat' split);all_goals ((try simp only[length_append,length_cons,length_nil]);omega))⟩,hM⟩ rfl lv1 su (by decide)
 ·
  have h1l: ¬ (i<(p0.size+1)):=dfl h1
  have hM:=hE.trans ((congrArg (fun n=>Qcr p0 p1 n v5 v6 i) (sb0 h1l)).trans (Qcr.eq_1 _ _ _ _ _))
  refine ad 6 ?_
  exact rz (rs:=[.tmp 4]) (congrArg (fun x=>[Re.sl ByteArray instDatByteArray x]) hM)
end
section
theorem Q29 {c:UInt8}: ∀ l:List UInt8,(∀ y∈l,y≠c)→Lib.indexByte l c= -1
 | [],_=>rfl
 | b :: l, h => by
  have h1:(b==c)=false:=beq_eq_false_iff_ne.2 (h b List.mem_cons_self)
  rw[Lib.indexByte,h1,Q29 l (fun y hy=>h y (List.mem_cons_of_mem _ hy))]
  rfl
theorem Yd9 {c:UInt8}: ∀ (k:Nat) (l:List UInt8),(∀ j,j<k→l[j]?≠some c)→l[k]?=some c→Lib.indexByte l c=k
 | 0,[],_,h=>by cases h
 | 0, b :: l, _, h => by
  have h1:(b==c)=true:=beq_iff_eq.2 (by simpa using h)
  rw[Lib.indexByte,h1]
  rfl
 | k+1,[],_,h=>by cases h
 | k + 1, b :: l, hn, h => by
  have h1:(b==c)=false:=beq_eq_false_iff_ne.2 (fun e=>hn 0 (by omega) (by rw[e];rfl))
  have ih:=Yd9 k l (fun j hj=>hn (j+1) (by omega)) h
  rw[Lib.indexByte,h1,ih,if_neg (by decide),if_neg (by rw[beq_iff_eq];omega)]
  omega
theorem Qoj {c:UInt8} {x:ByteArray} (h:Lib.indexB x ⟨#[c]⟩= -1):Qb2 c x=[x]:=Lib.splitB_miss _ _ _ _ h
theorem Qqi {c:UInt8} {x:ByteArray} {i:Nat} (h:Lib.indexB x ⟨#[c]⟩=i):Qb2 c x=x.extract 0 i::Qb2 c (x.extract (i+1) x.size):=by
 have hc:=Lib.countB_hit x ⟨#[c]⟩ i (Nat.le_refl _) h
 unfold Qb2
 rw[hc,Nat.add_comm 1,Lib.splitB_hit _ _ _ _ _ h]
 rfl
theorem Qox {s:ByteArray} {j:Nat} (h:j<s.size):s.data.toList[j]?=some (Qav s j):=by
 unfold Qav
 rw[Array.getD_eq_getD_getElem?,Array.getElem?_toList]
 have h':j<s.data.size:=h
 rw[Array.getElem?_eq_getElem h']
 rfl
theorem Qkq (c:UInt8) (x:ByteArray):Lib.indexB x ⟨#[c]⟩=Lib.indexByte x.data.toList c:=Lib.index_one _ _
theorem Q7c (s:ByteArray) {b i:Nat} (hb:b≤i) (hi:i<s.size):(s.extract b s.size).extract 0 (i - b)=s.extract b i∧(s.extract b s.size).extract (i - b+1) (s.extract b s.size).size=s.extract (i+1) s.size:=by
 constructor
 ·apply ByteArray.ext
  apply Array.toList_inj.1
  rw[Lib.extract_from_zero,Lib.extract_to_end,Lib.extract_data]
 ·apply ByteArray.ext
  apply Array.toList_inj.1
  rw[Lib.extract_to_end,Lib.extract_to_end,Lib.extract_to_end,List.drop_drop]
  congr 1
  omega
theorem Yh4 (c:UInt8) (p0:ByteArray): ∀ n i (v:List ByteArray) (b:Nat),i+n=p0.size→b≤i→(∀ j,b≤j→j<i→Qav p0 j≠c)→Qcr p0 c (n+1) v (b:Int) i=v++Qb2 c (p0.extract b p0.size):=by
 intro n
 induction n with
 | zero =>
  intro i v b hi hb hno
  obtain rfl:i=p0.size:=by omega
  rw[Qcr,Qcr,decide_eq_true rfl]
  show v++[cutS p0 (b:Int).toNat p0.size]=_
  rw[Int.toNat_natCast,Qoj]
  ·rfl
  ·rw[Qkq,Lib.extract_to_end]
   refine Q29 _ fun y hy=>?_
   obtain⟨j,e⟩:=List.mem_iff_getElem?.1 hy
   rw[getElem?_drop] at e
   have hlt:b+j<p0.data.toList.length:=(List.getElem?_eq_some_iff.1 e).1
   have hlt':b+j<p0.size:=by rw[Array.length_toList] at hlt;exact hlt
   rw[Qox hlt'] at e
   injection e with e
   rw[←e]
   exact hno _ (by omega) hlt'
 | succ n ih =>
  intro i v b hi hb hno
  have hlt:i<p0.size:=by omega
  rw[Qcr,decide_eq_false (show ¬ (i:Int)=(p0.size:Int) by omega),Bool.false_or]
  by_cases h10:Qav p0 i=c
  ·rw[h10,decide_eq_true rfl]
   show Qcr p0 c (n+1) (v++[cutS p0 (b:Int).toNat i]) ((i+1:Nat):Int) (i+1)=_
   rw[ih (i+1) _ (i+1) (by omega) (Nat.le_refl _) (fun j h1 h2=>by omega),Int.toNat_natCast]
   have hx:Lib.indexB (p0.extract b p0.size) ⟨#[c]⟩=((i - b:Nat):Int):=by
    rw[Qkq,Lib.extract_to_end]
    refine Yd9 _ _ (fun j hj e=>?_) ?_
    ·rw[getElem?_drop,Qox (by omega)] at e
     injection e with e
     exact hno (b+j) (by omega) (by omega) e
    ·rw[getElem?_drop,show b+(i - b)=i by omega,Qox hlt,h10]
   rw[Qqi hx,(Q7c p0 hb hlt).1,(Q7c p0 hb hlt).2,append_assoc]
   rfl
  ·rw[decide_eq_false (show ¬ ((Qav p0 i).toNat:Int)=((c.toNat:Nat):Int) from fun e=>h10 (UInt8.toNat_inj.1 (by omega)))]
   show Qcr p0 c (n+1) v (b:Int) (i+1)=_
   refine ih (i+1) v b (by omega) (by omega) fun j h1 h2=>?_
   rcases Nat.lt_or_ge j i with h3 | h3
   ·exact hno j h1 h3
   ·obtain rfl : j = i := by omega
    exact h10
theorem Qk9 (c:UInt8) (p0:ByteArray):Qag p0 c=Qb2 c p0:=by
 unfold Qag
 rw[Nat.sub_zero]
 have:=Yh4 c p0 p0.size 0 [] 0 (by omega) (Nat.le_refl _) (fun j _ h=>absurd h (by omega))
 rw[show p0.extract 0 p0.size=p0 from by apply ByteArray.ext;apply Array.toList_inj.1;rw[Lib.extract_to_end];rfl,nil_append] at this
 exact this
theorem Qrn (c:UInt8) (p0:ByteArray):Qad p0 ⟨#[c]⟩=Qb2 c p0:=rfl
theorem Q8i (c:UInt8) (p0:ByteArray) (k:Nat):(nth (Qag p0 c) k).size≤p0.size:=by
 rw[Qk9]
 exact Qro c p0 k
theorem Q65 (c:UInt8) (p0:ByteArray):1≤(Qag p0 c).length∧(Qag p0 c).length≤p0.size+1:=by
 rw[Qk9]
 exact⟨by rw[Qlx];omega,Qsf c p0⟩
theorem Q2f (c:UInt8) (p0:ByteArray) (k:Nat):(nth (Qad p0 ⟨#[c]⟩) k).size≤p0.size:=Qro c p0 k
theorem Q5m (c:UInt8) (p0:ByteArray):1≤(Qad p0 ⟨#[c]⟩).length∧(Qad p0 ⟨#[c]⟩).length≤p0.size+1:=⟨by rw[Qrn,Qlx];omega,Qsf c p0⟩
theorem Yco (p0 p1:ByteArray):(Qcq p0 p1).1.size≤p0.size∧(Qcq p0 p1).2.1.size≤p0.size:=by
 unfold Qcq Qbz
 cases decide (idx1 p0 p1≥0) with
 | false=>exact⟨Nat.le_refl _,Nat.zero_le _⟩
 | true=>exact⟨Qtf (Nat.le_refl _),Qtf (Nat.le_refl _)⟩
theorem Ycq {xs:List ByteArray} {m:Nat} (h: ∀ k,(nth xs k).size≤m) (l u i:Nat):(nth (cutL xs l u) i).size≤m:=by
 unfold cutL nth
 rw[List.getD_eq_getElem?_getD,getElem?_drop,getElem?_take]
 by_cases hi:l+i<u
 ·rw[if_pos hi]
  have:=h (l+i)
  unfold nth at this
  rwa [List.getD_eq_getElem?_getD] at this
 ·rw[if_neg hi]
  exact Nat.zero_le _
theorem Q59 {xs:List ByteArray} {l u:Nat} (h:l≤u) (hu:u≤xs.length):(cutL xs l u).length=u - l:=by
 unfold cutL
 rw[length_drop,length_take]
 omega
end
section
set_option maxHeartbeats 4000000
theorem Yf0:FnOk Tryz.prog 106:=⟨_,Tryz.func106,rfl,by kernel_rfl⟩
theorem Yj4:FnOk Tryz.prog 173:=⟨_,Tryz.func173,rfl,by kernel_rfl⟩
theorem Yfo:FnOk Tryz.prog 180:=⟨_,Tryz.func180,rfl,by kernel_rfl⟩
theorem Yfj:FnOk Tryz.prog 210:=⟨_,Tryz.func210,rfl,by kernel_rfl⟩
theorem Yji:FnOk Tryz.prog 211:=⟨_,Tryz.func211,rfl,by kernel_rfl⟩
theorem Yjf:FnOk Tryz.prog 217:=⟨_,Tryz.func217,rfl,by kernel_rfl⟩
theorem Yje:FnOk Tryz.prog 218:=⟨_,Tryz.func218,rfl,by kernel_rfl⟩
theorem Yjd:FnOk Tryz.prog 219:=⟨_,Tryz.func219,rfl,by kernel_rfl⟩
theorem Yjc:FnOk Tryz.prog 220:=⟨_,Tryz.func220,rfl,by kernel_rfl⟩
def Qca (p0:ByteArray):Nat→(List Cell)→Nat→Int×(List Cell)×Bool
 | 0,v8,i=>bif (decide (p0=⟨#[]⟩))||(!decide ((Qhn ((Qct (nth (Qad p0 ⟨#[32]⟩) 0)).1) v8)=p0)) then(0,[],false) else((Qct (nth (Qad p0 ⟨#[32]⟩) 0)).1,v8,true)
 | n+1,v8,i=>Qca p0 n (v8++[(Cell.mk ((Qed ((Qcq (nth (cutL (Qad p0 ⟨#[32]⟩) 1 ((i64.wrap ((max ((Qad p0 ⟨#[32]⟩).length:Int) 2) - 1)).toNat)) i) ⟨#[61]⟩).1)).1) ((Qed ((Qcq (nth (cutL (Qad p0 ⟨#[32]⟩) 1 ((i64.wrap ((max ((Qad p0 ⟨#[32]⟩).length:Int) 2) - 1)).toNat)) i) ⟨#[61]⟩).2.1)).1))]) (i+1)
def Qaw (p0:ByteArray):Int×(List Cell)×Bool:=bif decide ((p0.size:Int)>4000) then(0,[],false) else(Qca p0 (((cutL (Qad p0 ⟨#[32]⟩) 1 ((i64.wrap ((max ((Qad p0 ⟨#[32]⟩).length:Int) 2) - 1)).toNat)).length) - 0) [] 0)
theorem Quu (p0:ByteArray):CTs 162 [.o (.c (.string p0))] [Re.c (.int .i64 ((Qaw p0).1)),Re.sl Cell instDatCell ((Qaw p0).2.1),Re.c (.bool ((Qaw p0).2.2))]:=by
 refine en Tryz.func162 Tryz.ntmps162 fun w hG hgd=>?_
 have hM:=Qaw.eq_1 p0
 refine ad 13 ?_
 refine cd (fun h1=>?_) (fun h1=>?_)
 ·
  have hM:=hM.trans (bt h1)
  refine ad 6 ?_
  exact rz (rs:=[.tmp 2,.tmp 3,.tmp 4]) (congrArg (fun x=>[Re.c (.int .i64 x.1),Re.sl Cell instDatCell x.2.1,Re.c (.bool x.2.2)]) hM)
 ·
  have hM:=hM.trans (bf h1)
  have hz1:p0.size≤4000:=by have:=of_decide_eq_false h1;omega
  have hz2:p0.size≤1048576:=by omega
  have hsl:=Q5m 32 p0
  have hs0:=Q2f 32 p0 0
  have hwi:(i64.wrap ((max ((Qad p0 ⟨#[32]⟩).length:Int) 2) - 1))=(max ((Qad p0 ⟨#[32]⟩).length:Int) 2) - 1:=IntWalk.i64_in _ (by omega)
  have hcl:=Q59 (xs:=(Qad p0 ⟨#[32]⟩)) (l:=1) (u:=(i64.wrap ((max ((Qad p0 ⟨#[32]⟩).length:Int) 2) - 1)).toNat) (by omega) (by omega)
  refine ad 4 ?_
  refine og (clg (Qyx p0 ⟨#[32]⟩ (by first | assumption | exact⟨_,rfl⟩) lv2) Yjf) fun hgq=>?_
  obtain⟨hg2,_⟩:=hgq
  refine ad 5 ?_
  refine fz 0 ?_
  refine op (ix (xs:=(Qad p0 ⟨#[32]⟩)) 0 om) ?_
  refine ad 1 ?_
  refine op (cl (Qtt (nth (Qad p0 ⟨#[32]⟩) 0) lv5) Yje) ?_
  refine ad 16 ?_
  refine op (bX) ?_
  refine ad 1 ?_
  refine op (pa 1 ((i64.wrap ((max ((Qad p0 ⟨#[32]⟩).length:Int) 2) - 1)).toNat)) ?_
  refine ad 4 ?_
  refine Run.nil 8 (α:=Cell) (d:=instDatCell) rfl ?_
  refine Run.loopM (ι:=(List Cell)×Nat) (fun s=>Qca p0 (((cutL (Qad p0 ⟨#[32]⟩) 1 ((i64.wrap ((max ((Qad p0 ⟨#[32]⟩).length:Int) 2) - 1)).toNat)).length) - s.2) s.1 s.2) (fun s=>⟨75,2,[(0,.v (.string p0)),(6,.v (.int .i64 ((Qct (nth (Qad p0 ⟨#[32]⟩) 0)).1))),(8,.sl 1 s.1.length),(35,.sl 0 ((cutL (Qad p0 ⟨#[32]⟩) 1 ((i64.wrap ((max ((Qad p0 ⟨#[32]⟩).length:Int) 2) - 1)).toNat)).length)),(36,.v (.int .i64 ((cutL (Qad p0 ⟨#[32]⟩) 1 ((i64.wrap ((max ((Qad p0 ⟨#[32]⟩).length:Int) 2) - 1)).toNat)).length:Int))),(37,.v (.int .i64 (s.2:Int)))],[(0,.ros ByteArray instDatByteArray (cutL (Qad p0 ⟨#[32]⟩) 1 ((i64.wrap ((max ((Qad p0 ⟨#[32]⟩).length:Int) 2) - 1)).toNat))),(1,.own Cell instDatCell s.1)]⟩) (fun s=>s.2≤(cutL (Qad p0 ⟨#[32]⟩) 1 ((i64.wrap ((max ((Qad p0 ⟨#[32]⟩).length:Int) 2) - 1)).toNat)).length∧s.1.length≤s.2) (fun s=>((cutL (Qad p0 ⟨#[32]⟩) 1 ((i64.wrap ((max ((Qad p0 ⟨#[32]⟩).length:Int) 2) - 1)).toNat)).length) - s.2) ([],0) [2,3] [1,0] hM (by exact⟨by(try dsimp only);omega,by simp⟩) su (by decide) ?_
  rintro ⟨v8,i⟩ hv hE
  try dsimp only at hE
  obtain⟨hi,hv0⟩:=hv
  try dsimp only at hi hv0
  refine ad 5 ?_
  refine cd (fun h4=>?_) (fun h4=>?_)
  ·
   have h4l:i<(cutL (Qad p0 ⟨#[32]⟩) 1 ((i64.wrap ((max ((Qad p0 ⟨#[32]⟩).length:Int) 2) - 1)).toNat)).length:=dtl h4
   have hM:=hE.trans ((congrArg (fun n=>Qca p0 n v8 i) (show((cutL (Qad p0 ⟨#[32]⟩) 1 ((i64.wrap ((max ((Qad p0 ⟨#[32]⟩).length:Int) 2) - 1)).toNat)).length) - i=(((cutL (Qad p0 ⟨#[32]⟩) 1 ((i64.wrap ((max ((Qad p0 ⟨#[32]⟩).length:Int) 2) - 1)).toNat)).length) - (i+1))+1 by omega)).trans (Qca.eq_2 _ _ _ _))
   have hci:(nth (cutL (Qad p0 ⟨#[32]⟩) 1 ((i64.wrap ((max ((Qad p0 ⟨#[32]⟩).length:Int) 2) - 1)).toNat)) i).size≤p0.size:=Ycq (Q2f 32 p0) _ _ i
   have hcs:=Yco (nth (cutL (Qad p0 ⟨#[32]⟩) 1 ((i64.wrap ((max ((Qad p0 ⟨#[32]⟩).length:Int) 2) - 1)).toNat)) i) ⟨#[61]⟩
   have hu1:=Qpz (Qcq (nth (cutL (Qad p0 ⟨#[32]⟩) 1 ((i64.wrap ((max ((Qad p0 ⟨#[32]⟩).length:Int) 2) - 1)).toNat)) i) ⟨#[61]⟩).1
   have hu2:=Qpz (Qcq (nth (cutL (Qad p0 ⟨#[32]⟩) 1 ((i64.wrap ((max ((Qad p0 ⟨#[32]⟩).length:Int) 2) - 1)).toNat)) i) ⟨#[61]⟩).2.1
   refine ad 5 ?_
   refine op (ix (xs:=(cutL (Qad p0 ⟨#[32]⟩) 1 ((i64.wrap ((max ((Qad p0 ⟨#[32]⟩).length:Int) 2) - 1)).toNat))) i om) ?_
   refine ad 6 ?_
   refine op (cl (Q3i (nth (cutL (Qad p0 ⟨#[32]⟩) 1 ((i64.wrap ((max ((Qad p0 ⟨#[32]⟩).length:Int) 2) - 1)).toNat)) i) ⟨#[61]⟩ (by first | assumption | exact⟨_,rfl⟩) lv2) Yjd) ?_
   refine ad 11 ?_
   refine op (cl (Qwk ((Qcq (nth (cutL (Qad p0 ⟨#[32]⟩) 1 ((i64.wrap ((max ((Qad p0 ⟨#[32]⟩).length:Int) 2) - 1)).toNat)) i) ⟨#[61]⟩).1) lv5) Yfo) ?_
   refine ad 9 ?_
   refine op (cl (Qwk ((Qcq (nth (cutL (Qad p0 ⟨#[32]⟩) 1 ((i64.wrap ((max ((Qad p0 ⟨#[32]⟩).length:Int) 2) - 1)).toNat)) i) ⟨#[61]⟩).2.1) lv5) Yfo) ?_
   refine ad 12 ?_
   refine op (ap [(Cell.mk ((Qed ((Qcq (nth (cutL (Qad p0 ⟨#[32]⟩) 1 ((IntKind.i64.wrap ((max ((Qad p0 ⟨#[32]⟩).length:Int) 2) - 1)).toNat)) i) ⟨#[61]⟩).1)).1) ((Qed ((Qcq (nth (cutL (Qad p0 ⟨#[32]⟩) 1 ((IntKind.i64.wrap ((max ((Qad p0 ⟨#[32]⟩).length:Int) 2) - 1)).toNat)) i) ⟨#[61]⟩).2.1)).1))] (hg:=gdt) (hb:=by simp only[List.length_cons,List.length_nil];first | omega | exact om)) ?_
   refine ad 5 ?_
   rw[Qb3 (i:=i) om]
   refine ad 2 ?_
   exact Run.again ((v8++[(Cell.mk ((Qed ((Qcq (nth (cutL (Qad p0 ⟨#[32]⟩) 1 ((i64.wrap ((max ((Qad p0 ⟨#[32]⟩).length:Int) 2) - 1)).toNat)) i) ⟨#[61]⟩).1)).1) ((Qed ((Qcq (nth (cutL (Qad p0 ⟨#[32]⟩) 1 ((i64.wrap ((max ((Qad p0 ⟨#[32]⟩).length:Int) 2) - 1)).toNat)) i) ⟨#[61]⟩).2.1)).1))]),(i+1)) [0,4] [2,3] ⟨by exact⟨by(try dsimp only);omega,by(try dsimp only);(try simp only[length_append,length_cons,length_nil]);omega⟩,hM⟩ rfl lv1 su (by decide)
  ·
   have h4l: ¬ (i<(cutL (Qad p0 ⟨#[32]⟩) 1 ((i64.wrap ((max ((Qad p0 ⟨#[32]⟩).length:Int) 2) - 1)).toNat)).length):=dfl h4
   have hM:=hE.trans ((congrArg (fun n=>Qca p0 n v8 i) (show((cutL (Qad p0 ⟨#[32]⟩) 1 ((i64.wrap ((max ((Qad p0 ⟨#[32]⟩).length:Int) 2) - 1)).toNat)).length) - i=0 by omega)).trans (Qca.eq_1 _ _ _))
   refine ad 7 ?_
   refine ag 2 ?_
   refine op (cG (hct:=fun hB=>(Qut ((Qct (nth (Qad p0 ⟨#[32]⟩) 0)).1) v8)) (hfn:=Yjc)) ?_
   refine ag 3 ?_
   refine ad 1 ?_
   refine cd (fun h6=>?_) (fun h6=>?_)
   ·
    have hM:=hM.trans (bt h6)
    refine ad 6 ?_
    exact rz (rs:=[.tmp 2,.tmp 3,.tmp 4]) (congrArg (fun x=>[Re.c (.int .i64 x.1),Re.sl Cell instDatCell x.2.1,Re.c (.bool x.2.2)]) hM)
   ·
    have hM:=hM.trans (bf h6)
    refine ad 9 ?_
    exact rz (rs:=[.tmp 2,.tmp 3,.tmp 4]) (congrArg (fun x=>[Re.c (.int .i64 x.1),Re.sl Cell instDatCell x.2.1,Re.c (.bool x.2.2)]) hM)
def Qbm (p0:ByteArray):Nat→(List Cell)→Nat→Int×(List Cell)×Bool
 | 0,v9,i=>bif ((!((Qa5 (nth (Qag p0 (32:UInt8)) 0)).2))||(decide ((Qcb ((Qa5 (nth (Qag p0 (32:UInt8)) 0)).1) v9)=⟨#[]⟩)))||(!decide ((Qcb ((Qa5 (nth (Qag p0 (32:UInt8)) 0)).1) v9)=p0)) then(0,([]:List Cell),false) else((Qa5 (nth (Qag p0 (32:UInt8)) 0)).1,v9,true)
 | n+1,v9,i=>bif !decide (((Qag (nth (Qag p0 (32:UInt8)) i) (61:UInt8)).length:Int)=2) then(0,([]:List Cell),false) else(Qbm p0 n (v9++[(Cell.mk ((Qgs (nth (Qag (nth (Qag p0 (32:UInt8)) i) (61:UInt8)) 0)).1) ((Qgs (nth (Qag (nth (Qag p0 (32:UInt8)) i) (61:UInt8)) 1)).1))]) (i+1))
def Qa8 (p0:ByteArray):Int×(List Cell)×Bool:=bif decide ((p0.size:Int)>4000) then(0,([]:List Cell),false) else(Qbm p0 (((i64.wrap (((Qag p0 (32:UInt8)).length:Int) - 1)).toNat) - 1) ([]:List Cell) 1)
theorem Quq (p0:ByteArray):CTs 150 [.o (.c (.string p0))] [Re.c (.int .i64 ((Qa8 p0).1)),Re.sl Cell instDatCell ((Qa8 p0).2.1),Re.c (.bool ((Qa8 p0).2.2))]:=by
 refine en Tryz.func150 Tryz.ntmps150 fun w hG hgd=>?_
 have hM:=Qa8.eq_1 p0
 refine ad 8 ?_
 refine op (l0) ?_
 refine ad 9 ?_
 refine cd (fun h1=>?_) (fun h1=>?_)
 ·
  have hM:=hM.trans (bt h1)
  refine ad 7 ?_
  refine li 0 (d:=instDatCell) ([]:List Cell) ?_
  exact rz (rs:=[.tmp 2,.tmp 3,.tmp 4]) (congrArg (fun x=>[Re.c (.int .i64 x.1),Re.sl Cell instDatCell x.2.1,Re.c (.bool x.2.2)]) hM)
 ·
  have hM:=hM.trans (bf h1)
  have hz1:p0.size≤4000:=by have:=of_decide_eq_false h1;omega
  have hz2:p0.size≤1048576:=by omega
  have hsl:=Q65 32 p0
  have hs0:=Q8i 32 p0 0
  have hwi:i64.wrap (((Qag p0 (32:UInt8)).length:Int) - 1)=((Qag p0 (32:UInt8)).length:Int) - 1:=IntWalk.i64_in _ (by omega)
  refine ad 4 ?_
  refine og (clg (Qp7 p0 (32:UInt8) lv2) Yfj) fun hgq=>?_
  obtain⟨hg2,_⟩:=hgq
  refine ad 5 ?_
  refine fz 1 ?_
  refine op (ix (xs:=(Qag p0 (32:UInt8))) 0 om) ?_
  refine ad 1 ?_
  refine op (cl (Qtj (nth (Qag p0 (32:UInt8)) 0) (Yb4 hg2 _)) Yj4) ?_
  refine ad 8 ?_
  refine op (l0) ?_
  refine ad 8 ?_
  refine li 3 (d:=instDatCell) ([]:List Cell) ?_
  refine Run.loopM (ι:=(List Cell)×Nat) (fun s=>Qbm p0 (((i64.wrap (((Qag p0 (32:UInt8)).length:Int) - 1)).toNat) - s.2) s.1 s.2) (fun s=>⟨85,3,[(0,.v (.string p0)),(5,.sl 0 0),(6,.sl 1 ((Qag p0 (32:UInt8)).length)),(7,.v (.int .i64 ((Qa5 (nth (Qag p0 (32:UInt8)) 0)).1))),(8,.v (.bool ((Qa5 (nth (Qag p0 (32:UInt8)) 0)).2))),(9,.sl 2 s.1.length),(10,.v (.int .i64 (s.2:Int)))],[(0,.lit [] 114 0),(1,.ros ByteArray instDatByteArray (Qag p0 (32:UInt8))),(2,.own Cell instDatCell s.1)]⟩) (fun s=>True∧s.1.length≤s.2) (fun s=>((i64.wrap (((Qag p0 (32:UInt8)).length:Int) - 1)).toNat) - s.2) (([]:List Cell),1) [0,1,3] [3,2,0] hM (by exact⟨trivial,by simp⟩) su (by decide) ?_
  rintro ⟨v9,i⟩ hv hE
  try dsimp only at hE
  obtain⟨hi,hv0⟩:=hv
  try dsimp only at hi hv0
  refine ad 9 ?_
  refine cd (fun h4=>?_) (fun h4=>?_)
  ·
   have h4l:i<(i64.wrap (((Qag p0 (32:UInt8)).length:Int) - 1)).toNat:=dtl h4
   have hM:=hE.trans ((congrArg (fun n=>Qbm p0 n v9 i) (show((i64.wrap (((Qag p0 (32:UInt8)).length:Int) - 1)).toNat) - i=(((i64.wrap (((Qag p0 (32:UInt8)).length:Int) - 1)).toNat) - (i+1))+1 by omega)).trans (Qbm.eq_2 _ _ _ _))
   have hci:=Q8i 32 p0 i
   have hsm:=Q65 61 (nth (Qag p0 (32:UInt8)) i)
   have hu1:=Qpm (nth (Qag (nth (Qag p0 (32:UInt8)) i) (61:UInt8)) 0)
   have hu2:=Qpm (nth (Qag (nth (Qag p0 (32:UInt8)) i) (61:UInt8)) 1)
   refine ad 7 ?_
   refine op (ix (xs:=(Qag p0 (32:UInt8))) i om) ?_
   refine ad 1 ?_
   refine og (clg (Qp7 (nth (Qag p0 (32:UInt8)) i) (61:UInt8) lv2) Yfj) fun hgq=>?_
   obtain⟨hg6,_⟩:=hgq
   refine ad 9 ?_
   refine cd (fun h7=>?_) (fun h7=>?_)
   ·
    have hM:=hM.trans (bt h7)
    refine ad 7 ?_
    refine li 0 (d:=instDatCell) ([]:List Cell) ?_
    exact rz (rs:=[.tmp 2,.tmp 3,.tmp 4]) (congrArg (fun x=>[Re.c (.int .i64 x.1),Re.sl Cell instDatCell x.2.1,Re.c (.bool x.2.2)]) hM)
   ·
    have hM:=hM.trans (bf h7)
    have hy2:(Qag (nth (Qag p0 (32:UInt8)) i) (61:UInt8)).length=2:=by have:=of_decide_eq_true (by simpa using h7);omega
    refine ad 4 ?_
    refine fz 4 ?_
    refine op (ix (xs:=(Qag (nth (Qag p0 (32:UInt8)) i) (61:UInt8))) 0 om) ?_
    refine ad 1 ?_
    refine op (cl (Qwh (nth (Qag (nth (Qag p0 (32:UInt8)) i) (61:UInt8)) 0)) Yf0) ?_
    refine ad 9 ?_
    refine op (ix (xs:=(Qag (nth (Qag p0 (32:UInt8)) i) (61:UInt8))) 1 om) ?_
    refine ad 1 ?_
    refine op (cl (Qwh (nth (Qag (nth (Qag p0 (32:UInt8)) i) (61:UInt8)) 1)) Yf0) ?_
    refine ad 12 ?_
    refine op (ap [(Cell.mk ((Qgs (nth (Qag (nth (Qag p0 (32:UInt8)) i) (61:UInt8)) 0)).1) ((Qgs (nth (Qag (nth (Qag p0 (32:UInt8)) i) (61:UInt8)) 1)).1))] (hg:=gdt) (hb:=by simp only[List.length_cons,List.length_nil];first | omega | exact om)) ?_
    refine ad 6 ?_
    rw[Qb3 (i:=i) om]
    refine ad 2 ?_
    exact Run.again ((v9++[(Cell.mk ((Qgs (nth (Qag (nth (Qag p0 (32:UInt8)) i) (61:UInt8)) 0)).1) ((Qgs (nth (Qag (nth (Qag p0 (32:UInt8)) i) (61:UInt8)) 1)).1))]),(i+1)) [0,1,8] [5,6,7] ⟨by exact⟨trivial,by(try dsimp only);(try simp only[length_append,length_cons,length_nil]);omega⟩,hM⟩ rfl lv1 su (by decide)
  ·
   have h4l: ¬ (i<(i64.wrap (((Qag p0 (32:UInt8)).length:Int) - 1)).toNat):=dfl h4
   have hM:=hE.trans ((congrArg (fun n=>Qbm p0 n v9 i) (show((i64.wrap (((Qag p0 (32:UInt8)).length:Int) - 1)).toNat) - i=0 by omega)).trans (Qbm.eq_1 _ _ _))
   refine ad 5 ?_
   refine op (cl (Qup ((Qa5 (nth (Qag p0 (32:UInt8)) 0)).1) v9) Yji) ?_
   refine ad 8 ?_
   refine ag 3 ?_
   refine ad 1 ?_
   refine ag 4 ?_
   refine ad 1 ?_
   refine cd (fun h10=>?_) (fun h10=>?_)
   ·
    have hM:=hM.trans (bt h10)
    refine ad 7 ?_
    refine li 0 (d:=instDatCell) ([]:List Cell) ?_
    exact rz (rs:=[.tmp 2,.tmp 3,.tmp 4]) (congrArg (fun x=>[Re.c (.int .i64 x.1),Re.sl Cell instDatCell x.2.1,Re.c (.bool x.2.2)]) hM)
   ·
    have hM:=hM.trans (bf h10)
    refine ad 9 ?_
    exact rz (rs:=[.tmp 2,.tmp 3,.tmp 4]) (congrArg (fun x=>[Re.c (.int .i64 x.1),Re.sl Cell instDatCell x.2.1,Re.c (.bool x.2.2)]) hM)
end
section
theorem Qsh (p0:List Cell) (p1 p2:ByteArray): ∀ n v b i,(Qb4 p0 p1 p2 n v b i).length≤v.length+n+(bif b then 0 else 1):=by
 intro n
 induction n with
 | zero =>
  intro v b i
  rw[Qb4]
  cases b<;>simp
 | succ n ih =>
  intro v b i
  rw[Qb4]
  refine Nat.le_trans (ih _ _ _) ?_
  generalize (!(ltB ((nth p0 i).Key) p1||decide (((nth p0 i).Key)=p1)))=q
  cases(!decide (((nth p0 i).Key)=p1))<;>cases b<;>cases q<;>simp<;>omega
theorem Qjy (p0:List Cell) (p1 p2:ByteArray):(Qhs p0 p1 p2).length≤p0.length+1:=by
 unfold Qhs
 cases(!(Qip p1))||(decide ((p2.size:Int)>60)) with
 | true=>show([]++p0).length≤_;rw[nil_append];omega
 | false =>
  show(Qb4 p0 p1 p2 (p0.length - 0) [] _ 0).length≤_
  have:=Qsh p0 p1 p2 (p0.length - 0) [] (decide (p2=⟨#[]⟩)) 0
  revert this
  cases decide (p2=⟨#[]⟩)<;>simp<;>omega
theorem Q51 (p0:List Cell) (p1 p2:ByteArray) (hb:p0.length≤9223372036854775806):(Qlr p0 p1 p2).length≤p0.length+1:=by
 have hdl:=Qri p0 p1 hb
 unfold Qlr
 cases(!(Qjs p1))||(decide ((p2.size:Int)>60)) with
 | true=>show p0.length≤_;omega
 | false =>
  simp only[cond_false]
  cases decide (p2=⟨#[]⟩) with
  | true=>show(Qak p0 p1).length≤_;omega
  | false =>
   show(insL _ _ _).length≤_
   unfold insL
   rw[length_append,length_take,length_cons,length_drop]
   omega
theorem Qpf (p0:ByteArray): ∀ n v i,(Qca p0 n v i).2.1.length≤v.length+n:=by
 intro n
 induction n with
 | zero =>
  intro v i
  rw[Qca]
  generalize ((decide (p0=⟨#[]⟩))||_)=q
  cases q
  ·exact Nat.le_refl _
  ·exact Nat.zero_le _
 | succ n ih =>
  intro v i
  rw[Qca]
  refine Nat.le_trans (ih _ _) ?_
  rw[length_append,List.length_singleton]
  omega
theorem Qr2 (p0:ByteArray):(Qaw p0).2.1.length≤4001:=by
 unfold Qaw
 cases h1:decide ((p0.size:Int)>4000) with
 | true=>exact Nat.zero_le _
 | false =>
  have hz1:p0.size≤4000:=by have:=of_decide_eq_false h1;omega
  have hsl:=Q5m 32 p0
  refine Nat.le_trans (Qpf p0 _ [] 0) ?_
  unfold cutL
  rw[length_drop,length_take,length_nil]
  omega
theorem Qpd (p0:ByteArray): ∀ n v i,(Qbm p0 n v i).2.1.length≤v.length+n:=by
 intro n
 induction n with
 | zero =>
  intro v i
  rw[Qbm]
  generalize (((!_)||_)||_)=q
  cases q
  ·exact Nat.le_refl _
  ·exact Nat.zero_le _
 | succ n ih =>
  intro v i
  rw[Qbm]
  generalize (!decide (((Qag (nth (Qag p0 (32:UInt8)) i) (61:UInt8)).length:Int)=2))=q
  cases q
  ·refine Nat.le_trans (ih _ _) ?_
   rw[length_append,List.length_singleton]
   omega
  ·exact Nat.zero_le _
theorem Qrq (p0:ByteArray):(Qa8 p0).2.1.length≤4001:=by
 unfold Qa8
 cases h1:decide ((p0.size:Int)>4000) with
 | true=>exact Nat.zero_le _
 | false =>
  have hz1:p0.size≤4000:=by have:=of_decide_eq_false h1;omega
  have hsl:=Q65 32 p0
  rw[cond_false,IntWalk.i64_in _ (by omega)]
  refine Nat.le_trans (Qpd p0 _ [] 1) ?_
  rw[length_nil]
  omega
end
section
theorem Q7i {n m:Nat} {P:Program} {f:FuncId} {args:Array Value} {w:World} {R:Ending→World→Prop} (h:CallsIn Fence.wide n P f args w R):CallsIn Fence.wide m P f args w R:=callsIn_wide.2 (callsIn_wide.1 h)
theorem Q60 {n m:Nat} {P:Program} {l:Nat} {f:FuncId} {tmps:Array Value} {assign body:Code} {w:World} {R:Ending→World→Prop} (h:RoundIn Fence.wide n P l f tmps assign body w R):RoundIn Fence.wide m P l f tmps assign body w R:=
 ⟨h.1,fun c cs _=>h.2 c cs (room_wide _)⟩
def Turn (b:Nat) (W W':World):Prop:=(W'.os=W.os∧W'.tape=W.tape∧W'.output=W.output∧W'.heap.size=W.heap.size)∧ ∀ k,k≠b→W'.heap[k]?=W.heap[k]?
theorem Turn.below {b n:Nat} {w W W':World} (h:Turn b W W') (hb:n≤b) (hB:Below n w W):Below n w W':=
 ⟨h.1.1.trans hB.os,h.1.2.1.trans hB.tape,h.1.2.2.1.trans hB.output,by rw[h.1.2.2.2];exact hB.size,fun k hk=>(h.2 k (by omega)).trans (hB.block k hk)⟩
def bare (a:Act):Act:={ a with defers:=[] }
theorem Yea (a:Act) (p:Tmp) (v:Value):({ tmps:=((#[p]:Array Tmp).zip #[v]).foldl (fun t (p,v)=>t.setIfInBounds p v) a.tmps,defers:=[] }:Act)=(bare a).put (some p) v:=by simp[bare,Act.put]
def Yf8 (P:Program) (g:Nat) (lb:Array Value) (bs:Nat) (Kp:World→World→Prop) (Rd:World→Prop) (xs:List ByteArray):Prop:=
 ∀ (l:Nat) (J:List ByteArray→World→Prop) (W:World),Rd W→
  (∀ pre W1 W2,J pre W1→Turn bs W1 W2→J pre W2)→
  (∀ pre x W1,(pre++[x]) <+: xs→J pre W1→YieldAt Fence.wide 0 P l #[.string x] W1 fun e W'=>e= .returned (.bool true)∧J (pre++[x]) W'∧Kp W1 W')→
  J [] W→
  CallsIn Fence.wide 0 P g (#[.func (.yield l) #[] #[]]++lb) W fun e W'=>(∃ v,e= .returned v)∧J xs W'
def Yaa (B:Nat) (Kp:World→World→Prop) (I:List ByteArray→World→Prop) (xs:List ByteArray) (W:World):Exit→Act→World→Prop
 | .normal,_,W'=>KeepsOthers W W'∧Kp W W'∧I xs W'
 | _,_,_=>False
theorem Q6u {P:Program} {g:Operand} {pt:Tmp} {assign body:Code} {Q:Exit→Act→World→Prop} {a:Act} {w:World} {gf:Nat} {lb:Array Value}
    (hg:a.eval g= .func (.func gf) #[] lb) (eg: ∀ args w,(callFunc gf args).run P w= .ok (.enter gf args) w) {bs:Nat} (hbs:bs<w.heap.size)
    {Kp:World→World→Prop} {Rd:World→Prop} {xs:List ByteArray} (hseq:Yf8 P gf lb bs Kp Rd xs)
    (hRd: ∀ o o',Rd ((w.alloc o).alloc o'))
    (hKt: ∀ {A B C:World},Kp A B→Kp B C→Kp A C) (hKb: ∀ (W:World) (l:Nat) (o':Obj),w.heap.size≤l→Kp W (W.putObj l o'))
    (I:List ByteArray→World→Prop) (hI:OwnFrom w.heap.size I) (hIs: ∀ pre W W2,I pre W→Turn bs W W2→I pre W2) (h0:I [] w) (a₁:ByteArray→Act)
    (hassign: ∀ (l:Nat) (x:ByteArray) (W:World) (K:Act→World→Prop),K (a₁ x) W→
      assign.wpIn (Fence.wide.inRound l) 0 P (Exit.then K (fun _ _ _=>False)) ((bare a).put (some pt) (.string x)) W)
    (hbody: ∀ (l:Nat) (pre:List ByteArray) (x:ByteArray) (W:World),(pre++[x]) <+: xs→I pre W→body.wpIn (Fence.wide.inRound l) 0 P (Yaa w.heap.size Kp I (pre++[x]) W) (a₁ x) W)
    (hdone: ∀ (D:Nat) (W:World),w.heap.size≤D→I xs W→W.heap[D]?=some (.deferred (some []))→Q .normal { a with defers:={ target:= .collected D,args:= #[] }::a.defers } W):
    (Code.rangeFunc g #[pt] assign body).wp P Q a w:=by
  refine(wpIn_wide (n:=0)).1 (wpIn_rangeFunc ?_)
  intro fn hfn
  obtain⟨rec,hrec⟩: ∃ rec:LoopState→Option Code→Loop,rec=fun st pe=>{ state:=st,pending:=pe,fn,tmps:=a.tmps,params:= #[pt],assign,body,defers:=w.heap.size }:=⟨_,rfl⟩
  obtain⟨W1,hW1⟩: ∃ W1,(w.alloc (.deferred (some []))).alloc (.loop (rec .ready none))=W1:=⟨_,rfl⟩
  have hL1:W1.heap[w.heap.size+1]?=some (.loop (rec .ready none)):=by
    rw[←hW1];have:=World.alloc_heap_new (w.alloc (.deferred (some []))) (.loop (rec .ready none));rwa [World.size_alloc] at this
  have hK1:W1.heap[w.heap.size]?=some (.deferred (some [])):=by
    rw[←hW1];exact(Below.heap_alloc _ _ _ (by simp)).trans (World.alloc_heap_new w _)
  have hI1:I [] W1:=by rw[←hW1];exact hI.alloc _ (hI.alloc _ h0)
  refine⟨w.heap.size+1,[{ target:= .collected w.heap.size,args:= #[] }],W1,{ target:= .fn (.func gf) lb,args:= #[.func (.yield (w.heap.size+1)) #[] #[]] },W1,gf,
    #[.func (.yield (w.heap.size+1)) #[] #[]]++lb,W1,?_,?_,?_,?_,?_,?_⟩
  · rw[←hW1,hrec];exact run_enterLoop_outer _ _ _ _ _
  · simp only [resolve, hg]
    simp[go_sem]
  · intro f' hf';trivial
  · simp[invoke,go_sem,eg]
  · intro h;cases h
  · refine Q7i ((hseq (w.heap.size + 1)
      (fun pre W=>I pre W∧W.heap[w.heap.size+1]?=some (.loop (rec .ready none))∧W.heap[w.heap.size]?=some (.deferred (some [])))
      W1 (by rw[←hW1];exact hRd _ _)
      (fun pre W W2 hs ht=>⟨hIs _ _ _ hs.1 ht,(ht.2 _ (by omega)).trans hs.2.1,(ht.2 _ (by omega)).trans hs.2.2⟩)
      ?_ ⟨hI1,hL1,hK1⟩).mono ?_)
    · rintro pre x W hpx ⟨hi, hl, hk⟩
      have hlt:w.heap.size+1<W.heap.size:=(Array.getElem?_eq_some_iff.1 hl).1
      have hy:=run_yield (P:=P) (args:= #[Value.string x]) hl (by rw[hrec];rfl)
      rw[hrec] at hy
      refine⟨fn,_,assign,body,hy,roundIn_of_wpIn hfn ?_⟩
      rw[Yea]
      refine hassign _ x W _ ⟨_,run_beginRound hl (by rw[hrec]),?_⟩
      have hl2:(W.putObj (w.heap.size+1) (.loop { rec .ready none with state:= .busy })).heap[w.heap.size+1]?=some (.loop { rec .ready none with state:= .busy }):=World.putObj_heap_same hlt
      have hk2:(W.putObj (w.heap.size+1) (.loop { rec .ready none with state:= .busy })).heap[w.heap.size]?=some (.deferred (some [])):=(World.putObj_heap_other (by omega)).trans hk
      have hw2:Kp W (W.putObj (w.heap.size+1) (.loop { rec .ready none with state:= .busy })):=hKb _ _ _ (by omega)
      refine wpIn_mono (hbody _ pre x _ hpx (hI.putObj _ hi (by omega) hl rfl)) ?_
      rintro e a3 W3 hp
      cases e with
      | normal =>
        obtain⟨hk3,hkp3,hi3⟩:=hp
        have hl3:=hk3.same _ _ hl2 rfl
        have hr:=run_endRound (P:=P) none hl3
        rw[hrec] at hr hl3
        refine⟨_,_,hr,rfl,⟨hI.putObj _ hi3 (by omega) hl3 rfl,?_,?_⟩,hKt (hKt hw2 hkp3) (hKb _ _ _ (by omega))⟩
        · rw[hrec];exact World.putObj_heap_same (Array.getElem?_eq_some_iff.1 hl3).1
        · exact(World.putObj_heap_other (by omega)).trans (hk3.same _ _ hk2 rfl)
      | ret=>exact hp.elim
      | exit id=>exact hp.elim
      | goto t=>exact hp.elim
      | panic ch=>exact hp.elim
      | outgrown=>exact hp.elim
    · rintro e W2 ⟨⟨v, rfl⟩, hi, hl, hk⟩
      refine⟨none,_,by have:=run_endLoop (P:=P) hl (by rw[hrec];simp);rw[hrec] at this;exact this,hdone _ _ (Nat.le_refl _) (hI.putObj _ hi (by omega) hl rfl) ((World.putObj_heap_other (by omega)).trans hk)⟩
def Ydx (o:Oper):Bool:=match o.op with
 | .defer _=>false
 | _=>true
theorem Ydw {o : Oper} (h : Ydx o = true) : ∀ c, o.op ≠ .defer c := fun c e => by
 unfold Ydx at h
 rw[e] at h
 cases h
theorem Q6z {n:Nat} {P:Program} {row:String} {args:Array Value} {w:World} {R:Value→World→Prop} (h:Rows P row args w R):RowsIn Fence.wide n P row args w R:=fun c cs _=>
 let ⟨v,w',r,s⟩:=h c cs
 ⟨v,w',r,stepsIn_wide.2 s⟩
theorem Q6v {r n:Nat} {P:Program} {ops:Array Oper} {Q:Exit→Act→World→Prop} (hQ: ¬ LetsOut Q): ∀ (l:List Oper) (a:Act) (w:World),l.all Ydx=true→wpList P ops Q l a w→wpListIn (Fence.wide.inRound r) n P ops Q l a w:=by
 intro l
 induction l with
 | nil=>intro a w _ h;exact h
 | cons o rest ih =>
  intro a w hd h
  rw[List.all_cons,Bool.and_eq_true] at hd
  unfold wpList at h
  unfold wpListIn
  split
  ·rename_i hw
   rw[if_pos hw] at h
   rcases h with h | ⟨_,h⟩
   ·refine⟨fun _ _=>trivial,?_⟩
    rw[Oper.semAt_eq _ _ _ (Ydw hd.1)]
    unfold Oper.wp at h
    generalize (execOp a.eval o).run P w=res at h
    unfold Oper.upon at h
    unfold Oper.uponIn
    split at h
    ·exact ih _ _ hd.2 h
    ·exact ih _ _ hd.2 h
    ·exact ih _ _ hd.2 h
    ·refine⟨fun h=>(by cases h),CallsIn.inRound r (callsIn_wide.2 (h.mono ?_))⟩
     rintro (v | c | _) w2 h2
     ·exact ih _ _ hd.2 h2
     ·exact h2
     ·exact h2
    ·refine⟨fun h=>(by cases h),?_⟩
     show RowsIn Fence.wide _ _ _ _ _ _
     exact RowsIn.mono (Q6z h) fun v w2 h2=>ih _ _ hd.2 h2
    ·exact h
    ·exact h.elim
   ·exact absurd h hQ
  ·rename_i hw
   rw[if_neg hw] at h
   exact⟨fun _ _=>trivial,ih _ _ hd.2 h⟩
theorem Qoi {r n:Nat} {P:Program} {Q:Exit→Act→World→Prop} {a:Act} {w:World} {id:Nat} {l:List Oper} (hQ: ¬ LetsOut Q) (hd:l.all Ydx=true) (h:wpList P l.toArray Q l a w):(Code.region id l.toArray false).wpIn (Fence.wide.inRound r) n P Q a w:=
 wpIn_region_lit (Q6v hQ l a w hd h)
section
variable {n m:Nat} {ρ:List (Nat×Value)} {a:Act} {w:World} {P:Program} {ops:Array Oper} {Q:Exit→Act→World→Prop} {rest:List Oper} {ty:TypeId} {pos:String} {after:Array Edge} {d:Nat} {op:Op}
theorem Qxx (hE:Env n ρ a) {v:Value} (hy:Qb7 P a w op ty v) (hnd: ∀ c,op ≠ .defer c) (hd:Nat.blt d n=true) (k: ∀ a,Env n ((d,v)::ρ) a→wpListIn Fence.wide m P ops Q rest a w):
  wpListIn Fence.wide m P ops Q (⟨some d,op,ty,pos,after,none⟩::rest) a w:=by
 unfold wpListIn
 rw[if_pos (by simp[Region.wanted])]
 refine⟨fun _ _=>trivial,?_⟩
 rw[Oper.semAt_eq _ _ _ hnd,hy]
 exact k _ (hE.put hd v)
theorem Q8h (hE:Env n ρ a): ∀ {xs:List Operand} {vs:List Value},xs.map (ev? ρ)=vs.map some→xs.map a.eval=vs
 | [],[],_=>rfl
 | [],_::_,h=>by simp at h
 | _::_,[],h=>by simp at h
 | x :: xs, v :: vs, h => by
  simp only[List.map_cons,List.cons.injEq] at h
  rw[List.map_cons,hE.eval h.1,Q8h hE h.2]
theorem Q5l (hE:Env n ρ a) {x:Operand} {l:Nat} {xs:Array Operand} {ts:Array TypeId} {vs:List Value} {R:Ending→World→Prop}
    (hx:ev? ρ x=some (.func (.yield l) #[] #[])) (hxs:xs.toList.map (ev? ρ)=vs.map some) (hY:YieldAt Fence.wide m P l vs.toArray w R) (hd:Nat.blt d n=true)
    (hR: ∀ e w',R e w'→ ∃ v,e= .returned v) (k: ∀ v w',R (.returned v) w'→ ∀ a,Env n ((d,v)::ρ) a→wpListIn Fence.wide m P ops Q rest a w'):
    wpListIn Fence.wide m P ops Q (⟨some d,.call { callee:= .value x,args:=xs,argTypes:=ts },ty,pos,after,none⟩::rest) a w:=by
  obtain⟨fn,tmps,assign,body,hy,hr⟩:=hY
  have hm:xs.map a.eval=vs.toArray:=by
    apply Array.toList_inj.1
    rw[Array.toList_map,Q8h hE hxs]
  have hrun:(execOp a.eval ⟨some d,.call { callee:= .value x,args:=xs,argTypes:=ts },ty,pos,after,none⟩).run P w= .ok (.round l fn tmps assign body) w:=by
    simp[execOp,resolve,hm,hE.eval hx,Deferred.ofValue,invoke,hy]
  unfold wpListIn
  rw[if_pos (by simp[Region.wanted])]
  refine⟨fun _ _=>trivial,?_⟩
  rw[Oper.semAt_eq _ _ _ (by intro c h;cases h),hrun,Oper.uponIn_round]
  refine⟨fun h=>(by cases h),(Q60 hr).mono fun e w' h=>?_⟩
  obtain⟨v,rfl⟩:=hR e w' h
  exact k v w' h _ (hE.put hd v)
theorem Qzv (hE:Env n ρ a) {x:Operand} {t b:Nat} {v:Value} {T:TypeId} {fz:Nat×Nat} (hx:ev? ρ x=some (.pointer (some ⟨b,0,none⟩))) (h:w.heap[b]?=some (.cells #[v] T fz)) (ht:Qlc P t=true):Qb7 P a w (.load t x) ty v:=by
 intro _ _ _ _
 have hc:w.cell? ⟨b,0,none⟩=some v:=by simp[World.cell?,h]
 simp only[execOp,hE.eval hx,Instr.loadAt,Instr.sureAddr,Sem.run_bind,Sem.run_pure,Result.andThen_ok,Qpt hc ht]
theorem Ygo (hE:Env n ρ a) {x y:Operand} {t h:Nat} {s:ByteArray} {i:Int} (hx:ev? ρ x=some (.string s)) (hy:ev? ρ y=some (.int .i64 i)) (hi:i=(h:Int)) (hh:h≤s.size) (ht:P.underlying t=some .string):
  Qb7 P a w (.slice t x none (some y) none) ty (.string (s.extract 0 h)):=by
 subst hi
 intro _ _ _ _
 simp[execOp,hE.eval hx,hE.eval hy,Instr.sliceAt,Instr.slice,run_underlying ht,Instr.sliceBounds,Instr.sliceBound,asIntOf,hh]
theorem Ygn (hE:Env n ρ a) {x y:Operand} {t l:Nat} {s:ByteArray} {i:Int} (hx:ev? ρ x=some (.string s)) (hy:ev? ρ y=some (.int .i64 i)) (hi:i=(l:Int)) (hl:l≤s.size) (ht:P.underlying t=some .string):
  Qb7 P a w (.slice t x (some y) none none) ty (.string (s.extract l s.size)):=by
 subst hi
 intro _ _ _ _
 simp[execOp,hE.eval hx,hE.eval hy,Instr.sliceAt,Instr.slice,run_underlying ht,Instr.sliceBounds,Instr.sliceBound,asIntOf,hl]
theorem Q76 (hE:Env n ρ a) {t:TypeId} {x y:Operand} {v0 v:Value} {b:Nat} {T:TypeId} (hx:ev? ρ x=some (.pointer (some ⟨b,0,none⟩))) (hy:ev? ρ y=some v) (hrow:w.heap[b]?=some (.cells #[v0] T (0,0))) (hds:v.cells= #[v])
  (hsz: ∀ w,(sizeOf t).run P w= .ok 1 w) (h1:Value.oneCell' v=true) (K: ∀ w',Turn b w w'→w'.heap[b]?=some (.cells #[v] T (0,0))→ ∀ a,Env n ρ a→wpList P ops Q rest a w'):
  wpList P ops Q (⟨none,.store t x y,ty,pos,after,none⟩::rest) a w:=by
 refine wpList_plain rfl fun K' hK=>?_
 unfold Oper.wp
 have hst:=run_storeCells_at P b 0 T [v] 0 #[v0] w hrow (by simp) (fun u hu=>by rw[mem_singleton.1 hu];exact h1)
 have:(execOp a.eval ⟨none,.store t x y,ty,pos,after,none⟩).run P w= .ok .skip (w.setRow b #[v]):=by
  have hs:v.cells.size=1:=by rw[hds];rfl
  simp only[execOp,hE.eval hx,hE.eval hy,Instr.storeAt,Instr.sureAddr,storeVar,Sem.run_bind,Sem.run_pure,Result.andThen_ok,hsz,hs,ne_eq,not_true_eq_false,if_false]
  rw[hds,show(#[v]:Array Value).toList=[v] from rfl,hst]
  simp
 rw[this]
 exact hK _ _ (K (w.setRow b #[v]) ⟨⟨rfl,rfl,rfl,size_setRow _ _ _⟩,fun k hk=>setRow_other w b k _ hk⟩ (setRow_heap w b _ _ T _ hrow) _ (hE.put_none undef))
end
theorem Ylj {P:Program} {f:FuncId} {fn:Func} {c:Code} {n:Nat} {vs:List Value} {w:World} {R:Ending→World→Prop}
  (hf:P.funcs[f]?=some fn) (hb:fn.body=some c) (hn:fn.ntmps=n) (hl:vs.length≤n)
  (h: ∀ a,Env n (Q99 0 vs) a→c.wp P (bodyPostM Fence.wide 0 P fn R) a w):Calls P f vs.toArray w R:=by
 refine(callsIn_wide (n:=0)).1 (callsIn_of_wp_marks hf hb trivial (wpIn_wide.2 ?_) rfl)
 refine h _ ⟨?_,rfl,fun t v hv=>?_⟩
 ·simp[hn];omega
 ·obtain⟨_,h2⟩:=Q20 vs 0 t v hv
  simp only[Nat.sub_zero] at h2
  obtain⟨hlt,_⟩:=List.getElem?_eq_some_iff.1 h2
  simp[Array.getD_eq_getD_getElem?,Array.getElem?_append_left (show t<vs.toArray.size by simpa using hlt),h2]
theorem Ybe {P:Program} {n d:Nat} {ρ:List (Nat×Value)} {a:Act} {w:World} {ops:Array Oper} {Q:Exit→Act→World→Prop} {rest:List Oper} {op:Op} {ty:TypeId} {pos:String} {after:Array Edge} (hE:Env n ρ (bare a)) {v:Value} (hy:Qb7 P (bare a) w op ty v) (hd:Nat.blt d n=true)
  (k: ∀ a',a'.defers=a.defers→Env n ((d,v)::ρ) (bare a')→wpList P ops Q rest a' w):wpList P ops Q (⟨some d,op,ty,pos,after,none⟩::rest) a w:=by
 refine wpList_plain rfl fun K hK=>?_
 unfold Oper.wp
 rw[show a.eval=(bare a).eval from rfl,hy]
 exact hK _ _ (k (a.put (some d) v) rfl (hE.put hd v))
theorem SlO.oneB {w:World} {v:Value} {xs:List ByteArray} {F:List Nat} (h:SlO w v xs F): ∀ b∈F,∃ arr T fz,w.heap[b]?=some (.cells arr T fz):=by
 rcases Qhj.1 h with ⟨_,_,rfl⟩ | ⟨g,cap,arr,T,Fs,_,hg,_,_,_,rfl,hE⟩
 ·intro b hb
  cases hb
 ·have hFs:Fs.flatten=[]:=by
   rw[List.flatten_eq_nil_iff]
   intro G hG
   obtain⟨i,hi⟩:=List.mem_iff_getElem?.1 hG
   have hlt:i<xs.length:=by rw[←hE.1];exact(List.getElem?_eq_some_iff.1 hi).1
   obtain⟨G',hG',ho⟩:=hE.2 i _ (getElem?_eq_getElem hlt)
   rw[hi] at hG'
   cases hG'
   exact ho.2
  rw[hFs]
  intro b hb
  obtain rfl:=mem_singleton.1 hb
  exact⟨_,_,_,hg⟩
end
section
def Qma (s:ByteArray):List ByteArray:=Lib.splitB ⟨#[10]⟩ 1 (Lib.countB s ⟨#[10]⟩) s
def Q06 (bsep bs bn:Nat) (s:ByteArray) (W:World):Prop:=W.heap[bsep]?=some (.cells #[.string ⟨#[10]⟩] 9 (0,0))∧W.heap[bs]?=some (.cells #[.string s] 9 (0,0))∧W.heap[bn]?=some (.cells #[.int .i64 1] 3 (0,0))
def KpB (bsep bs bn:Nat) (W W':World):Prop:=W'.heap[bsep]?=W.heap[bsep]?∧W'.heap[bs]?=W.heap[bs]?∧W'.heap[bn]?=W.heap[bn]?
theorem Q06.keep {bsep bs bn:Nat} {s:ByteArray} {W W':World} (h:Q06 bsep bs bn s W) (k:KpB bsep bs bn W W'):Q06 bsep bs bn s W':=⟨k.1.trans h.1,k.2.1.trans h.2.1,k.2.2.trans h.2.2⟩
theorem Q06.turn {bsep bs bn:Nat} {s s':ByteArray} {W W':World} (h:Q06 bsep bs bn s W) (h1:bsep≠bs) (h2:bn≠bs) (k:Turn bs W W') (e:W'.heap[bs]?=some (.cells #[.string s'] 9 (0,0))):Q06 bsep bs bn s' W':=
 ⟨(k.2 _ h1).trans h.1,e,(k.2 _ h2).trans h.2.2⟩
theorem Yd3 (txt:ByteArray) (hz:txt.size≤1048576) {bsep bs bn:Nat} (h1:bsep≠bs) (h2:bn≠bs):
  Yf8 Tryz.prog 263 #[.pointer (some ⟨bsep,0,none⟩),.pointer (some ⟨bs,0,none⟩),.pointer (some ⟨bn,0,none⟩)] bs (KpB bsep bs bn) (Q06 bsep bs bn txt) (Qma txt):=by
 intro l J W hB hJs hY h0
 refine callsIn_wide.2 ?_
 refine enter (vs:=[.func (.yield l) #[] #[],.pointer (some ⟨bsep,0,none⟩),.pointer (some ⟨bs,0,none⟩),.pointer (some ⟨bn,0,none⟩)]) Tryz.func263 rfl Tryz.ntmps263 (Nat.le_of_ble_eq_true rfl) ?_
 intro a0 hE0
 refine wp_seq (wp_seq (wp_region_lit ?_))
 refine Qa1 hE0 (Qzv hE0 rfl hB.1 (by kernel_rfl)) rfl fun a1 hE1=>Qa1 hE1 (Qm0 hE1 rfl Tryz.underlying9) rfl fun a2 hE2=>Qa1 hE2 (Ygm hE2 rfl rfl) rfl fun a3 hE3=>wpList_nil ?_
 refine Qap ?_
 refine Qjt hE3 rfl (fun hb=>absurd hb (by decide)) (fun _=>?_)
 refine wp_skip ?_
 refine Qap ?_
 refine wp_seq (wp_block (wp_loop_ghost (fun k a w2=> ∃ (cur:ByteArray) (pre:List ByteArray),Lib.countB cur ⟨#[10]⟩=k∧pre++Lib.splitB ⟨#[10]⟩ 1 k cur=Qma txt∧cur.size≤1048576∧Env 52 [(0,.func (.yield l) #[] #[]),(1,.pointer (some ⟨bsep,0,none⟩)),(2,.pointer (some ⟨bs,0,none⟩)),(3,.pointer (some ⟨bn,0,none⟩))] a∧Q06 bsep bs bn cur w2∧J pre w2) (Lib.countB txt ⟨#[10]⟩) ⟨txt,[],rfl,rfl,hz,hE3.weaken ⟨rfl,rfl,rfl,rfl,trivial⟩,hB,h0⟩ ?_))
 rintro k a4 w4 ⟨cur,pre,hk,hp,hc,hE4,hB4,hJ4⟩
 refine wp_block (wp_seq (wp_region_lit ?_))
 refine Qa1 hE4 (Qzv hE4 rfl hB4.2.1 (by kernel_rfl)) rfl fun a5 hE5=>Qa1 hE5 (Qzv hE5 rfl hB4.1 (by kernel_rfl)) rfl fun a6 hE6=>Qxw hE6 Tryz.func265 (by kernel_rfl) (by kernel_rfl) (vs:=[.string cur,.string ⟨#[10]⟩]) rfl (Tryz.strings_Index_one cur 10 w4) rfl (fun _ _ h=>⟨_,h.1⟩) fun v w5 h5 a7 hE7=>?_
 obtain⟨h5,rfl⟩:=h5
 obtain rfl:v= .int .i64 (Lib.indexB cur ⟨#[10]⟩):=by
  injection h5 with h5
  rw[h5]
  show _=Value.int .i64 (Lib.index cur.data.toList [10])
  rw[Lib.index_one]
 refine Qa1 hE7 (Qdd hE7 rfl) rfl fun a8 hE8=>wpList_nil ?_
 refine Qap ?_
 refine wp_seq (wp_seq (wp_region_lit ?_))
 refine Qa1 hE8 (Qez hE8 rfl) rfl fun a9 hE9=>Qa1 hE9 (Ya5 hE9 rfl rfl) rfl fun a10 hE10=>wpList_nil ?_
 refine Qap ?_
 refine Qjt hE10 rfl (fun hb=>?_) (fun hb=>?_)
 ·have hneg:=of_decide_eq_true hb
  have hm:Lib.indexB cur ⟨#[10]⟩= -1:=by
   rcases Lib.indexB_cases cur ⟨#[10]⟩ with h | ⟨i,h,_⟩
   ·exact h
   ·omega
  refine wp_exit ?_
  refine Qse ?_
  refine Yen rfl ?_
  refine Qse ?_
  refine Q8y ?_
  refine Qap ?_
  refine(wpIn_wide (n:=0)).1 (wpIn_region_lit ?_)
  refine Qxx hE10 (Qez hE10 rfl) (by intro c h;cases h) rfl fun a11 hE11=>Qxx hE11 (Qzv hE11 rfl hB4.2.1 (by kernel_rfl)) (by intro c h;cases h) rfl fun a12 hE12=>?_
  refine Q5l hE12 (vs:=[.string cur]) rfl rfl (hY pre cur w5 ⟨[],by rw[append_nil,←hp,Lib.splitB_miss _ _ _ _ hm]⟩ hJ4) rfl (fun e w' h=>⟨_,h.1⟩) fun v w6 h a13 hE13=>wpListIn_nil ?_
  have hx:pre++[cur]=Qma txt:=by rw[←hp,Lib.splitB_miss _ _ _ _ hm]
  exact⟨hE13.defers,.tuple #[],results_none rfl _ _ _,⟨_,rfl⟩,hx▸h.2.1⟩
 ·have hpos:=of_decide_eq_false hb
  obtain⟨i,hi,hroom⟩: ∃ i:Nat,Lib.indexB cur ⟨#[10]⟩=i∧i+1≤cur.size:=by
   rcases Lib.indexB_cases cur ⟨#[10]⟩ with h | h
   ·omega
   ·exact h
  rw[hi] at hE10
  have hcnt:=Lib.countB_hit cur ⟨#[10]⟩ i (Nat.le_refl _) hi
  have hc1:Lib.countB (cur.extract (i+1) cur.size) ⟨#[10]⟩+1=k:=by rw[←hk,hcnt];exact Nat.add_comm _ _
  have hp2:(pre++[cur.extract 0 (i+1)])++Lib.splitB ⟨#[10]⟩ 1 (Lib.countB (cur.extract (i+1) cur.size) ⟨#[10]⟩) (cur.extract (i+1) cur.size)=Qma txt:=by
   rw[←hp,←hc1,Lib.splitB_hit _ _ _ _ i hi,append_assoc]
   rfl
  have hpre:(pre++[cur.extract 0 (i+1)]) <+: Qma txt:=⟨_,hp2⟩
  refine wp_skip ?_
  refine Qap ?_
  refine wp_seq (wp_region_lit ?_)
  refine Qa1 hE10 (Qzv hE10 rfl hB4.2.1 (by kernel_rfl)) rfl fun a11 hE11=>Qa1 hE11 (Qez hE11 rfl) rfl fun a12 hE12=>Qa1 hE12 (Qzv hE12 rfl hB4.2.2 (by kernel_rfl)) rfl fun a13 hE13=>Qa1 hE13 (Q7z hE13 rfl rfl (m:=((i+1:Nat):Int)) (by omega) (by omega) (by omega)) rfl fun a14 hE14=>Qa1 hE14 (Ygo hE14 rfl rfl rfl hroom Tryz.underlying9) rfl fun a15 hE15=>Qa1 hE15 (Qdd hE15 rfl) rfl fun a16 hE16=>wpList_nil ?_
  refine Qap ?_
  refine wp_seq (wp_seq ((wpIn_wide (n:=0)).1 (wpIn_region_lit ?_)))
  refine Qxx hE16 (Qez hE16 rfl) (by intro c h;cases h) rfl fun a17 hE17=>Qxx hE17 (Qez hE17 rfl) (by intro c h;cases h) rfl fun a18 hE18=>?_
  refine Q5l hE18 (vs:=[.string (cur.extract 0 (i+1))]) rfl rfl (hY pre _ w5 hpre hJ4) rfl (fun e w' h=>⟨_,h.1⟩) fun v w6 h a19 hE19=>?_
  obtain⟨hv,hJ6,hK6⟩:=h
  obtain rfl:v= .bool true:=by injection hv
  have hB6:=hB4.keep hK6
  refine Qxx hE19 (Yhr hE19 rfl) (by intro c h;cases h) rfl fun a20 hE20=>wpListIn_nil ?_
  refine Qap ?_
  refine Qjt hE20 rfl (fun hb=>absurd hb (by decide)) (fun _=>?_)
  refine wp_skip ?_
  refine Qap ?_
  refine wp_region_lit ?_
  refine Qa1 hE20 (Qzv hE20 rfl hB6.2.1 (by kernel_rfl)) rfl fun a21 hE21=>Qa1 hE21 (Qez hE21 rfl) rfl fun a22 hE22=>Qa1 hE22 (Qzv hE22 rfl hB6.1 (by kernel_rfl)) rfl fun a23 hE23=>Qa1 hE23 (Qm0 hE23 rfl Tryz.underlying9) rfl fun a24 hE24=>Qa1 hE24 (Q7z hE24 rfl rfl (m:=((i+1:Nat):Int)) (show(i:Int)+1=_ by omega) (by omega) (by omega)) rfl fun a25 hE25=>Qa1 hE25 (Ygn hE25 rfl rfl rfl hroom Tryz.underlying9) rfl fun a26 hE26=>?_
  refine Q76 hE26 rfl rfl hB6.2.1 rfl Tryz.sizeOf9 rfl fun w7 ht hrow a27 hE27=>wpList_nil ?_
  refine⟨Lib.countB (cur.extract (i+1) cur.size) ⟨#[10]⟩,by omega,cur.extract (i+1) cur.size,pre++[cur.extract 0 (i+1)],rfl,?_,?_,hE27.weaken ⟨rfl,rfl,rfl,rfl,trivial⟩,hB6.turn h1 h2 ht hrow,hJs _ _ _ hJ6 ht⟩
  ·exact hp2
  ·rw[ByteArray.size_extract]
   omega
end
end Go.Proofs.YtppialklomgajaaGreatDoor.Fw
