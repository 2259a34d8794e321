/-
  The texts RL, RC, U8, PX, UA, PY, UB, Am27, Am28, Am29, Am30, BXS, Sy9, V1, PV, V2, Am31, Am32, Sy10, V3, PZ, S1, S2, S3, V4, V5, BXE, V6, V7, VQ, V8, XK, Sy12, Sy13 of this proof, one behind the other: what each proves stands at its head. No condition.
-/
import Derived.RangeFuncLeaves
import Derived.Lib.ShelfFacts
import Derived.Lib.AppendZeros
import Derived.Shelf.RegionOpenPlain
import Derived.WalkKit
import Derived.Lib.SliceRun
import Derived.Laws.Externs
import Derived.KernelRfl
import Derived.Test.YtppialklomgajaaGreatDoorFTA
import Derived.Test.YtppialklomgajaaGreatDoorFTB
import Derived.Test.YtppialklomgajaaGreatDoorFTC
set_option linter.unusedVariables false
set_option linter.unusedSimpArgs false
set_option maxRecDepth 100000
namespace Go.Proofs.YtppialklomgajaaGreatDoor.Fw
open Go.RowKit
open IntKind (i64)
open List (append_nil nil_append length_append length_nil length_cons mem_singleton append_assoc length_take getElem?_eq_getElem mem_of_getElem? flatMap_cons mem_cons_of_mem mem_flatMap length_set getElem?_drop flatMap_nil length_singleton)
section
theorem Yap (s : ByteArray) (w : World) : Calls Tryz.prog 240 ([.string s, .string ⟨#[10]⟩, .int .i64 1] : List Value).toArray w (fun e w' => ∃ b1 b2 b3,
    e= .returned (.func (.func 263) #[] #[.pointer (some ⟨b1,0,none⟩),.pointer (some ⟨b2,0,none⟩),.pointer (some ⟨b3,0,none⟩)])∧b1≠b2∧b3≠b2∧
    (∀ b,b=b1∨b=b2∨b=b3→w.heap.size≤b∧b<w'.heap.size)∧Q06 b1 b2 b3 s w'∧Below w.heap.size w w'):=by
  refine enter Tryz.func240 rfl Tryz.ntmps240 (Nat.le_of_ble_eq_true rfl) ?_
  intro a0 hE0
  have hS0:=SH.start w
  refine wp_seq (wp_region_lit ?_)
  refine Ybc hE0 hS0 (cs:=[.string s]) rfl rfl rfl fun b2 w1 hS1 a1 hE1=>?_
  refine Ybc hE1 hS1 (cs:=[.string ⟨#[10]⟩]) rfl rfl rfl fun b1 w2 hS2 a2 hE2=>?_
  refine Ybc hE2 hS2 (cs:=[.int .i64 1]) rfl rfl rfl fun b3 w3 hS3 a3 hE3=>?_
  refine Qa1 hE3 (Qdd hE3 rfl) rfl fun a4 hE4=>wpList_nil ?_
  refine Qap ?_
  refine wp_seq (wp_region_lit ?_)
  refine Qa1 hE4 (Q2a hE4 (vs:=[.pointer (some ((⟨b1,0,none⟩:Addr).add 0)),.pointer (some ((⟨b2,0,none⟩:Addr).add 0)),.pointer (some ((⟨b3,0,none⟩:Addr).add 0))]) rfl) rfl fun a5 hE5=>Qa1 hE5 (Qdd hE5 rfl) rfl fun a6 hE6=>wpList_nil ?_
  refine Qap ?_
  refine wp_ret ?_
  refine fin1 hE6 rfl rfl ?_
  have hap:=hS3.apart
  simp only[flatMap_cons,flatMap_nil,Ck.var,append_nil,List.cons_append,nil_append,List.nodup_cons,List.mem_cons,List.not_mem_nil,or_false,not_or] at hap
  have hge:=hS3.ge
  have g3:=hge _ (List.mem_cons_self) b3 (by simp[Ck.var])
  have g1:=hge _ (mem_cons_of_mem _ List.mem_cons_self) b1 (by simp[Ck.var])
  have g2:=hge _ (mem_cons_of_mem _ (mem_cons_of_mem _ List.mem_cons_self)) b2 (by simp[Ck.var])
  refine⟨b1,b2,b3,by simp only[Addr.add_zero'],hap.2.1,hap.1.2,?_,⟨hS3.get (k:=1) rfl,hS3.get (k:=2) rfl,hS3.get (k:=0) rfl⟩,hS3.below⟩
  have q:=fun b (h: ¬ Old w b)=>Nat.le_of_not_lt h
  rintro b (rfl | rfl | rfl)
  · exact⟨q _ g1.1,g1.2⟩
  · exact⟨q _ g2.1,g2.2⟩
  · exact⟨q _ g3.1,g3.2⟩
theorem Qzi (s : ByteArray) (w : World) : Calls Tryz.prog 215 ([.string s, .string ⟨#[10]⟩] : List Value).toArray w (fun e w' => ∃ b1 b2 b3,
    e= .returned (.func (.func 263) #[] #[.pointer (some ⟨b1,0,none⟩),.pointer (some ⟨b2,0,none⟩),.pointer (some ⟨b3,0,none⟩)])∧b1≠b2∧b3≠b2∧
    (∀ b,b=b1∨b=b2∨b=b3→w.heap.size≤b∧b<w'.heap.size)∧Q06 b1 b2 b3 s w'∧Below w.heap.size w w'):=by
  refine enter Tryz.func215 rfl Tryz.ntmps215 (Nat.le_of_ble_eq_true rfl) ?_
  intro a0 hE0
  refine wp_seq (wp_region_lit ?_)
  refine Qa1 hE0 (Qdd hE0 rfl) rfl fun a1 hE1=>wpList_nil ?_
  refine Qap ?_
  refine wp_seq (wp_region_lit ?_)
  refine Qa1 hE1 (Qez hE1 rfl) rfl fun a2 hE2=>Qa1 hE2 (Qez hE2 rfl) rfl fun a3 hE3=>Qa1 hE3 (Qez hE3 rfl) rfl fun a4 hE4=>Qa1 hE4 (Qm0 hE4 rfl Tryz.underlying9) rfl fun a5 hE5=>?_
  refine Qxw hE5 Tryz.func240 (by kernel_rfl) (by kernel_rfl) (vs:=[.string s,.string ⟨#[10]⟩,.int .i64 1]) rfl (Yap s w) rfl (fun _ _ ⟨_,_,_,h,_⟩=>⟨_,h⟩) fun v w2 h2 a6 hE6=>?_
  obtain⟨b1,b2,b3,hv,h⟩:=h2
  injection hv with hv
  subst hv
  refine Qa1 hE6 (Qdd hE6 rfl) rfl fun a7 hE7=>wpList_nil ?_
  refine Qap ?_
  refine wp_ret ?_
  refine fin1 hE7 rfl rfl ?_
  exact⟨b1,b2,b3,rfl,h⟩
def Qmf (xs:List ByteArray):List ByteArray:=xs.filter fun x=>Lib.hasSuffix x.data.toList [10]
theorem Yae (xs : List ByteArray) (x : ByteArray) : Qmf (xs ++ [x]) = bif Lib.hasSuffix x.data.toList [10] then Qmf xs ++ [x] else Qmf xs := by
 unfold Qmf
 rw[List.filter_append]
 cases h:Lib.hasSuffix x.data.toList [10]
 ·rw[List.filter_cons_of_neg (by rw[h];decide),List.filter_nil,append_nil]
  rfl
 ·rw[List.filter_cons_of_pos (by exact h),List.filter_nil]
  rfl
def LInv (w0:World) (B0 o b1 b2 b3:Nat) (pre:List ByteArray) (W:World):Prop:=
 ∃ v F,W.heap[o]?=some (.cells #[v] 30 (0,0))∧SlO W v (Qmf pre) F∧F.Nodup∧(∀ b∈F,w0.heap.size≤b∧b≠o∧b≠b1∧b≠b2∧b≠b3)∧B0≤W.heap.size∧Below w0.heap.size w0 W
theorem LInv.cells {w0:World} {B0 o b1 b2 b3:Nat} {pre:List ByteArray} {W W':World} (h:LInv w0 B0 o b1 b2 b3 pre W) (hk: ∀ b arr T fz,W.heap[b]?=some (.cells arr T fz)→b≠b2→W'.heap[b]?=W.heap[b]?) (ho:o≠b2) (hsz:W.heap.size≤W'.heap.size) (hB:Below w0.heap.size w0 W'):LInv w0 B0 o b1 b2 b3 pre W':=by
 obtain⟨v,F,h1,h2,h3,h4,h0,h5⟩:=h
 refine⟨v,F,(hk _ _ _ _ h1 ho).trans h1,h2.same fun b hb=>?_,h3,h4,Nat.le_trans h0 hsz,hB⟩
 obtain⟨arr,T,fz,hc⟩:=h2.oneB b hb
 exact hk b arr T fz hc (h4 b hb).2.2.2.1
theorem Q2j (s:ByteArray):(Qma s).length≤s.size+1:=by
 have:=Lib.countB_le ⟨#[10]⟩ (Nat.le_refl _) s.size s (Nat.le_refl _)
 unfold Qma
 rw[Lib.splitB_all ⟨#[10]⟩ (Nat.le_refl _) 1 _ s rfl]
 omega
theorem Qv9 (sep:ByteArray): ∀ (k:Nat) (s:ByteArray),∀ x∈Lib.splitB sep 1 k s,x.size≤s.size
 | 0, s => fun x hx => by
  obtain rfl:=mem_singleton.1 hx
  exact Nat.le_refl _
 | k + 1, s => fun x hx => by
  rcases Lib.indexB_cases s sep with h | ⟨i,h,_⟩
  ·rw[Lib.splitB_miss sep 1 (k+1) s h] at hx
   obtain rfl:=mem_singleton.1 hx
   exact Nat.le_refl _
  ·rw[Lib.splitB_hit sep 1 k s i h] at hx
   rcases List.mem_cons.1 hx with rfl | hx
   ·rw[ByteArray.size_extract]
    omega
   ·have:=Qv9 sep k _ x hx
    rw[ByteArray.size_extract] at this
    omega
theorem Ygt:Qeh Tryz.prog 30 9 1 16=true:=by kernel_rfl
theorem Yct (txt:ByteArray) (hz:txt.size≤1048576) (w:World):Calls Tryz.prog 161 ([.string txt]:List Value).toArray w (fun e w'=> ∃ v F,e= .returned v∧SlO w' v (Qmf (Qma txt)) F∧F.Nodup∧(∀ b∈F,w.heap.size≤b)∧Below w.heap.size w w'):=by
  refine Ylj Tryz.func161 rfl Tryz.ntmps161 (Nat.le_of_ble_eq_true rfl) ?_
  intro a0 hE0
  have hS0:=SH.start w
  refine wp_seq (wp_region_lit ?_)
  refine Qa1 hE0 (Qdd hE0 rfl) rfl fun a1 hE1=>wpList_nil ?_
  refine Qap ?_
  refine wp_seq (wp_region_lit ?_)
  refine Ydl hE1 hS0 (cs:=[.slice none 0 0]) Tryz.zeroValue30 rfl rfl fun o w1 hS1 a2 hE2=>wpList_nil ?_
  have ho:w.heap.size≤o∧o<w1.heap.size:=by
    have:=hS1.ge _ (List.mem_cons_self) o (by simp[Ck.var])
    exact⟨Nat.le_of_not_lt this.1,this.2⟩
  have hcell:=hS1.get (k:=0) rfl
  have hB1:=hS1.below
  rw[Addr.add_zero'] at hE2
  refine Qap ?_
  refine wp_seq (wp_seq (wp_region_lit ?_))
  refine Qa1 hE2 (Qez hE2 rfl) rfl fun a3 hE3=>?_
  refine Qxw hE3 Tryz.func215 (by kernel_rfl) (by kernel_rfl) (vs:=[.string txt,.string ⟨#[10]⟩]) rfl (Qzi txt w1) rfl (fun _ _ ⟨_,_,_,h,_⟩=>⟨_,h⟩) fun v w2 h2 a4 hE4=>wpList_nil ?_
  obtain⟨b1,b2,b3,hv,h12,h32,hge,hBx,hB2⟩:=h2
  injection hv with hv
  subst hv
  have g1:=hge b1 (.inl rfl)
  have g2:=hge b2 (.inr (.inl rfl))
  have g3:=hge b3 (.inr (.inr rfl))
  have hB02:Below w.heap.size w w2:=hB1.trans (hB2.mono hB1.size)
  refine Qap ?_
  refine wp_block ?_
  have hI0:LInv w w2.heap.size o b1 b2 b3 [] w2:=⟨.slice none 0 0,[],(hB2.block o ho.2).trans hcell,.inl ⟨rfl,rfl,rfl⟩,List.nodup_nil,fun b hb=>(by cases hb),Nat.le_refl _,hB02⟩
  refine Q6u (hE4.eval (x:= .tmp 6) rfl) (enters_of Tryz.func263 (by kernel_rfl) rfl) (bs:=b2) g2.2 (Yd3 txt hz h12 h32) (fun u u'=>?_) (fun h k=>⟨k.1.trans h.1,k.2.1.trans h.2.1,k.2.2.trans h.2.2⟩) (fun W l o' hl=>?_) (LInv w w2.heap.size o b1 b2 b3) ?_ ?_ hI0
    (fun x=>((bare a4).put (some 7) (.string x)).put (some 4) (.string x)) ?_ ?_ ?_
  · have hk : ∀ b, b < w2.heap.size → ((w2.alloc u).alloc u').heap[b]? = w2.heap[b]? := fun b hb => (Below.heap_alloc _ _ _ (by rw [World.size_alloc]; omega)).trans (Below.heap_alloc _ _ _ hb)
    exact⟨(hk _ g1.2).trans hBx.1,(hk _ g2.2).trans hBx.2.1,(hk _ g3.2).trans hBx.2.2⟩
  · exact⟨World.putObj_heap_other (by omega),World.putObj_heap_other (by omega),World.putObj_heap_other (by omega)⟩
  · intro pre W W' row hi hg hr
    have hB:=ownFrom_below (β:=List ByteArray) (n₀:=w.heap.size) (B:=w2.heap.size) (w₀:=w) (Nat.le_refl _) hB02.size pre W W' row hi.choose_spec.choose_spec.2.2.2.2.2 hg hr
    refine hi.cells (fun b arr T fz hc _=>hg.block b (Array.getElem?_eq_some_iff.1 hc).1 fun e=>?_) (by omega) hg.size hB
    obtain⟨_,o',ho',hn⟩:=hr b e.symm
    rw[hc] at ho'
    cases ho'
    cases hn
  · intro pre W W2 hi ht
    exact hi.cells (fun b arr T fz _ hne=>ht.2 b hne) (by omega) (Nat.le_of_eq ht.1.2.2.2.symm) (ht.below (by omega) hi.choose_spec.choose_spec.2.2.2.2.2)
  · intro l x W K hK
    have hE5:Env 15 _ ((bare a4).put (some 7) (.string x)):=(show Env 15 _ (bare a4) from⟨hE4.size,rfl,hE4.get⟩).put (d:=7) rfl (.string x)
    refine Qoi (fun⟨_,_,h⟩=>h) rfl ?_
    refine wpList_plain rfl fun K' hK'=>?_
    unfold Oper.wp
    rw[(Qdd (P:=Tryz.prog) (w:=W) (ty:=9) hE5 (x:= .tmp 7) (v:= .string x) rfl:Qb7 _ _ _ _ _ _)]
    exact hK' _ _ (wpList_nil hK)
  · intro l pre x W hp hi
    obtain⟨v,F,hc,hs,hnd,hF,hbx,hB⟩:=hi
    have hE5:Env 15 _ (((bare a4).put (some 7) (.string x)).put (some 4) (.string x)):=((show Env 15 _ (bare a4) from⟨hE4.size,rfl,hE4.get⟩).put (d:=7) rfl (.string x)).put (d:=4) rfl (.string x)
    generalize ((bare a4).put (some 7) (.string x)).put (some 4) (.string x)=a5 at hE5 ⊢
    have hx:x.size≤txt.size:=Qv9 _ _ _ _ (hp.subset (by simp))
    have hl:pre.length+1≤txt.size+1:=by
      have:=hp.length_le
      have h2:=Q2j txt
      rw[length_append,length_singleton] at this
      omega
    have hkl:(Qmf pre).length≤pre.length:=List.length_filter_le _ _
    refine wpIn_block (wpIn_seq (Qoi (fun⟨_,_,h⟩=>h) rfl ?_))
    refine Qa1 hE5 (Qez hE5 rfl) rfl fun a6 hE6=>?_
    refine Qxw hE6 Tryz.func216 (by kernel_rfl) (by kernel_rfl) (vs:=[.string x,.string ⟨#[10]⟩]) rfl (Tryz.strings_HasSuffix x ⟨#[10]⟩ W (by omega)) rfl (fun _ _ h=>⟨_,h.1⟩) fun v2 W2 h2 a7 hE7=>wpList_nil ?_
    obtain⟨h2,rfl⟩:=h2
    injection h2 with h2
    subst h2
    refine Qap ?_
    have hks:=Yae pre x
    refine wpIn_cond_split (hE7.eval rfl) (fun hb=>?_) (fun hb=>?_)
    · have hks : Qmf (pre ++ [x]) = Qmf pre ++ [x] := by rw [hks, show Lib.hasSuffix x.data.toList [10] = true from hb]; rfl
      have hfr:=hs.form
      obtain⟨A,cap,rfl,hcap⟩:=hfr
      have hS:SH (Off [Ck.own (α:=List ByteArray) [.slice A (Qmf pre).length cap] (Qmf pre) F] W2) W2 W2 [Ck.own (α:=List ByteArray) [.slice A (Qmf pre).length cap] (Qmf pre) F]:=
        ⟨Keep.refl _ _, fun b hb => hb.1, fun c hc w' hsm => by
            obtain rfl:=mem_singleton.1 hc
            exact⟨_,rfl,hs.same hsm⟩,
          fun c hc b hb => by
            obtain rfl:=mem_singleton.1 hc
            exact⟨fun ho=>ho.2 (mem_flatMap.2 ⟨_,List.mem_singleton_self _,hb⟩),hs.lt b hb⟩,
          by rw[flatMap_cons,flatMap_nil,append_nil];exact hnd⟩
      refine Qoi (fun⟨_,_,h⟩=>h) rfl ?_
      refine Qa1 hE7 (Qzv hE7 rfl hc (by kernel_rfl)) rfl fun a8 hE8=>Qa1 hE8 (Qez hE8 rfl) rfl fun a9 hE9=>?_
      refine Ybb (is:=[0]) (vs:=[.string x]) (cs:=[.string x]) (e:=9) hE9 hS rfl rfl (by kernel_rfl) rfl fun b21 w21 hS21 a22 hE22=>?_
      refine Ybd (α:=ByteArray) (ys:=[x]) (k:=1) hE22 hS21 Ygt Tryz.zeroValue9 rfl rfl rfl rfl (hS21.src (k:=0) rfl 1 1) rfl (Qwn.2 rfl) (fun i u h=>match i,u,h with | 0,_,h=>(by cases h;exact⟨⟨rfl,(by show x.size≤maxLen;unfold maxLen;omega)⟩,rfl⟩) | j+1,_,h=>(by simp at h)) (by simp only[length_cons,length_nil];omega) (by simp only[length_cons,length_nil];omega) rfl fun A23 cp23 F23 w23 hS23 a24 hE24=>?_
      have hoff: ∀ k,k<W2.heap.size→k ∉ F→w23.heap[k]?=W2.heap[k]?:=fun k hk hn=>hS23.keep.block k ⟨hk,by rw[flatMap_cons,flatMap_nil,append_nil];exact hn⟩
      have hge2:=fun b hb=>hS23.ge _ (mem_cons_of_mem _ List.mem_cons_self) b hb
      have hnd2:F23.Nodup:=hS23.nd (k:=1) rfl
      have hs23:=hS23.slO (k:=1) rfl
      have hnew : ∀ b ∈ F23, b ∈ F ∨ W2.heap.size ≤ b := fun b hb => by
        have hno:=(hge2 b hb).1
        by_cases hbF:b∈F
        · exact .inl hbF
        · refine .inr (Nat.le_of_not_lt fun hlt => hno ⟨hlt, ?_⟩)
          rw[flatMap_cons,flatMap_nil,append_nil]
          exact hbF
      have lt_o:o<W2.heap.size:=(Array.getElem?_eq_some_iff.1 hc).1
      have hoF:o ∉ F:=fun h=>(hF o h).2.1 rfl
      refine Q76 hE24 rfl rfl ((hoff o lt_o hoF).trans hc) rfl Tryz.sizeOf30 rfl fun w25 ht hrow a27 hE27=>wpList_nil ?_
      have hF23 : ∀ b ∈ F23, w.heap.size ≤ b ∧ b ≠ o ∧ b ≠ b1 ∧ b ≠ b2 ∧ b ≠ b3 := fun b hb => by
        rcases hnew b hb with h | h
        · exact hF b h
        · exact⟨by omega,by omega,by omega,by omega,by omega⟩
      have hall: ∀ k,k<W2.heap.size→k ∉ F→k≠o→w25.heap[k]?=W2.heap[k]?:=fun k hk hn hne=>(ht.2 k hne).trans (hoff k hk hn)
      refine⟨⟨?_,?_⟩,⟨?_,?_,?_⟩,?_⟩
      · rw[ht.1.2.2.2];exact hS23.keep.size
      · intro k o' hk hno
        have hlt:=(Array.getElem?_eq_some_iff.1 hk).1
        refine(hall k hlt (fun h=>?_) (fun e=>?_)).trans hk
        · obtain ⟨arr, T, fz, hcc⟩ := hs.oneB k h
          rw[hcc] at hk
          cases hk
          cases hno
        · subst e
          rw[hc] at hk
          cases hk
          cases hno
      · exact hall b1 (by omega) (fun h=>(hF b1 h).2.2.1 rfl) (by omega)
      · exact hall b2 (by omega) (fun h=>(hF b2 h).2.2.2.1 rfl) (by omega)
      · exact hall b3 (by omega) (fun h=>(hF b3 h).2.2.2.2 rfl) (by omega)
      · unfold LInv
        rw[hks]
        refine⟨_,F23,hrow,hs23.same fun b hb=>ht.2 b (hF23 b hb).2.1,hnd2,hF23,by rw[ht.1.2.2.2];exact Nat.le_trans hbx hS23.keep.size,ht.below ho.1 (hB.trans ⟨hS23.keep.os,hS23.keep.tape,hS23.keep.output,hS23.keep.size,fun k hk=>hoff k (by have:=hB.size;omega) fun h=>by have:=(hF k h).1;omega⟩)⟩
    · have hks : Qmf (pre ++ [x]) = Qmf pre := by rw [hks, show Lib.hasSuffix x.data.toList [10] = false from hb]; rfl
      refine wpIn_skip ?_
      exact⟨KeepsOthers.refl _,⟨rfl,rfl,rfl⟩,by unfold LInv;rw[hks];exact⟨v,F,hc,hs,hnd,hF,hbx,hB⟩⟩
  · intro D W hD hi hK
    obtain⟨v,F,hc,hs,hnd,hF,hbx,hB⟩:=hi
    refine Quv (Qap ?_)
    refine wp_seq (wp_region_lit ?_)
    have hE5:Env 15 _ (bare { a4 with defers:={ target:= .collected D,args:= #[] }::a4.defers }):=⟨hE4.size,rfl,hE4.get⟩
    refine Ybe hE5 (Qzv hE5 rfl hc (by kernel_rfl)) rfl fun a6 hd6 hE6=>Ybe hE6 (Qdd hE6 rfl) rfl fun a7 hd7 hE7=>wpList_nil ?_
    refine Qap ?_
    refine wp_ret ?_
    have hdf:a7.defers=[{ target:= .collected D,args:= #[] }]:=by rw[hd7,hd6];show _::a4.defers=_;rw[hE4.defers]
    show LeavesInM _ _ _ _ a7.tmps _ a7.defers _ W
    rw[hdf]
    refine⟨by simp,.inl ⟨_,_,rfl,run_takeDeferred hK,?_⟩⟩
    refine⟨v,?_,v,F,rfl,?_,hnd,fun b hb=>(hF b hb).1,?_⟩
    · rw[results_tmp rfl,show a7.tmps.getD 2 undef=v from hE7.get 2 v rfl]
    · refine hs.same fun b hb => World.putObj_heap_other fun e => ?_
      obtain⟨arr,T,fz,hcc⟩:=hs.oneB b hb
      rw[e,hK] at hcc
      cases hcc
    · exact hB.grown (grownBy_putObj' W D _) hB.size fun k e=>by cases e;have:=hB02.size;omega
theorem Q5x (s:ByteArray):(Qmf (Qma s)).length≤s.size+1:=Nat.le_trans (List.length_filter_le _ _) (Q2j s)
def Qbk (s:ByteArray):List ByteArray:=Qmf (Qma s)
end
section
theorem Yby (s : ByteArray) (hz : s.size ≤ 1048576) : CTs 161 [.o (.c (.string s))] [.sl ByteArray instDatByteArray (Qbk s)] := fun w vs hG hA => by
 obtain rfl:=Qxg (us:=[.string s]) hA
 refine(Yct s hz w).mono fun e w2 h=>?_
 obtain⟨v,F,rfl,h1,h2,h3,hB⟩:=h
 refine⟨v,rfl,Keep.of_below hB fun _ h=>h,[v],F++[],rfl,⟨F,[],rfl,h1,rfl⟩,by rw[append_nil];exact h2,fun b hb=>?_⟩
 rw[append_nil] at hb
 have:=h3 b hb
 show ¬ b<w.heap.size
 omega
end
section
def Qdi (p0:ByteArray):Nat→(List ByteArray)→Int→Nat→(List ByteArray)
 | 0,v3,v4,i=>v3
 | n+1,v3,v4,i=>Qdi p0 n (bif (decide (((Qav p0 i).toNat:Int)=10)) then(v3++[cutS p0 v4.toNat (i+1)]) else v3) (bif (decide (((Qav p0 i).toNat:Int)=10)) then((i+1:Nat):Int) else v4) (i+1)
def Qaq (p0:ByteArray):(List ByteArray):=Qdi p0 (p0.size - 0) ([]:List ByteArray) 0 0
theorem Q0d (p0:ByteArray) (hz_p0:p0.size≤9223372036854775807) (hq:p0.size≤1048576):CTs 149 [.o (.c (.string p0))] [Re.sl ByteArray instDatByteArray (Qaq p0)]:=by
 refine en Tryz.func149 Tryz.ntmps149 fun w hG hgd=>?_
 have hM:=Qaq.eq_1 p0
 refine ad 6 ?_
 refine op (l0) ?_
 refine ad 12 ?_
 refine li 0 (d:=instDatByteArray) ([]:List ByteArray) ?_
 refine Run.loopM (ι:=(List ByteArray)×Int×Nat) (fun s=>Qdi p0 (p0.size - s.2.2) s.1 s.2.1 s.2.2) (fun s=>⟨28,1,[(0,.v (.string p0)),(3,.sl 0 s.1.length),(4,.v (.int .i64 s.2.1)),(5,.v (.int .i64 (s.2.2:Int)))],[(0,.own ByteArray instDatByteArray s.1)]⟩) (fun s=>s.2.2≤p0.size∧0≤s.2.1∧s.2.1≤(s.2.2:Int)∧s.1.length≤s.2.2) (fun s=>p0.size - s.2.2) (([]:List ByteArray),0,0) [0] [0] hM (by exact⟨by(try dsimp only);omega,by(try dsimp only);omega,by(try dsimp only);omega,by simp⟩) su (by decide) ?_
 rintro ⟨v3,v4,i⟩ hv hE
 try dsimp only at hE
 obtain⟨hi,hv0,hv1,hv2⟩:=hv
 try dsimp only at hi hv0 hv1 hv2
 refine ad 8 ?_
 refine cd (fun h1=>?_) (fun h1=>?_)
 ·
  have h1l:i<p0.size:=dtl h1
  have hM:=hE.trans ((congrArg (fun n=>Qdi p0 n v3 v4 i) (sb1 h1l)).trans (Qdi.eq_2 _ _ _ _ _))
  refine ad 7 ?_
  refine op (sx (s:=p0) i om) ?_
  refine ad 2 ?_
  refine Run.mid ⟨28,1,[(0,.v (.string p0)),(3,.sl 0 ((bif (decide (((Qav p0 i).toNat:Int)=10)) then(v3++[cutS p0 v4.toNat (i+1)]) else v3).length)),(4,.v (.int .i64 (bif (decide (((Qav p0 i).toNat:Int)=10)) then((i+1:Nat):Int) else v4))),(5,.v (.int .i64 (i:Int)))],[(0,.own ByteArray instDatByteArray (bif (decide (((Qav p0 i).toNat:Int)=10)) then(v3++[cutS p0 v4.toNat (i+1)]) else v3))]⟩ ?_ ?_
  ·refine cd (fun h2=>?_) (fun h2=>?_)
   ·
    refine ad 7 ?_
    rw[Qb3 (i:=i) om]
    refine op (cu v4.toNat (i+1)) ?_
    refine ad 1 ?_
    have hg3:Dat.good (cutS p0 v4.toNat (i+1)):=Qmp lv5
    refine op (ap [cutS p0 v4.toNat (i+1)] (hg:=gdt) (hb:=by simp only[List.length_cons,List.length_nil];first | omega | exact om)) ?_
    refine ad 5 ?_
    rw[Qb3 (i:=i) om]
    refine ad 2 ?_
    exact Run.at [2] [1] (by first | exact su | (rw[h2];exact su)) (by decide)
   ·
    refine ad 1 ?_
    exact Run.at [0] [0] (by first | exact su | (rw[h2];exact su)) (by decide)
  refine ad 4 ?_
  rw[Qb3 (i:=i) om]
  refine ad 2 ?_
  exact Run.again (bif (decide (((Qav p0 i).toNat:Int)=10)) then(v3++[cutS p0 v4.toNat (i+1)]) else v3,bif (decide (((Qav p0 i).toNat:Int)=10)) then((i+1:Nat):Int) else v4,(i+1)) [0] [0] ⟨by exact⟨by(try dsimp only);omega,by(try dsimp only);((try simp only[Bool.cond_eq_ite]);(repeat' split)<;>omega),by(try dsimp only);((try simp only[Bool.cond_eq_ite]);(repeat' split)<;>omega),by(try dsimp only);((try simp only[Bool.cond_eq_ite]);(repeat' split);all_goals ((try simp only[length_append,length_cons,length_nil]);omega))⟩,hM⟩ rfl lv1 su (by decide)
 ·
  have h1l: ¬ (i<p0.size):=dfl h1
  have hM:=hE.trans ((congrArg (fun n=>Qdi p0 n v3 v4 i) (sb0 h1l)).trans (Qdi.eq_1 _ _ _ _))
  refine ad 6 ?_
  exact rz (rs:=[.tmp 2]) (congrArg (fun x=>[Re.sl ByteArray instDatByteArray x]) hM)
end
section
theorem Q62 {x:ByteArray} (h:Lib.indexB x ⟨#[10]⟩= -1):Qma x=[x]:=Lib.splitB_miss _ _ _ _ h
theorem Yad {x:ByteArray} {i:Nat} (h:Lib.indexB x ⟨#[10]⟩=i):Qma x=x.extract 0 (i+1)::Qma (x.extract (i+1) x.size):=by
 have hc:=Lib.countB_hit x ⟨#[10]⟩ i (Nat.le_refl _) h
 unfold Qma
 rw[hc,Nat.add_comm 1,Lib.splitB_hit _ _ _ _ _ h]
 rfl
theorem Yhx {l:List UInt8} (h: ∀ y∈l,y≠10):Lib.hasSuffix l [10]=false:=by
 cases hb:Lib.hasSuffix l [10] with
 | false=>rfl
 | true =>
  obtain⟨t,rfl⟩:=List.isSuffixOf_iff_suffix.1 hb
  exact absurd rfl (h 10 (by simp))
theorem Ygu (l:List UInt8):Lib.hasSuffix (l++[10]) [10]=true:=List.isSuffixOf_iff_suffix.2 ⟨l,rfl⟩
theorem Yd0 (p0:ByteArray): ∀ n i (v:List ByteArray) (b:Nat),i+n=p0.size→b≤i→(∀ j,b≤j→j<i→Qav p0 j≠10)→Qdi p0 n v (b:Int) i=v++Qmf (Qma (p0.extract b p0.size)):=by
 intro n
 induction n with
 | zero =>
  intro i v b hi hb hno
  obtain rfl:i=p0.size:=by omega
  have hall: ∀ y∈(p0.extract b p0.size).data.toList,y≠10:=by
   rw[Lib.extract_to_end]
   intro y hy
   obtain⟨j,e⟩:=List.mem_iff_getElem?.1 hy
   rw[getElem?_drop] at e
   have hlt:b+j<p0.data.toList.length:=(List.getElem?_eq_some_iff.1 e).1
   have hlt':b+j<p0.size:=by rw[Array.length_toList] at hlt;exact hlt
   rw[Qox hlt'] at e
   injection e with e
   rw[←e]
   exact hno _ (by omega) hlt'
  rw[Qdi,Q62 (by rw[Qkq];exact Q29 _ hall)]
  show v=v++Qmf [p0.extract b p0.size]
  unfold Qmf
  rw[List.filter_cons_of_neg (p:=fun x:ByteArray=>Lib.hasSuffix x.data.toList [10]) (by rw[Yhx hall];decide),List.filter_nil,append_nil]
 | succ n ih =>
  intro i v b hi hb hno
  have hlt:i<p0.size:=by omega
  rw[Qdi]
  by_cases h10:Qav p0 i=10
  ·rw[h10,decide_eq_true (show(((10:UInt8).toNat:Nat):Int)=10 from rfl)]
   show Qdi p0 n (v++[cutS p0 (b:Int).toNat (i+1)]) ((i+1:Nat):Int) (i+1)=_
   rw[ih (i+1) _ (i+1) (by omega) (Nat.le_refl _) (fun j h1 h2=>by omega),Int.toNat_natCast]
   have hx:Lib.indexB (p0.extract b p0.size) ⟨#[10]⟩=((i - b:Nat):Int):=by
    rw[Qkq,Lib.extract_to_end]
    refine Yd9 _ _ (fun j hj e=>?_) ?_
    ·rw[getElem?_drop,Qox (by omega)] at e
     injection e with e
     exact hno (b+j) (by omega) (by omega) e
    ·rw[getElem?_drop,show b+(i - b)=i by omega,Qox hlt,h10]
   have e1:(p0.extract b p0.size).extract 0 (i - b+1)=p0.extract b (i+1):=by
    apply ByteArray.ext
    apply Array.toList_inj.1
    rw[Lib.extract_from_zero,Lib.extract_to_end,Lib.extract_data]
    congr 1
    omega
   rw[Yad hx,(Q7c p0 hb hlt).2,e1]
   have hk:Lib.hasSuffix (p0.extract b (i+1)).data.toList [10]=true:=by
    have e2:(p0.extract b (i+1)).data.toList=((p0.data.toList.drop b).take (i - b))++[10]:=by
     rw[Lib.extract_data,show i+1 - b=(i - b)+1 by omega,List.take_add_one,getElem?_drop,show b+(i - b)=i by omega,Qox hlt,h10]
     rfl
    rw[e2]
    exact Ygu _
   unfold Qmf
   rw[List.filter_cons_of_pos (p:=fun x:ByteArray=>Lib.hasSuffix x.data.toList [10]) hk,append_assoc]
   rfl
  ·rw[decide_eq_false (show ¬ ((Qav p0 i).toNat:Int)=10 from fun e=>h10 (UInt8.toNat_inj.1 (by show(Qav p0 i).toNat=10;omega)))]
   show Qdi p0 n v (b:Int) (i+1)=_
   refine ih (i+1) v b (by omega) (by omega) fun j h1 h2=>?_
   rcases Nat.lt_or_ge j i with h3 | h3
   ·exact hno j h1 h3
   ·obtain rfl : j = i := by omega
    exact h10
theorem Qqg (p0:ByteArray):Qbk p0=Qaq p0:=by
 unfold Qaq Qbk
 rw[Nat.sub_zero]
 have:=Yd0 p0 p0.size 0 [] 0 (by omega) (Nat.le_refl _) (fun j _ h=>absurd h (by omega))
 rw[show p0.extract 0 p0.size=p0 from by apply ByteArray.ext;apply Array.toList_inj.1;rw[Lib.extract_to_end];rfl,nil_append] at this
 exact this.symm
theorem Q2u (p0:ByteArray):(Qbk p0).length≤p0.size+1:=Q5x p0
theorem Qpp (p0:ByteArray):(Qaq p0).length≤p0.size+1:=by
 rw[←Qqg]
 exact Q5x p0
end
section
theorem Ymz:FnOk Tryz.prog 93:=⟨_,Tryz.func93,rfl,by kernel_rfl⟩
theorem Ykl:FnOk Tryz.prog 149:=⟨_,Tryz.func149,rfl,by kernel_rfl⟩
theorem Ykk:FnOk Tryz.prog 150:=⟨_,Tryz.func150,rfl,by kernel_rfl⟩
theorem Ykj:FnOk Tryz.prog 151:=⟨_,Tryz.func151,rfl,by kernel_rfl⟩
theorem Ykd:FnOk Tryz.prog 161:=⟨_,Tryz.func161,rfl,by kernel_rfl⟩
theorem Ykc:FnOk Tryz.prog 162:=⟨_,Tryz.func162,rfl,by kernel_rfl⟩
theorem Ylh: ∀ (d:Nat) (x y:Cell) (w:World),(Op.equalIn (d+10) 114 (.agg [.string x.Key,.string x.Val].toArray) (.agg [.string y.Key,.string y.Val].toArray)).run Tryz.prog w= .ok (decide (x=y)) w:=by
 intro d x y w
 have u9:=Tryz.underlying9
 have a9:=Tryz.isAgg9
 have z9:=Tryz.sizeOf9
 have hS:Tryz.prog.underlying 114=some (.struct (Tryz.prog.fieldsOf 114)):=by kernel_rfl
 have hp:Tryz.prog.stoodInHeld 114=false:=by kernel_rfl
 rw[run_equalIn_agg w (d+9) 114 _ _ hS hp]
 simp only[Program.fieldsOf,Tryz.underlying114]
 obtain⟨z1,z2⟩:=x
 obtain⟨z3,z4⟩:=y
 go_simp
 simp only[Q6j]
 repeat' split
 all_goals simp_all
theorem Yf4 (x y:Cell):eqP Tryz.prog 114 [.string x.Key,.string x.Val] [.string y.Key,.string y.Val] (decide (x=y)):=⟨by kernel_rfl,fun w=>Ylh 9990 x y w⟩
def Qbj (p0:ByteArray) (p1:Int):Nat→(List (List Cell))→Int→Nat→(List (List Cell))×Int
 | 0,v6,v7,i=>(v6,v7)
 | n+1,v6,v7,i=>bif (!((Qaw (nth (Qbk p0) i)).2.2))||((!((decide ((v6.length:Int)=0))&&(decide (((Qaw (nth (Qbk p0) i)).1)<p1))))&&(!decide (((Qaw (nth (Qbk p0) i)).1)=(i64.wrap (p1+(v6.length:Int)))))) then(v6,v7) else(Qbj p0 p1 n (bif (!((decide ((v6.length:Int)=0))&&(decide (((Qaw (nth (Qbk p0) i)).1)<p1)))) then(v6++[(Qaw (nth (Qbk p0) i)).2.1]) else v6) (i64.wrap (v7+((nth (Qbk p0) i).size:Int))) (i+1))
def Qac (p0:ByteArray) (p1:Int):(List (List Cell))×Int:=bif !(Qcd p1 1 100000) then([],0) else(Qbj p0 p1 (((Qbk p0).length) - 0) [] 0 0)
theorem Qpa (p0:ByteArray) (p1:Int) (hq:p0.size≤1048576):CTs 90 [.o (.c (.string p0)),.o (.c (.int .i64 p1))] [Re.sl (List Cell) (@instDatList _ instDatCell) ((Qac p0 p1).1),Re.c (.int .i64 ((Qac p0 p1).2))]:=by
 refine en Tryz.func90 Tryz.ntmps90 fun w hG hgd=>?_
 have hM:=Qac.eq_1 p0 p1
 have hll:=Q2u p0
 refine ad 9 ?_
 refine op (cl (Qha p1 1 100000) Qwe) ?_
 refine ad 2 ?_
 refine cd (fun h1=>?_) (fun h1=>?_)
 ·
  have hM:=hM.trans (bt h1)
  refine ad 5 ?_
  exact rz (rs:=[.tmp 4,.tmp 5]) (congrArg (fun x=>[Re.sl (List Cell) (@instDatList _ instDatCell) x.1,Re.c (.int .i64 x.2)]) hM)
 ·
  have hM:=hM.trans (bf h1)
  have th1:=Qhy (by simpa using h1)
  refine ad 13 ?_
  refine og (clg (Yby p0 lv2) Ykd) fun hgq=>?_
  obtain⟨hg2,_⟩:=hgq
  refine ad 4 ?_
  refine Run.nil 6 (α:=List Cell) (d:=(@instDatList _ instDatCell)) rfl ?_
  refine fz 0 ?_
  refine Run.loopM (ι:=(List (List Cell))×Int×Nat) (fun s=>Qbj p0 p1 (((Qbk p0).length) - s.2.2) s.1 s.2.1 s.2.2) (fun s=>⟨65,2,[(1,.v (.int .i64 p1)),(6,.sl 1 s.1.length),(7,.v (.int .i64 s.2.1)),(18,.sl 0 ((Qbk p0).length)),(19,.v (.int .i64 ((Qbk p0).length:Int))),(20,.v (.int .i64 (s.2.2:Int)))],[(0,.ros ByteArray instDatByteArray (Qbk p0)),(1,.own (List Cell) (@instDatList _ instDatCell) s.1)]⟩) (fun s=>s.2.2≤(Qbk p0).length∧s.1.length≤s.2.2) (fun s=>((Qbk p0).length) - s.2.2) ([],0,0) [0,1] [1,0] hM (by exact⟨by(try dsimp only);omega,by simp⟩) su (by decide) ?_
  rintro ⟨v6,v7,i⟩ hv hE
  try dsimp only at hE
  obtain⟨hi,hv0⟩:=hv
  try dsimp only at hi hv0
  refine ad 5 ?_
  refine cd (fun h3=>?_) (fun h3=>?_)
  ·
   have h3l:i<(Qbk p0).length:=dtl h3
   have hM:=hE.trans ((congrArg (fun n=>Qbj p0 p1 n v6 v7 i) (show((Qbk p0).length) - i=(((Qbk p0).length) - (i+1))+1 by omega)).trans (Qbj.eq_2 _ _ _ _ _ _))
   refine ad 5 ?_
   refine op (ix (xs:=(Qbk p0)) i om) ?_
   refine ad 6 ?_
   refine og (clg (Quu (nth (Qbk p0) i)) Ykc) fun hgq=>?_
   obtain⟨hg5,_⟩:=hgq
   refine ad 14 ?_
   refine ag 4 ?_
   refine ad 8 ?_
   refine ag 11 ?_
   refine ad 1 ?_
   refine cd (fun h6=>?_) (fun h6=>?_)
   ·
    have hM:=hM.trans (bt h6)
    refine ad 8 ?_
    exact rz (rs:=[.tmp 4,.tmp 5]) (congrArg (fun x=>[Re.sl (List Cell) (@instDatList _ instDatCell) x.1,Re.c (.int .i64 x.2)]) hM)
   ·
    have hM:=hM.trans (bf h6)
    refine ad 14 ?_
    refine Run.mid ⟨65,2,[(1,.v (.int .i64 p1)),(6,.sl 0 ((bif (!((decide ((v6.length:Int)=0))&&(decide (((Qaw (nth (Qbk p0) i)).1)<p1)))) then(v6++[(Qaw (nth (Qbk p0) i)).2.1]) else v6).length)),(7,.v (.int .i64 (i64.wrap (v7+((nth (Qbk p0) i).size:Int))))),(18,.sl 1 ((Qbk p0).length)),(19,.v (.int .i64 ((Qbk p0).length:Int))),(20,.v (.int .i64 (i:Int)))],[(0,.own (List Cell) (@instDatList _ instDatCell) (bif (!((decide ((v6.length:Int)=0))&&(decide (((Qaw (nth (Qbk p0) i)).1)<p1)))) then(v6++[(Qaw (nth (Qbk p0) i)).2.1]) else v6)),(1,.ros ByteArray instDatByteArray (Qbk p0))]⟩ ?_ ?_
    ·refine cd (fun h7=>?_) (fun h7=>?_)
     ·
      refine ad 4 ?_
      refine op (aN (e:=35) (by':=24) v6 ((Qaw (nth (Qbk p0) i)).2.1) [1] (hg:=hg5) (hb:=by(try simp only[List.length_cons,List.length_nil]);first | omega | exact om) (hm:=by(try simp only[List.length_cons,List.length_nil]);first | omega | exact om)) ?_
      refine ad 2 ?_
      exact Run.at [5,0] [0,3] (by first | exact su | (rw[h7];exact su)) (by decide)
     ·
      refine ad 1 ?_
      exact Run.at [1,0] [3,2] (by first | exact su | (rw[h7];exact su)) (by decide)
    refine ad 3 ?_
    rw[Qb3 (i:=i) om]
    refine ad 2 ?_
    exact Run.again (bif (!((decide ((v6.length:Int)=0))&&(decide (((Qaw (nth (Qbk p0) i)).1)<p1)))) then(v6++[(Qaw (nth (Qbk p0) i)).2.1]) else v6,i64.wrap (v7+((nth (Qbk p0) i).size:Int)),(i+1)) [1,0] [1,0] ⟨by exact⟨by(try dsimp only);omega,by(try dsimp only);((try simp only[Bool.cond_eq_ite]);(repeat' split);all_goals ((try simp only[length_append,length_cons,length_nil]);omega))⟩,hM⟩ rfl lv1 su (by decide)
  ·
   have h3l: ¬ (i<(Qbk p0).length):=dfl h3
   have hM:=hE.trans ((congrArg (fun n=>Qbj p0 p1 n v6 v7 i) (show((Qbk p0).length) - i=0 by omega)).trans (Qbj.eq_1 _ _ _ _ _))
   refine ad 8 ?_
   exact rz (rs:=[.tmp 4,.tmp 5]) (congrArg (fun x=>[Re.sl (List Cell) (@instDatList _ instDatCell) x.1,Re.c (.int .i64 x.2)]) hM)
def Qcs (p0:ByteArray) (p1:Int):Nat→(List (List Cell))→Int→Nat→(List (List Cell))×Int
 | 0,v6,v8,i=>(v6,v8)
 | n+1,v6,v8,i=>bif (!((Qa8 (nth (Qaq p0) i)).2.2))||((!decide (((Qa8 (nth (Qaq p0) i)).1)=(i64.wrap (p1+(v6.length:Int)))))&&((decide ((v6.length:Int)>0))||(decide (((Qa8 (nth (Qaq p0) i)).1)>p1)))) then(v6,v8) else(Qcs p0 p1 n (bif (decide (((Qa8 (nth (Qaq p0) i)).1)=(i64.wrap (p1+(v6.length:Int))))) then(v6++[(Qa8 (nth (Qaq p0) i)).2.1]) else v6) (i64.wrap (v8+((nth (Qaq p0) i).size:Int))) (i+1))
def Qal (p0:ByteArray) (p1:Int):(List (List Cell))×Int:=bif !(Qcm p1 1 100000) then(([]:List (List Cell)),0) else(Qcs p0 p1 (((Qaq p0).length) - 0) ([]:List (List Cell)) 0 0)
theorem Qo4 (p0:ByteArray) (p1:Int) (hz_p0:p0.size≤9223372036854775807) (hq:p0.size≤1048576):CTs 81 [.o (.c (.string p0)),.o (.c (.int .i64 p1))] [Re.sl (List Cell) (@instDatList _ instDatCell) ((Qal p0 p1).1),Re.c (.int .i64 ((Qal p0 p1).2))]:=by
 refine en Tryz.func81 Tryz.ntmps81 fun w hG hgd=>?_
 have hM:=Qal.eq_1 p0 p1
 have hll:=Qpp p0
 refine ad 7 ?_
 refine op (l0) ?_
 refine ad 6 ?_
 refine op (cl (Qhr p1 1 100000) Qwf) ?_
 refine ad 2 ?_
 refine cd (fun h1=>?_) (fun h1=>?_)
 ·
  have hM:=hM.trans (bt h1)
  refine ad 6 ?_
  refine li 0 (d:=(@instDatList _ instDatCell)) ([]:List (List Cell)) ?_
  exact rz (rs:=[.tmp 4,.tmp 5]) (congrArg (fun x=>[Re.sl (List Cell) (@instDatList _ instDatCell) x.1,Re.c (.int .i64 x.2)]) hM)
 ·
  have hM:=hM.trans (bf h1)
  have th1:=Qg5 (by simpa using h1)
  refine ad 4 ?_
  refine og (clg (Q0d p0 hz_p0 lv2) Ykl) fun hgq=>?_
  obtain⟨hg2,_⟩:=hgq
  refine ad 12 ?_
  refine li 0 (d:=(@instDatList _ instDatCell)) ([]:List (List Cell)) ?_
  refine fz 1 ?_
  refine Run.loopM (ι:=(List (List Cell))×Int×Nat) (fun s=>Qcs p0 p1 (((Qaq p0).length) - s.2.2) s.1 s.2.1 s.2.2) (fun s=>⟨74,2,[(1,.v (.int .i64 p1)),(6,.sl 1 s.1.length),(7,.sl 0 ((Qaq p0).length)),(8,.v (.int .i64 s.2.1)),(9,.v (.int .i64 (s.2.2:Int)))],[(0,.ros ByteArray instDatByteArray (Qaq p0)),(1,.own (List Cell) (@instDatList _ instDatCell) s.1)]⟩) (fun s=>s.2.2≤(Qaq p0).length∧s.1.length≤s.2.2) (fun s=>((Qaq p0).length) - s.2.2) (([]:List (List Cell)),0,0) [1,0] [0,1] hM (by exact⟨by(try dsimp only);omega,by simp⟩) su (by decide) ?_
  rintro ⟨v6,v8,i⟩ hv hE
  try dsimp only at hE
  obtain⟨hi,hv0⟩:=hv
  try dsimp only at hi hv0
  refine ad 8 ?_
  refine cd (fun h3=>?_) (fun h3=>?_)
  ·
   have h3l:i<(Qaq p0).length:=dtl h3
   have hM:=hE.trans ((congrArg (fun n=>Qcs p0 p1 n v6 v8 i) (show((Qaq p0).length) - i=(((Qaq p0).length) - (i+1))+1 by omega)).trans (Qcs.eq_2 _ _ _ _ _ _))
   refine ad 7 ?_
   refine op (ix (xs:=(Qaq p0)) i om) ?_
   refine ad 1 ?_
   refine og (clg (Quq (nth (Qaq p0) i)) Ykk) fun hgq=>?_
   obtain⟨hg5,_⟩:=hgq
   refine ad 14 ?_
   refine ag 17 ?_
   refine ad 1 ?_
   refine cd (fun h6=>?_) (fun h6=>?_)
   ·
    have hM:=hM.trans (bt h6)
    refine ad 8 ?_
    exact rz (rs:=[.tmp 4,.tmp 5]) (congrArg (fun x=>[Re.sl (List Cell) (@instDatList _ instDatCell) x.1,Re.c (.int .i64 x.2)]) hM)
   ·
    have hM:=hM.trans (bf h6)
    refine ad 11 ?_
    refine Run.mid ⟨74,2,[(1,.v (.int .i64 p1)),(6,.sl 0 ((bif (decide (((Qa8 (nth (Qaq p0) i)).1)=(i64.wrap (p1+(v6.length:Int))))) then(v6++[(Qa8 (nth (Qaq p0) i)).2.1]) else v6).length)),(7,.sl 1 ((Qaq p0).length)),(8,.v (.int .i64 v8)),(9,.v (.int .i64 (i:Int)))],[(0,.own (List Cell) (@instDatList _ instDatCell) (bif (decide (((Qa8 (nth (Qaq p0) i)).1)=(i64.wrap (p1+(v6.length:Int))))) then(v6++[(Qa8 (nth (Qaq p0) i)).2.1]) else v6)),(1,.ros ByteArray instDatByteArray (Qaq p0))]⟩ ?_ ?_
    ·refine cd (fun h7=>?_) (fun h7=>?_)
     ·
      refine ad 4 ?_
      refine op (aN (e:=35) (by':=24) v6 ((Qa8 (nth (Qaq p0) i)).2.1) [1] (hg:=hg5) (hb:=by(try simp only[List.length_cons,List.length_nil]);first | omega | exact om) (hm:=by(try simp only[List.length_cons,List.length_nil]);first | omega | exact om)) ?_
      refine ad 2 ?_
      exact Run.at [5,0] [0,3] (by first | exact su | (rw[h7];exact su)) (by decide)
     ·
      refine ad 1 ?_
      exact Run.at [1,0] [3,2] (by first | exact su | (rw[h7];exact su)) (by decide)
    refine ad 4 ?_
    refine op (ix (xs:=(Qaq p0)) i om) ?_
    refine ad 9 ?_
    rw[Qb3 (i:=i) om]
    refine ad 2 ?_
    exact Run.again (bif (decide (((Qa8 (nth (Qaq p0) i)).1)=(i64.wrap (p1+(v6.length:Int))))) then(v6++[(Qa8 (nth (Qaq p0) i)).2.1]) else v6,i64.wrap (v8+((nth (Qaq p0) i).size:Int)),(i+1)) [1,0] [2,1] ⟨by exact⟨by(try dsimp only);omega,by(try dsimp only);((try simp only[Bool.cond_eq_ite]);(repeat' split);all_goals ((try simp only[length_append,length_cons,length_nil]);omega))⟩,hM⟩ rfl lv1 su (by decide)
  ·
   have h3l: ¬ (i<(Qaq p0).length):=dfl h3
   have hM:=hE.trans ((congrArg (fun n=>Qcs p0 p1 n v6 v8 i) (show((Qaq p0).length) - i=0 by omega)).trans (Qcs.eq_1 _ _ _ _ _))
   refine ad 8 ?_
   exact rz (rs:=[.tmp 4,.tmp 5]) (congrArg (fun x=>[Re.sl (List Cell) (@instDatList _ instDatCell) x.1,Re.c (.int .i64 x.2)]) hM)
def Qbe (p0:List Cell) (p1:List Cell):Nat→(List Cell)→Nat→(List Cell)
 | 0,v0,i=>v0
 | n+1,v0,i=>Qbe p0 p1 n (Qhs v0 ((nth p1 i).Key) ((nth p1 i).Val)) (i+1)
def Qfx (p0:List Cell) (p1:List Cell):(List Cell):=Qbe p0 p1 (p1.length - 0) (([]:List Cell)++p0) 0
theorem Qtl (p0:List Cell) (p1:List Cell) (hb:p0.length+p1.length≤1073741820):CTs 82 [.o (.sl Cell instDatCell p0),.o (.sl Cell instDatCell p1)] [Re.sl Cell instDatCell (Qfx p0 p1)]:=by
 refine en Tryz.func82 Tryz.ntmps82 fun w hG hgd=>?_
 obtain⟨hg_p0,hg_p1,_⟩:=hgd
 have hl_p0:p0.length≤9223372036854775807:=hg_p0.1
 have hl_p1:p1.length≤9223372036854775807:=hg_p1.1
 have hM:=Qfx.eq_1 p0 p1
 refine ad 6 ?_
 refine op (l0) ?_
 refine ad 1 ?_
 refine li 2 (d:=instDatCell) ([]:List Cell) ?_
 refine op (aS (dα:=instDatCell) (e:=114) (by':=32) ([]:List Cell) p0 [2] (hb:=by(try simp only[List.length_append,List.length_cons,List.length_nil]);first | omega | exact om) (hm:=by(try simp only[List.length_append,List.length_cons,List.length_nil]);first | omega | exact om)) ?_
 refine ad 8 ?_
 refine Run.loopM (ι:=(List Cell)×Nat) (fun s=>Qbe p0 p1 (p1.length - s.2) s.1 s.2) (fun s=>⟨28,2,[(0,.sl 1 s.1.length),(1,.sl 0 p1.length),(5,.v (.int .i64 (s.2:Int)))],[(0,.ros Cell instDatCell p1),(1,.own Cell instDatCell s.1)]⟩) (fun s=>s.2≤p1.length∧s.1.length≤p0.length+s.2) (fun s=>p1.length - s.2) ((([]:List Cell)++p0),0) [1,3] [2,0] hM (by exact⟨by(try dsimp only);omega,by simp⟩) su (by decide) ?_
 rintro ⟨v0,i⟩ hv hE
 try dsimp only at hE
 obtain⟨hi,hv0⟩:=hv
 try dsimp only at hi hv0
 refine ad 8 ?_
 refine cd (fun h1=>?_) (fun h1=>?_)
 ·
  have h1l:i<p1.length:=dtl h1
  have hM:=hE.trans ((congrArg (fun n=>Qbe p0 p1 n v0 i) (sb1 h1l)).trans (Qbe.eq_2 _ _ _ _ _))
  have hpl:=Qjy v0 (nth p1 i).Key (nth p1 i).Val
  have hgk:(nth p1 i).Key.size≤9223372036854775807:=(Qai (k:=i) hg_p1 om).1
  have hgv:(nth p1 i).Val.size≤9223372036854775807:=(Qai (k:=i) hg_p1 om).2
  refine ad 3 ?_
  refine dr 13 fun _ _ _ _ _ hb=>?_
  refine tk [0,1,2] ?_
  have hg2:=Qai (k:=i) hg_p1 om
  refine tx 3 (dx (xs:=p1) i om) ?_
  refine tk [4,5,6,7] ?_
  have hg3:=Qai (k:=i) hg_p1 om
  refine tx 8 (dx (xs:=p1) i om) ?_
  refine tk [9,10] ?_
  refine ong 11 [3,4] (clg (Q3l v0 ((nth p1 i).Key) ((nth p1 i).Val) hg3.1 lv2 lv2 lv2) Ykj) fun hgq=>?_
  obtain⟨hg4,_⟩:=hgq
  refine tk [12] ?_
  refine dn hb ?_
  refine ad 4 ?_
  rw[Qb3 (i:=i) om]
  refine ad 2 ?_
  exact Run.again ((Qhs v0 ((nth p1 i).Key) ((nth p1 i).Val)),(i+1)) [0,4] [3,0] ⟨by exact⟨by(try dsimp only);omega,by(try dsimp only);omega⟩,hM⟩ rfl lv1 su (by decide)
 ·
  have h1l: ¬ (i<p1.length):=dfl h1
  have hM:=hE.trans ((congrArg (fun n=>Qbe p0 p1 n v0 i) (sb0 h1l)).trans (Qbe.eq_1 _ _ _ _))
  refine ad 6 ?_
  exact rz (rs:=[.tmp 4]) (congrArg (fun x=>[Re.sl Cell instDatCell x]) hM)
def Qc2 (p0:List Cell) (p1:List Cell):Nat→Nat→Bool
 | 0,i=>true
 | n+1,i=>bif !(decide ((nth p0 i)=(nth p1 i))) then false else(Qc2 p0 p1 n (i+1))
def Qis (p0:List Cell) (p1:List Cell):Bool:=bif !decide ((p0.length:Int)=(p1.length:Int)) then false else(Qc2 p0 p1 (p0.length - 0) 0)
theorem Qr6 (p0:List Cell) (p1:List Cell):CTs 93 [.o (.sl Cell instDatCell p0),.o (.sl Cell instDatCell p1)] [Re.c (.bool (Qis p0 p1))]:=by
 refine en Tryz.func93 Tryz.ntmps93 fun w hG hgd=>?_
 obtain⟨hg_p0,hg_p1,_⟩:=hgd
 have hl_p0:p0.length≤9223372036854775807:=hg_p0.1
 have hl_p1:p1.length≤9223372036854775807:=hg_p1.1
 have hM:=Qis.eq_1 p0 p1
 refine ad 13 ?_
 refine cd (fun h1=>?_) (fun h1=>?_)
 ·
  have hM:=hM.trans (bt h1)
  refine ad 4 ?_
  exact rz (rs:=[.tmp 4]) (rzB hM)
 ·
  have hM:=hM.trans (bf h1)
  refine ad 9 ?_
  refine Run.loopM (ι:=Nat) (fun s=>Qc2 p0 p1 (p0.length - s) s) (fun s=>⟨26,2,[(0,.sl 0 p0.length),(1,.sl 1 p1.length),(12,.v (.int .i64 (p0.length:Int))),(13,.v (.int .i64 (s:Int)))],[(0,.ros Cell instDatCell p0),(1,.ros Cell instDatCell p1)]⟩) (fun s=>s≤p0.length) (fun s=>p0.length - s) 0 [0,1] [0,1] hM lv0 su (by decide) ?_
  rintro i hv hE
  try dsimp only at hE
  have hi:=hv
  try dsimp only at hi
  refine ad 5 ?_
  refine cd (fun h2=>?_) (fun h2=>?_)
  ·
   have h2l:i<p0.length:=dtl h2
   have hM:=hE.trans ((congrArg (fun n=>Qc2 p0 p1 n i) (sb1 h2l)).trans (Qc2.eq_2 _ _ _ _))
   refine ad 9 ?_
   refine dr 9 fun _ _ _ _ _ hb=>?_
   refine tk [0,1] ?_
   have hg3:=Qai (k:=i) hg_p0 om
   refine tx 2 (dx (xs:=p0) i om) ?_
   refine tk [3,4,5] ?_
   have hg4:=Qai (k:=i) hg_p1 om
   refine tx 6 (dx (xs:=p1) i om) ?_
   refine tk [7] ?_
   refine on 8 [2,3] (qe (Yf4 (nth p0 i) (nth p1 i))) ?_
   refine dn hb ?_
   refine cd (fun h5=>?_) (fun h5=>?_)
   ·
    have hM:=hM.trans (bt h5)
    refine ad 4 ?_
    exact rz (rs:=[.tmp 4]) (rzB hM)
   ·
    have hM:=hM.trans (bf h5)
    refine ad 4 ?_
    rw[Qb3 (i:=i) om]
    refine ad 2 ?_
    exact Run.again (i+1) [0,1] [2,3] ⟨by first | omega | exact trivial | (dsimp only;omega) | (refine⟨by omega,?_⟩;simp_all;try omega),hM⟩ rfl lv1 su (by decide)
  ·
   have h2l: ¬ (i<p0.length):=dfl h2
   have hM:=hE.trans ((congrArg (fun n=>Qc2 p0 p1 n i) (sb0 h2l)).trans (Qc2.eq_1 _ _ _))
   refine ad 5 ?_
   exact rz (rs:=[.tmp 4]) (rzB hM)
def Qh7 (p0:List Cell) (p1:List Cell):Bool:=(Qis p0 p1)
theorem Qo9 (p0:List Cell) (p1:List Cell):CTs 44 [.o (.sl Cell instDatCell p0),.o (.sl Cell instDatCell p1)] [Re.c (.bool (Qh7 p0 p1))]:=by
 refine en Tryz.func44 Tryz.ntmps44 fun w hG hgd=>?_
 obtain⟨hg_p0,hg_p1,_⟩:=hgd
 have hl_p0:p0.length≤9223372036854775807:=hg_p0.1
 have hl_p1:p1.length≤9223372036854775807:=hg_p1.1
 have hM:=Qh7.eq_1 p0 p1
 refine ad 8 ?_
 refine op (cl (Qr6 p0 p1) Ymz) ?_
 refine ad 2 ?_
 exact rz (rs:=[.tmp 4]) (rzB hM)
def Qd3 (p0:List Cell) (p1:List Cell):Nat→Nat→Bool
 | 0,i=>true
 | n+1,i=>bif !(decide ((nth p0 i)=(nth p1 i))) then false else(Qd3 p0 p1 n (i+1))
def Qhe (p0:List Cell) (p1:List Cell):Bool:=bif !decide ((p0.length:Int)=(p1.length:Int)) then false else(Qd3 p0 p1 (p0.length - 0) 0)
theorem Qo3 (p0:List Cell) (p1:List Cell):CTs 37 [.o (.sl Cell instDatCell p0),.o (.sl Cell instDatCell p1)] [Re.c (.bool (Qhe p0 p1))]:=by
 refine en Tryz.func37 Tryz.ntmps37 fun w hG hgd=>?_
 obtain⟨hg_p0,hg_p1,_⟩:=hgd
 have hl_p0:p0.length≤9223372036854775807:=hg_p0.1
 have hl_p1:p1.length≤9223372036854775807:=hg_p1.1
 have hM:=Qhe.eq_1 p0 p1
 refine ad 13 ?_
 refine cd (fun h1=>?_) (fun h1=>?_)
 ·
  have hM:=hM.trans (bt h1)
  refine ad 4 ?_
  exact rz (rs:=[.tmp 4]) (rzB hM)
 ·
  have hM:=hM.trans (bf h1)
  refine ad 7 ?_
  refine Run.loopM (ι:=Nat) (fun s=>Qd3 p0 p1 (p0.length - s) s) (fun s=>⟨26,2,[(0,.sl 0 p0.length),(1,.sl 1 p1.length),(5,.v (.int .i64 (s:Int)))],[(0,.ros Cell instDatCell p0),(1,.ros Cell instDatCell p1)]⟩) (fun s=>s≤p0.length) (fun s=>p0.length - s) 0 [0,1] [0,1] hM lv0 su (by decide) ?_
  rintro i hv hE
  try dsimp only at hE
  have hi:=hv
  try dsimp only at hi
  refine ad 8 ?_
  refine cd (fun h2=>?_) (fun h2=>?_)
  ·
   have h2l:i<p0.length:=dtl h2
   have hM:=hE.trans ((congrArg (fun n=>Qd3 p0 p1 n i) (sb1 h2l)).trans (Qd3.eq_2 _ _ _ _))
   refine ad 4 ?_
   refine dr 9 fun _ _ _ _ _ hb=>?_
   refine tk [0,1] ?_
   have hg3:=Qai (k:=i) hg_p0 om
   refine tx 2 (dx (xs:=p0) i om) ?_
   refine tk [3,4,5] ?_
   have hg4:=Qai (k:=i) hg_p1 om
   refine tx 6 (dx (xs:=p1) i om) ?_
   refine tk [7] ?_
   refine on 8 [2,3] (qe (Yf4 (nth p0 i) (nth p1 i))) ?_
   refine dn hb ?_
   refine cd (fun h5=>?_) (fun h5=>?_)
   ·
    have hM:=hM.trans (bt h5)
    refine ad 4 ?_
    exact rz (rs:=[.tmp 4]) (rzB hM)
   ·
    have hM:=hM.trans (bf h5)
    refine ad 5 ?_
    rw[Qb3 (i:=i) om]
    refine ad 2 ?_
    exact Run.again (i+1) [0,1] [2,3] ⟨by first | omega | exact trivial | (dsimp only;omega) | (refine⟨by omega,?_⟩;simp_all;try omega),hM⟩ rfl lv1 su (by decide)
  ·
   have h2l: ¬ (i<p0.length):=dfl h2
   have hM:=hE.trans ((congrArg (fun n=>Qd3 p0 p1 n i) (sb0 h2l)).trans (Qd3.eq_1 _ _ _))
   refine ad 5 ?_
   exact rz (rs:=[.tmp 4]) (rzB hM)
end
section
theorem Qph (a b c:Int):Qcd a b c=Qcm a b c:=rfl
theorem Ycx: ∀ x y:List UInt8,(Op.bytesLess x y||decide (x=y))=!(Op.bytesLess y x)
 | [],[]=>rfl
 | [],_::_=>rfl
 | _::_,[]=>rfl
 | a :: x, b :: y => by
  have ih:=Ycx x y
  simp only[Op.bytesLess,List.cons.injEq,Bool.decide_and]
  by_cases h:a=b
  ·subst h
   simp only[UInt8.lt_irrefl,decide_false,Bool.false_or,beq_self_eq_true,Bool.true_and,decide_true]
   exact ih
  ·have h1:(a==b)=false:=beq_eq_false_iff_ne.2 h
   have h2:(b==a)=false:=beq_eq_false_iff_ne.2 (Ne.symm h)
   simp only[h1,h2,h,decide_false,Bool.false_and,Bool.or_false]
   by_cases hl:a<b
   ·have: ¬ b<a:=UInt8.not_lt.2 (UInt8.le_of_lt hl)
    simp[hl,this]
   ·have:b<a:=UInt8.lt_of_le_of_ne (UInt8.not_lt.1 hl) (Ne.symm h)
    simp[hl,this]
theorem Ydz (a b:ByteArray):(ltB a b||decide (a=b))=!(ltB b a):=by
 unfold ltB
 rw[←Ycx]
 congr 1
 by_cases h:a=b
 ·subst h;simp
 ·rw[decide_eq_false h,decide_eq_false]
  intro e
  apply h
  apply ByteArray.ext
  apply Array.toList_inj.1
  rw[←Lib.toList_data,←Lib.toList_data,e]
theorem Q4d (p0:ByteArray): ∀ n i,Qgn p0 n i=Qgh p0 n i:=by
 intro n
 induction n with
 | zero=>intro i;rfl
 | succ n ih =>
  intro i
  rw[Qgn,Qgh,ih]
  have hb:=(Qav p0 i).toNat_lt
  rw[IntWalk.i64_in ((Qav p0 i).toNat:Int) (by omega)]
  have e:((decide (((Qav p0 i).toNat:Int)<33))||(decide (((Qav p0 i).toNat:Int)>126)))=!(Qcm ((Qav p0 i).toNat:Int) 33 126):=by
   unfold Qcm
   generalize ((Qav p0 i).toNat:Int)=x
   by_cases h1:x<33
   ·simp[h1,show ¬ (x≥33) by omega]
   ·by_cases h2:x>126
    ·simp[h1,h2,show ¬ (x≤126) by omega]
    ·simp[h1,h2,show x≥33 by omega,show x≤126 by omega]
  rw[e]
theorem Qu0 (p0:ByteArray):Qjs p0=Qip p0:=Q4d p0 _ _
theorem Qzk (p0:List Cell) (hl:p0.length≤9223372036854775807): ∀ n i,i+n=p0.length→Qc8 p0 n i=Qc6 p0 n i:=by
 intro n
 induction n with
 | zero=>intro i _;rfl
 | succ n ih =>
  intro i hi
  rw[Qc8,Qc6,ih (i+1) (by omega),Qu0,Qph,Ydz]
theorem Qre (p0:List Cell): ∀ n i,Qc6 p0 n i=true→p0.length≤900:=by
 intro n
 induction n with
 | zero=>intro i h;rw[Qc6] at h;have:=of_decide_eq_true h;omega
 | succ n ih =>
  intro i h
  rw[Qc6] at h
  revert h
  generalize (((!_)||_)||_)=q
  cases q
  ·exact fun h=>ih _ h
  ·intro h;cases h
theorem Qzl (p0:List Cell): ∀ n i,Qc8 p0 n i=true→p0.length≤900:=by
 intro n
 induction n with
 | zero=>intro i h;rw[Qc8] at h;have:=of_decide_eq_true h;omega
 | succ n ih =>
  intro i h
  rw[Qc8] at h
  revert h
  generalize (((!_)||_)||_)=q
  cases q
  ·exact fun h=>ih _ h
  ·intro h;cases h
theorem Qwl (p0:List Cell):Qjq p0=Qfw p0:=by
 unfold Qjq Qfw
 by_cases h:p0.length≤900
 ·exact Qzk p0 (by omega) _ _ (by omega)
 ·cases h1:Qc8 p0 (p0.length - 0) 0 with
  | true=>exact absurd (Qzl p0 _ _ h1) h
  | false =>
   cases h2:Qc6 p0 (p0.length - 0) 0 with
   | true=>exact absurd (Qre p0 _ _ h2) h
   | false=>rfl
theorem Q7q {p0:List Cell} (h:Qfw p0=true):p0.length≤900:=Qre p0 _ _ h
theorem Qxm (p0:Disk): ∀ n v i,Qev p0 n v i=Qb9 p0 n v i:=by
 intro n
 induction n with
 | zero=>intro v i;rfl
 | succ n ih=>intro v i;rw[Qev,Qb9,ih]
theorem Qhz (p0:Disk):Qab p0=Qae p0:=Qxm p0 _ _ _
theorem Q07 (p0:Disk): ∀ n (v:Int) i,i+n=p0.Slots.length→(v= -1∧(∀ j,j<i→(nth p0.Slots j).Whole=false)∨(0≤v∧v<(i:Int)∧(nth p0.Slots v.toNat).Whole=true))→
  (Qb9 p0 n v i= -1∧(∀ j,j<p0.Slots.length→(nth p0.Slots j).Whole=false)∨(0≤Qb9 p0 n v i∧Qb9 p0 n v i<(p0.Slots.length:Int)∧(nth p0.Slots (Qb9 p0 n v i).toNat).Whole=true)):=by
 intro n
 induction n with
 | zero =>
  intro v i hi h
  obtain rfl:i=p0.Slots.length:=by omega
  exact h
 | succ n ih =>
  intro v i hi h
  rw[Qb9]
  refine ih _ (i+1) (by omega) ?_
  cases hw:(nth p0.Slots i).Whole with
  | false =>
   rw[Bool.false_and,cond_false]
   rcases h with ⟨h1,h2⟩ | ⟨h1,h2,h3⟩
   ·refine .inl ⟨h1,fun j hj=>?_⟩
    by_cases e:j=i
    ·rw[e];exact hw
    ·exact h2 j (by omega)
   ·exact .inr ⟨h1,by omega,h3⟩
  | true =>
   rw[Bool.true_and]
   cases hc:(decide (v<0)||decide ((nth p0.Slots i).Seq>(nth p0.Slots v.toNat).Seq)) with
   | true=>exact .inr ⟨by show(0:Int)≤(i:Int);omega,by show(i:Int)<_;omega,hw⟩
   | false =>
    rcases h with ⟨h1,h2⟩ | ⟨h1,h2,h3⟩
    ·rw[h1] at hc
     cases hc
    ·exact .inr ⟨h1,by show v<_;omega,h3⟩
theorem Qzu (p0:Disk):(Qae p0= -1∧(∀ j,j<p0.Slots.length→(nth p0.Slots j).Whole=false))∨(0≤Qae p0∧Qae p0<(p0.Slots.length:Int)∧(nth p0.Slots (Qae p0).toNat).Whole=true):=
 Q07 p0 _ (-1) 0 (by omega) (.inl ⟨rfl,fun j hj=>by omega⟩)
theorem Q7y (p0:Disk): ∀ n i,Qdz p0 n i=true→i+n=p0.Slots.length→
  (∀ j,i≤j→j<p0.Slots.length→(nth p0.Slots j).Whole=true→Qcm (nth p0.Slots j).Seq 0 99999=true∧Qfw (nth p0.Slots j).Cells=true)∧((decide ((p0.Slots.length:Int)=2))&&(decide ((Qae p0)≥0)))=true∧Qan p0.Journal=true:=by
 intro n
 induction n with
 | zero =>
  intro i h hi
  rw[Qdz,Bool.and_eq_true] at h
  exact⟨fun j h1 h2=>by omega,h.1,h.2⟩
 | succ n ih =>
  intro i h hi
  rw[Qdz] at h
  cases hq:((nth p0.Slots i).Whole)&&((!(Qcm ((nth p0.Slots i).Seq) 0 99999))||(!(Qfw ((nth p0.Slots i).Cells)))) with
  | true=>rw[hq] at h;cases h
  | false =>
   rw[hq] at h
   obtain⟨h1,h2⟩:=ih (i+1) h (by omega)
   refine⟨fun j hj1 hj2 hw=>?_,h2⟩
   by_cases e:j=i
   ·subst e
    rw[hw,Bool.true_and,Bool.or_eq_false_iff,Bool.not_eq_false',Bool.not_eq_false'] at hq
    exact hq
   ·exact h1 j (by omega) hj2 hw
theorem Qjz {p0:Disk} (h:Qdv p0=true):p0.Slots.length=2∧0≤Qae p0∧Qae p0<(p0.Slots.length:Int)∧0≤(nth p0.Slots (Qae p0).toNat).Seq∧(nth p0.Slots (Qae p0).toNat).Seq≤99999∧(nth p0.Slots (Qae p0).toNat).Cells.length≤900∧p0.Journal.Text.size≤20000:=by
 obtain⟨h1,h2,h3⟩:=Q7y p0 _ _ h (by omega)
 rw[Bool.and_eq_true] at h2
 have hl:=of_decide_eq_true h2.1
 have hb:=of_decide_eq_true h2.2
 rcases Qzu p0 with ⟨e,_⟩ | ⟨b1,b2,b3⟩
 ·omega
 ·obtain⟨c1,c2⟩:=h1 _ (Nat.zero_le _) (by omega) b3
  have c3:=Qg5 c1
  have c4:=Q7q c2
  unfold Qan at h3
  rw[Bool.and_eq_true] at h3
  have c5:=of_decide_eq_true h3.1
  exact⟨by omega,b1,b2,c3.1,c3.2,c4,by omega⟩
theorem Q05 (p0:Disk): ∀ n i,Qdz p0 n i=(((decide ((p0.Slots.length:Int)=2))&&(decide ((Qae p0)≥0)))&&Qf6 p0 n i):=by
 intro n
 induction n with
 | zero=>intro i;rfl
 | succ n ih =>
  intro i
  rw[Qdz,Qf6,ih,Qwl,Qph]
  cases((nth p0.Slots i).Whole)&&((!(Qcm ((nth p0.Slots i).Seq) 0 99999))||(!(Qfw ((nth p0.Slots i).Cells)))) with
  | true=>rw[cond_true,cond_true,Bool.and_false]
  | false=>rfl
theorem Qmu (p0:Disk):Qe2 p0=Qdv p0:=by
 unfold Qe2 Qdv
 rw[Q05]
 by_cases hl:(p0.Slots.length:Int)=2
 ·rw[decide_eq_true hl,Bool.not_true,Bool.false_or,Bool.true_and]
  rcases Qzu p0 with ⟨e,hw⟩ | ⟨b1,b2,b3⟩
  ·rw[hw 0 (by omega),hw 1 (by omega),e]
   rfl
  ·rw[decide_eq_true (show Qae p0≥0 from b1),Bool.true_and]
   have hb:(Qae p0).toNat=0∨(Qae p0).toNat=1:=by omega
   rcases hb with hb | hb
   ·rw[hb] at b3
    rw[b3]
    rfl
   ·rw[hb] at b3
    rw[b3,Bool.not_true,Bool.and_false]
    rfl
 ·rw[decide_eq_false hl]
  rfl
theorem Qtb {p0:Disk} (h:Qe2 p0=true):p0.Slots.length=2∧0≤Qab p0∧Qab p0<(p0.Slots.length:Int)∧0≤(nth p0.Slots (Qab p0).toNat).Seq∧(nth p0.Slots (Qab p0).toNat).Seq≤99999∧(nth p0.Slots (Qab p0).toNat).Cells.length≤900∧p0.Journal.Text.size≤20000:=by
 rw[Qhz]
 exact Qjz (by rw[←Qmu];exact h)
theorem Ybq {P:List Cell→Prop} (h0:P []) {xs:List (List Cell)} (h: ∀ x∈xs,P x) (k:Nat):P (nth xs k):=by
 unfold nth
 rw[List.getD_eq_getElem?_getD]
 cases hk:xs[k]? with
 | none=>exact h0
 | some x=>exact h x (mem_of_getElem? hk)
theorem Qp1 (p0:ByteArray) (p1:Int): ∀ n v s i,(∀ x∈v,x.length≤4001)→(Qbj p0 p1 n v s i).1.length≤v.length+n∧ ∀ x∈(Qbj p0 p1 n v s i).1,x.length≤4001:=by
  intro n
  induction n with
  | zero=>intro v s i h;exact⟨Nat.le_refl _,h⟩
  | succ n ih =>
    intro v s i h
    rw[Qbj]
    have hx:=Qr2 (nth (Qbk p0) i)
    generalize ((!_)||((!(_))&&(!_)))=q
    cases q with
    | true=>exact⟨by show v.length≤_;omega,h⟩
    | false =>
      rw[cond_false]
      generalize (!(decide ((v.length:Int)=0)&&decide (((Qaw (nth (Qbk p0) i)).1)<p1)))=r
      cases r with
      | false=>have:=ih v (i64.wrap (s+((nth (Qbk p0) i).size:Int))) (i+1) h;exact⟨by have:=this.1;rw[cond_false];omega,this.2⟩
      | true =>
        have := ih (v ++ [(Qaw (nth (Qbk p0) i)).2.1]) (i64.wrap (s + ((nth (Qbk p0) i).size : Int))) (i + 1) (fun x hxm => by
          rcases List.mem_append.1 hxm with hxm | hxm
          · exact h x hxm
          · rw[mem_singleton.1 hxm];exact hx)
        exact⟨by have h1:=this.1;rw[length_append,length_singleton] at h1;rw[cond_true];omega,this.2⟩
theorem Qta (p0:ByteArray) (p1:Int):(Qac p0 p1).1.length≤p0.size+1∧ ∀ k,(nth (Qac p0 p1).1 k).length≤4001:=by
 have key:(Qac p0 p1).1.length≤(Qbk p0).length∧ ∀ x∈(Qac p0 p1).1,x.length≤4001:=by
  unfold Qac
  cases(!(Qcd p1 1 100000)) with
  | true=>exact⟨Nat.zero_le _,fun x hx=>by cases hx⟩
  | false =>
   have:=Qp1 p0 p1 ((Qbk p0).length - 0) [] 0 0 (fun x hx=>by cases hx)
   rw[cond_false]
   exact⟨by have:=this.1;rw[length_nil] at this;omega,this.2⟩
 have:=Q2u p0
 exact⟨by omega,fun k=>Ybq (P:=fun l=>l.length≤4001) (Nat.zero_le _) key.2 k⟩
theorem Qpo (p0:ByteArray) (p1:Int): ∀ n v s i,(∀ x∈v,x.length≤4001)→(Qcs p0 p1 n v s i).1.length≤v.length+n∧ ∀ x∈(Qcs p0 p1 n v s i).1,x.length≤4001:=by
  intro n
  induction n with
  | zero=>intro v s i h;exact⟨Nat.le_refl _,h⟩
  | succ n ih =>
    intro v s i h
    rw[Qcs]
    have hx:=Qrq (nth (Qaq p0) i)
    generalize ((!_)||((!(_))&&(_)))=q
    cases q with
    | true=>exact⟨by show v.length≤_;omega,h⟩
    | false =>
      rw[cond_false]
      generalize (decide (((Qa8 (nth (Qaq p0) i)).1)=(i64.wrap (p1+(v.length:Int)))))=r
      cases r with
      | false=>have:=ih v (i64.wrap (s+((nth (Qaq p0) i).size:Int))) (i+1) h;exact⟨by have:=this.1;rw[cond_false];omega,this.2⟩
      | true =>
        have := ih (v ++ [(Qa8 (nth (Qaq p0) i)).2.1]) (i64.wrap (s + ((nth (Qaq p0) i).size : Int))) (i + 1) (fun x hxm => by
          rcases List.mem_append.1 hxm with hxm | hxm
          · exact h x hxm
          · rw[mem_singleton.1 hxm];exact hx)
        exact⟨by have h1:=this.1;rw[length_append,length_singleton] at h1;rw[cond_true];omega,this.2⟩
theorem Qg6 (p0:ByteArray) (p1:Int):(Qal p0 p1).1.length≤p0.size+1∧ ∀ k,(nth (Qal p0 p1).1 k).length≤4001:=by
 have key:(Qal p0 p1).1.length≤(Qaq p0).length∧ ∀ x∈(Qal p0 p1).1,x.length≤4001:=by
  unfold Qal
  cases(!(Qcm p1 1 100000)) with
  | true=>exact⟨Nat.zero_le _,fun x hx=>by cases hx⟩
  | false =>
   have:=Qpo p0 p1 ((Qaq p0).length - 0) [] 0 0 (fun x hx=>by cases hx)
   rw[cond_false]
   exact⟨by have:=this.1;rw[length_nil] at this;omega,this.2⟩
 have:=Qpp p0
 exact⟨by omega,fun k=>Ybq (P:=fun l=>l.length≤4001) (Nat.zero_le _) key.2 k⟩
theorem Qok (p0 p1:List Cell): ∀ n v i,(Qbe p0 p1 n v i).length≤v.length+n:=by
 intro n
 induction n with
 | zero=>intro v i;exact Nat.le_refl _
 | succ n ih =>
  intro v i
  rw[Qbe]
  have:=ih (Qhs v ((nth p1 i).Key) ((nth p1 i).Val)) (i+1)
  have:=Qjy v ((nth p1 i).Key) ((nth p1 i).Val)
  omega
theorem Qi1 (p0 p1:List Cell):(Qfx p0 p1).length≤p0.length+p1.length:=by
 have:=Qok p0 p1 (p1.length - 0) ([]++p0) 0
 rw[nil_append] at this
 unfold Qfx
 rw[nil_append]
 omega
theorem Q6q (p0:List Cell):(Qas p0).length=p0.length:=by
 unfold Qas
 rw[nil_append]
end
section
theorem Ynq:FnOk Tryz.prog 36:=⟨_,Tryz.func36,rfl,by kernel_rfl⟩
theorem Yii:FnOk Tryz.prog 37:=⟨_,Tryz.func37,rfl,by kernel_rfl⟩
theorem Ynm:FnOk Tryz.prog 43:=⟨_,Tryz.func43,rfl,by kernel_rfl⟩
theorem Yig:FnOk Tryz.prog 44:=⟨_,Tryz.func44,rfl,by kernel_rfl⟩
theorem Yed:FnOk Tryz.prog 79:=⟨_,Tryz.func79,rfl,by kernel_rfl⟩
theorem Yic:FnOk Tryz.prog 81:=⟨_,Tryz.func81,rfl,by kernel_rfl⟩
theorem Ym6:FnOk Tryz.prog 82:=⟨_,Tryz.func82,rfl,by kernel_rfl⟩
theorem Yeb:FnOk Tryz.prog 88:=⟨_,Tryz.func88,rfl,by kernel_rfl⟩
theorem Yg7:FnOk Tryz.prog 89:=⟨_,Tryz.func89,rfl,by kernel_rfl⟩
theorem Yib:FnOk Tryz.prog 90:=⟨_,Tryz.func90,rfl,by kernel_rfl⟩
theorem Qtd:FnOk Tryz.prog 91:=⟨_,Tryz.func91,rfl,by kernel_rfl⟩
theorem Ym0:FnOk Tryz.prog 92:=⟨_,Tryz.func92,rfl,by kernel_rfl⟩
def Qee (p0:Disk) (v7:List Cell) (i:Nat) (k_2:(List Cell)→((List Cell)×Int)):Nat→(List Cell)→Nat→(List Cell)×Int
 | 0,v7_2,i_2=>k_2 v7_2
 | n_2+1,v7_2,i_2=>Qee p0 v7 i k_2 n_2 (Qlr v7_2 ((nth (nth ((Qac p0.Journal.Text (i64.wrap (((nth p0.Slots ((Qab p0).toNat)).Seq)+1))).1) i) i_2).Key) ((nth (nth ((Qac p0.Journal.Text (i64.wrap (((nth p0.Slots ((Qab p0).toNat)).Seq)+1))).1) i) i_2).Val)) (i_2+1)
def Qdo (p0:Disk):Nat→(List Cell)→Nat→(List Cell)×Int
 | 0,v7,i=>(v7,i64.wrap (((nth p0.Slots ((Qab p0).toNat)).Seq)+(((Qac p0.Journal.Text (i64.wrap (((nth p0.Slots ((Qab p0).toNat)).Seq)+1))).1).length:Int)))
 | n+1,v7,i=>Qee p0 v7 i (fun e=>Qdo p0 n e (i+1)) (((nth ((Qac p0.Journal.Text (i64.wrap (((nth p0.Slots ((Qab p0).toNat)).Seq)+1))).1) i).length) - 0) v7 0
def Qba (p0:Disk):(List Cell)×Int:=bif !(Qe2 p0) then([],0) else(Qdo p0 ((((Qac p0.Journal.Text (i64.wrap (((nth p0.Slots ((Qab p0).toNat)).Seq)+1))).1).length) - 0) (Qas ((nth p0.Slots ((Qab p0).toNat)).Cells)) 0)
theorem Qxd (p0:Disk):CTs 43 [.o (.st Disk _ inferInstance p0)] [Re.sl Cell instDatCell ((Qba p0).1),Re.c (.int .i64 ((Qba p0).2))]:=by
 refine en Tryz.func43 Tryz.ntmps43 fun w hG hgd=>?_
 obtain⟨hg_p0,_⟩:=hgd
 have hM:=Qba.eq_1 p0
 refine ad 10 ?_
 refine op (cl (Qlw p0) Yeb) ?_
 refine ad 2 ?_
 refine cd (fun h1=>?_) (fun h1=>?_)
 ·
  have hM:=hM.trans (bt h1)
  refine ad 5 ?_
  exact rz (rs:=[.tmp 2,.tmp 3]) (congrArg (fun x=>[Re.sl Cell instDatCell x.1,Re.c (.int .i64 x.2)]) hM)
 ·
  have hM:=hM.trans (bf h1)
  have hdk:=Qtb (by simpa using h1)
  have hri:=Qta p0.Journal.Text (i64.wrap (((nth p0.Slots ((Qab p0).toNat)).Seq)+1))
  have hrl:(Qac p0.Journal.Text (IntKind.i64.wrap (((nth p0.Slots ((Qab p0).toNat)).Seq)+1))).1.length≤20001:=by omega
  have hcl:=Q6q ((nth p0.Slots ((Qab p0).toNat)).Cells)
  refine ad 2 ?_
  refine Run.mid ⟨60,4,[(1,.pt 0 0),(4,.pt 2 0)],[(0,.var [.sl 1 p0.Slots.length,.v (.string p0.Journal.Text),.v (.int .i64 p0.Journal.Sure)] 40),(1,.ros Slot instDatSlot p0.Slots),(2,.var [.v (.int .i64 ((nth p0.Slots ((Qab p0).toNat)).Seq)),.sl 3 ((nth p0.Slots ((Qab p0).toNat)).Cells.length),.v (.bool ((nth p0.Slots ((Qab p0).toNat)).Whole))] 108),(3,.ros Cell instDatCell ((nth p0.Slots ((Qab p0).toNat)).Cells))]⟩ ?_ ?_
  ·
   refine dr 8 fun _ _ _ _ _ hb=>?_
   refine tk [0,1,2] ?_
   refine o2 3 6 ?_ ?_
   ·
    refine on1 3 [0,1] (cl (Qmr p0) Yg7) ?_
    refine o2 4 6 ?_ ?_
    ·
     refine on1 4 [2,3] (ix (xs:=p0.Slots) ((Qab p0).toNat) om (hi:=om)) ?_
     refine o2 5 6 ?_ ?_
     ·
      refine on1 5 [2,3] (OpS.st rfl) ?_
      refine on 6 [3,4] (OpS.st rfl) ?_
      refine on 7 [3,4] (OpS.st rfl) ?_
      refine dn hb ?_
      exact Run.at [1,0,4,3] [3,4,0,2] su (by decide)
     ·
      refine on1 6 [3,4] (OpS.st rfl) ?_
      refine on 5 [3,4] (OpS.st rfl) ?_
      refine on 7 [3,4] (OpS.st rfl) ?_
      refine dn hb ?_
      exact Run.at [1,0,4,3] [3,4,0,2] su (by decide)
    ·
     refine on1 6 [1,2] (OpS.st rfl) ?_
     refine on 4 [3,4] (ix (xs:=p0.Slots) ((Qab p0).toNat) om (hi:=om)) ?_
     refine on 5 [3,4] (OpS.st rfl) ?_
     refine on 7 [3,4] (OpS.st rfl) ?_
     refine dn hb ?_
     exact Run.at [1,0,2,4] [3,4,2,1] su (by decide)
   ·
    refine on1 6 [1,2] (OpS.st rfl) ?_
    refine on 3 [1,2] (cl (Qmr p0) Yg7) ?_
    refine on 4 [3,4] (ix (xs:=p0.Slots) ((Qab p0).toNat) om (hi:=om)) ?_
    refine on 5 [3,4] (OpS.st rfl) ?_
    refine on 7 [3,4] (OpS.st rfl) ?_
    refine dn hb ?_
    exact Run.at [1,0,2,4] [3,4,2,1] su (by decide)
  refine ad 8 ?_
  refine og (clg (Qpa p0.Journal.Text (i64.wrap (((nth p0.Slots ((Qab p0).toNat)).Seq)+1)) lv2) Yib) fun hgq=>?_
  obtain⟨hg5,_⟩:=hgq
  refine ad 10 ?_
  refine og (clg (Qbn ((nth p0.Slots ((Qab p0).toNat)).Cells) lv2) Qtd) fun hgq=>?_
  obtain⟨hg6,_⟩:=hgq
  refine ad 10 ?_
  refine fz 4 ?_
  refine Run.loopM (ι:=(List Cell)×Nat) (fun s=>Qdo p0 ((((Qac p0.Journal.Text (i64.wrap (((nth p0.Slots ((Qab p0).toNat)).Seq)+1))).1).length) - s.2) s.1 s.2) (fun s=>⟨60,4,[(4,.pt 0 0),(5,.sl 2 (((Qac p0.Journal.Text (i64.wrap (((nth p0.Slots ((Qab p0).toNat)).Seq)+1))).1).length)),(7,.sl 3 s.1.length),(34,.sl 2 (((Qac p0.Journal.Text (i64.wrap (((nth p0.Slots ((Qab p0).toNat)).Seq)+1))).1).length)),(35,.v (.int .i64 (((Qac p0.Journal.Text (i64.wrap (((nth p0.Slots ((Qab p0).toNat)).Seq)+1))).1).length:Int))),(36,.v (.int .i64 (s.2:Int)))],[(0,.var [.v (.int .i64 ((nth p0.Slots ((Qab p0).toNat)).Seq)),.sl 1 ((nth p0.Slots ((Qab p0).toNat)).Cells.length),.v (.bool ((nth p0.Slots ((Qab p0).toNat)).Whole))] 108),(1,.ros Cell instDatCell ((nth p0.Slots ((Qab p0).toNat)).Cells)),(2,.ros (List Cell) (@instDatList _ instDatCell) ((Qac p0.Journal.Text (i64.wrap (((nth p0.Slots ((Qab p0).toNat)).Seq)+1))).1)),(3,.own Cell instDatCell s.1)]⟩) (fun s=>s.2≤((Qac p0.Journal.Text (i64.wrap (((nth p0.Slots ((Qab p0).toNat)).Seq)+1))).1).length∧s.1.length≤900+4001*s.2) (fun s=>(((Qac p0.Journal.Text (i64.wrap (((nth p0.Slots ((Qab p0).toNat)).Seq)+1))).1).length) - s.2) ((Qas ((nth p0.Slots ((Qab p0).toNat)).Cells)),0) [2,3,4,5] [4,5,1,0] hM (by exact⟨by(try dsimp only);omega,by(try dsimp only);omega⟩) su (by decide) ?_
  rintro ⟨v7,i⟩ hv hE
  try dsimp only at hE
  obtain⟨hi,hv0⟩:=hv
  try dsimp only at hi hv0
  refine ad 5 ?_
  refine cd (fun h7=>?_) (fun h7=>?_)
  ·
   have h7l:i<((Qac p0.Journal.Text (i64.wrap (((nth p0.Slots ((Qab p0).toNat)).Seq)+1))).1).length:=dtl h7
   have hM:=hE.trans ((congrArg (fun n=>Qdo p0 n v7 i) (show(((Qac p0.Journal.Text (i64.wrap (((nth p0.Slots ((Qab p0).toNat)).Seq)+1))).1).length) - i=((((Qac p0.Journal.Text (i64.wrap (((nth p0.Slots ((Qab p0).toNat)).Seq)+1))).1).length) - (i+1))+1 by omega)).trans (Qdo.eq_2 _ _ _ _))
   have hrk:=hri.2 i
   refine ad 5 ?_
   have hg9:=Qai (k:=i) hg5 om
   refine op (ix (xs:=(Qac p0.Journal.Text (i64.wrap (((nth p0.Slots ((Qab p0).toNat)).Seq)+1))).1) i om) ?_
   refine ad 10 ?_
   refine Run.loopkM (ι:=(List Cell)×Nat) (κ:=(List Cell)) (fun k s=>Qee p0 v7 i k (((nth ((Qac p0.Journal.Text (i64.wrap (((nth p0.Slots ((Qab p0).toNat)).Seq)+1))).1) i).length) - s.2) s.1 s.2) (fun s=>⟨60,5,[(4,.pt 0 0),(5,.sl 2 (((Qac p0.Journal.Text (i64.wrap (((nth p0.Slots ((Qab p0).toNat)).Seq)+1))).1).length)),(7,.sl 4 s.1.length),(34,.sl 2 (((Qac p0.Journal.Text (i64.wrap (((nth p0.Slots ((Qab p0).toNat)).Seq)+1))).1).length)),(35,.v (.int .i64 (((Qac p0.Journal.Text (i64.wrap (((nth p0.Slots ((Qab p0).toNat)).Seq)+1))).1).length:Int))),(36,.v (.int .i64 (i:Int))),(40,.sl 3 ((nth ((Qac p0.Journal.Text (i64.wrap (((nth p0.Slots ((Qab p0).toNat)).Seq)+1))).1) i).length)),(41,.v (.int .i64 ((nth ((Qac p0.Journal.Text (i64.wrap (((nth p0.Slots ((Qab p0).toNat)).Seq)+1))).1) i).length:Int))),(42,.v (.int .i64 (s.2:Int)))],[(0,.var [.v (.int .i64 ((nth p0.Slots ((Qab p0).toNat)).Seq)),.sl 1 ((nth p0.Slots ((Qab p0).toNat)).Cells.length),.v (.bool ((nth p0.Slots ((Qab p0).toNat)).Whole))] 108),(1,.ros Cell instDatCell ((nth p0.Slots ((Qab p0).toNat)).Cells)),(2,.ros (List Cell) (@instDatList _ instDatCell) ((Qac p0.Journal.Text (i64.wrap (((nth p0.Slots ((Qab p0).toNat)).Seq)+1))).1)),(3,.ros Cell instDatCell (nth ((Qac p0.Journal.Text (i64.wrap (((nth p0.Slots ((Qab p0).toNat)).Seq)+1))).1) i)),(4,.own Cell instDatCell s.1)]⟩) (fun s=>s.2≤(nth ((Qac p0.Journal.Text (i64.wrap (((nth p0.Slots ((Qab p0).toNat)).Seq)+1))).1) i).length∧s.1.length≤v7.length+s.2) (fun s=>((nth ((Qac p0.Journal.Text (i64.wrap (((nth p0.Slots ((Qab p0).toNat)).Seq)+1))).1) i).length) - s.2) (fun e=>⟨60,4,[(4,.pt 0 0),(5,.sl 2 (((Qac p0.Journal.Text (i64.wrap (((nth p0.Slots ((Qab p0).toNat)).Seq)+1))).1).length)),(7,.sl 3 e.length),(34,.sl 2 (((Qac p0.Journal.Text (i64.wrap (((nth p0.Slots ((Qab p0).toNat)).Seq)+1))).1).length)),(35,.v (.int .i64 (((Qac p0.Journal.Text (i64.wrap (((nth p0.Slots ((Qab p0).toNat)).Seq)+1))).1).length:Int))),(36,.v (.int .i64 (i:Int)))],[(0,.var [.v (.int .i64 ((nth p0.Slots ((Qab p0).toNat)).Seq)),.sl 1 ((nth p0.Slots ((Qab p0).toNat)).Cells.length),.v (.bool ((nth p0.Slots ((Qab p0).toNat)).Whole))] 108),(1,.ros Cell instDatCell ((nth p0.Slots ((Qab p0).toNat)).Cells)),(2,.ros (List Cell) (@instDatList _ instDatCell) ((Qac p0.Journal.Text (i64.wrap (((nth p0.Slots ((Qab p0).toNat)).Seq)+1))).1)),(3,.own Cell instDatCell e)]⟩) (fun e=>e.length≤v7.length+(nth (Qac p0.Journal.Text (i64.wrap (((nth p0.Slots ((Qab p0).toNat)).Seq)+1))).1 i).length) (v7,0) [0,1,2,5,3] [2,3,4,1,5] hM (by exact⟨by(try dsimp only);omega,by(try dsimp only);omega⟩) su (by decide) ?_ ?_
   ·
    rintro ev7_2 hv hM
    try dsimp only at hM hv ⊢
    refine ad 3 ?_
    rw[Qb3 (i:=i) om]
    refine ad 2 ?_
    exact Run.again (ev7_2,(i+1)) [0,1,2,3] [0,1,2,3] ⟨by exact⟨by(try dsimp only);omega,by(try dsimp only);omega⟩,hM⟩ rfl lv1 su (by decide)
   ·
    intro k_2 hk_2
    rintro ⟨v7_2,i_2⟩ hv_2 hE
    try dsimp only at hE
    obtain⟨hi_2,hv_2_0⟩:=hv_2
    try dsimp only at hi_2 hv_2_0
    refine ad 5 ?_
    refine cd (fun h10=>?_) (fun h10=>?_)
    ·
     have h10l:i_2<(nth ((Qac p0.Journal.Text (i64.wrap (((nth p0.Slots ((Qab p0).toNat)).Seq)+1))).1) i).length:=dtl h10
     have hM:=hE.trans ((congrArg (fun n=>Qee p0 v7 i k_2 n v7_2 i_2) (show((nth ((Qac p0.Journal.Text (i64.wrap (((nth p0.Slots ((Qab p0).toNat)).Seq)+1))).1) i).length) - i_2=(((nth ((Qac p0.Journal.Text (i64.wrap (((nth p0.Slots ((Qab p0).toNat)).Seq)+1))).1) i).length) - (i_2+1))+1 by omega)).trans (Qee.eq_2 _ _ _ _ _ _ _))
     have hgc:=Qai (k:=i_2) (Qai (k:=i) hg5 om) om
     have hgk:(nth (nth (Qac p0.Journal.Text (i64.wrap (((nth p0.Slots ((Qab p0).toNat)).Seq)+1))).1 i) i_2).Key.size≤9223372036854775807:=hgc.1
     have hgv:(nth (nth (Qac p0.Journal.Text (i64.wrap (((nth p0.Slots ((Qab p0).toNat)).Seq)+1))).1 i) i_2).Val.size≤9223372036854775807:=hgc.2
     have hpl:=Q51 v7_2 (nth (nth (Qac p0.Journal.Text (i64.wrap (((nth p0.Slots ((Qab p0).toNat)).Seq)+1))).1 i) i_2).Key (nth (nth (Qac p0.Journal.Text (i64.wrap (((nth p0.Slots ((Qab p0).toNat)).Seq)+1))).1 i) i_2).Val (by omega)
     refine ad 5 ?_
     have hg12:=Qai (k:=i_2) hg9 om
     refine op (ix (xs:=(nth ((Qac p0.Journal.Text (i64.wrap (((nth p0.Slots ((Qab p0).toNat)).Seq)+1))).1) i)) i_2 om) ?_
     refine ad 10 ?_
     refine og (cm [4] [] [6] [] [0,1,2,3,4,5] (Yaq v7_2 ((nth (nth ((Qac p0.Journal.Text (i64.wrap (((nth p0.Slots ((Qab p0).toNat)).Seq)+1))).1) i) i_2).Key) ((nth (nth ((Qac p0.Journal.Text (i64.wrap (((nth p0.Slots ((Qab p0).toNat)).Seq)+1))).1) i) i_2).Val) hg12.1 lv2 lv2 lv2) Ym0) fun _=>?_
     refine ad 5 ?_
     rw[Qb3 (i:=i_2) om]
     refine ad 2 ?_
     exact Run.again ((Qlr v7_2 ((nth (nth ((Qac p0.Journal.Text (i64.wrap (((nth p0.Slots ((Qab p0).toNat)).Seq)+1))).1) i) i_2).Key) ((nth (nth ((Qac p0.Journal.Text (i64.wrap (((nth p0.Slots ((Qab p0).toNat)).Seq)+1))).1) i) i_2).Val)),(i_2+1)) [0,1,2,3,7] [3,4,5,6,0] ⟨by exact⟨by(try dsimp only);omega,by(try dsimp only);omega⟩,hM⟩ rfl lv1 su (by decide)
    ·
     have h10l: ¬ (i_2<(nth ((Qac p0.Journal.Text (i64.wrap (((nth p0.Slots ((Qab p0).toNat)).Seq)+1))).1) i).length):=dfl h10
     have hM:=hE.trans ((congrArg (fun n=>Qee p0 v7 i k_2 n v7_2 i_2) (show((nth ((Qac p0.Journal.Text (i64.wrap (((nth p0.Slots ((Qab p0).toNat)).Seq)+1))).1) i).length) - i_2=0 by omega)).trans (Qee.eq_1 _ _ _ _ _ _))
     refine ad 1 ?_
     exact Run.exitkM hk_2 v7_2 [0,1,2,4] [0,1,2,4] hM (by((try dsimp only);omega)) su (by decide)
  ·
   have h7l: ¬ (i<((Qac p0.Journal.Text (i64.wrap (((nth p0.Slots ((Qab p0).toNat)).Seq)+1))).1).length):=dfl h7
   have hM:=hE.trans ((congrArg (fun n=>Qdo p0 n v7 i) (show(((Qac p0.Journal.Text (i64.wrap (((nth p0.Slots ((Qab p0).toNat)).Seq)+1))).1).length) - i=0 by omega)).trans (Qdo.eq_1 _ _ _))
   refine ad 2 ?_
   refine dr 8 fun _ _ _ _ _ hb=>?_
   refine tk [0,1,2,3,4,5,6,7] ?_
   refine dn hb ?_
   exact rz (rs:=[.tmp 2,.tmp 3]) (congrArg (fun x=>[Re.sl Cell instDatCell x.1,Re.c (.int .i64 x.2)]) hM)
def Qbx (p0:Disk):Nat→(List Cell)→Nat→(List Cell)×Int
 | 0,v5,i=>(v5,i64.wrap (((nth p0.Slots ((Qae p0).toNat)).Seq)+(((Qal p0.Journal.Text (i64.wrap (((nth p0.Slots ((Qae p0).toNat)).Seq)+1))).1).length:Int)))
 | n+1,v5,i=>Qbx p0 n (Qfx v5 (nth ((Qal p0.Journal.Text (i64.wrap (((nth p0.Slots ((Qae p0).toNat)).Seq)+1))).1) i)) (i+1)
def Qay (p0:Disk):(List Cell)×Int:=bif !(Qdv p0) then(([]:List Cell),0) else(Qbx p0 ((((Qal p0.Journal.Text (i64.wrap (((nth p0.Slots ((Qae p0).toNat)).Seq)+1))).1).length) - 0) (([]:List Cell)++((nth p0.Slots ((Qae p0).toNat)).Cells)) 0)
theorem Qw4 (p0:Disk):CTs 36 [.o (.st Disk _ inferInstance p0)] [Re.sl Cell instDatCell ((Qay p0).1),Re.c (.int .i64 ((Qay p0).2))]:=by
 refine en Tryz.func36 Tryz.ntmps36 fun w hG hgd=>?_
 obtain⟨hg_p0,_⟩:=hgd
 have hM:=Qay.eq_1 p0
 refine ad 10 ?_
 refine op (cl (Qlu p0) Yed) ?_
 refine ad 2 ?_
 refine cd (fun h1=>?_) (fun h1=>?_)
 ·
  have hM:=hM.trans (bt h1)
  refine ad 2 ?_
  refine op (l0) ?_
  refine ad 3 ?_
  refine li 2 (d:=instDatCell) ([]:List Cell) ?_
  exact rz (rs:=[.tmp 2,.tmp 3]) (congrArg (fun x=>[Re.sl Cell instDatCell x.1,Re.c (.int .i64 x.2)]) hM)
 ·
  have hM:=hM.trans (bf h1)
  have hdk:=Qjz (by simpa using h1)
  have hri:=Qg6 p0.Journal.Text (i64.wrap (((nth p0.Slots ((Qae p0).toNat)).Seq)+1))
  have hrl:(Qal p0.Journal.Text (IntKind.i64.wrap (((nth p0.Slots ((Qae p0).toNat)).Seq)+1))).1.length≤20001:=by omega
  refine ad 2 ?_
  refine Run.mid ⟨51,4,[(1,.pt 0 0),(4,.pt 2 0)],[(0,.var [.sl 1 p0.Slots.length,.v (.string p0.Journal.Text),.v (.int .i64 p0.Journal.Sure)] 40),(1,.ros Slot instDatSlot p0.Slots),(2,.var [.v (.int .i64 ((nth p0.Slots ((Qae p0).toNat)).Seq)),.sl 3 ((nth p0.Slots ((Qae p0).toNat)).Cells.length),.v (.bool ((nth p0.Slots ((Qae p0).toNat)).Whole))] 108),(3,.ros Cell instDatCell ((nth p0.Slots ((Qae p0).toNat)).Cells))]⟩ ?_ ?_
  ·
   refine dr 8 fun _ _ _ _ _ hb=>?_
   refine tk [0,1,2] ?_
   refine o2 3 6 ?_ ?_
   ·
    refine on1 3 [0,1] (cl (Qj9 p0) Yec) ?_
    refine o2 4 6 ?_ ?_
    ·
     refine on1 4 [2,3] (ix (xs:=p0.Slots) ((Qae p0).toNat) om (hi:=om)) ?_
     refine o2 5 6 ?_ ?_
     ·
      refine on1 5 [2,3] (OpS.st rfl) ?_
      refine on 6 [3,4] (OpS.st rfl) ?_
      refine on 7 [3,4] (OpS.st rfl) ?_
      refine dn hb ?_
      exact Run.at [1,0,4,3] [3,4,0,2] su (by decide)
     ·
      refine on1 6 [3,4] (OpS.st rfl) ?_
      refine on 5 [3,4] (OpS.st rfl) ?_
      refine on 7 [3,4] (OpS.st rfl) ?_
      refine dn hb ?_
      exact Run.at [1,0,4,3] [3,4,0,2] su (by decide)
    ·
     refine on1 6 [1,2] (OpS.st rfl) ?_
     refine on 4 [3,4] (ix (xs:=p0.Slots) ((Qae p0).toNat) om (hi:=om)) ?_
     refine on 5 [3,4] (OpS.st rfl) ?_
     refine on 7 [3,4] (OpS.st rfl) ?_
     refine dn hb ?_
     exact Run.at [1,0,2,4] [3,4,2,1] su (by decide)
   ·
    refine on1 6 [1,2] (OpS.st rfl) ?_
    refine on 3 [1,2] (cl (Qj9 p0) Yec) ?_
    refine on 4 [3,4] (ix (xs:=p0.Slots) ((Qae p0).toNat) om (hi:=om)) ?_
    refine on 5 [3,4] (OpS.st rfl) ?_
    refine on 7 [3,4] (OpS.st rfl) ?_
    refine dn hb ?_
    exact Run.at [1,0,2,4] [3,4,2,1] su (by decide)
  refine ad 2 ?_
  refine op (l0) ?_
  refine ad 2 ?_
  refine li 4 (d:=instDatCell) ([]:List Cell) ?_
  refine op (aS (dα:=instDatCell) (e:=114) (by':=32) ([]:List Cell) ((nth p0.Slots ((Qae p0).toNat)).Cells) [4] (hb:=by(try simp only[List.length_append,List.length_cons,List.length_nil]);first | omega | exact om) (hm:=by(try simp only[List.length_append,List.length_cons,List.length_nil]);first | omega | exact om)) ?_
  refine ad 10 ?_
  refine og (clg (Qo4 p0.Journal.Text (i64.wrap (((nth p0.Slots ((Qae p0).toNat)).Seq)+1)) hg_p0.2.1 lv2) Yic) fun hgq=>?_
  obtain⟨hg5,_⟩:=hgq
  refine ad 12 ?_
  refine fz 6 ?_
  refine Run.loopM (ι:=(List Cell)×Nat) (fun s=>Qbx p0 ((((Qal p0.Journal.Text (i64.wrap (((nth p0.Slots ((Qae p0).toNat)).Seq)+1))).1).length) - s.2) s.1 s.2) (fun s=>⟨51,4,[(4,.pt 0 0),(5,.sl 3 s.1.length),(6,.sl 2 (((Qal p0.Journal.Text (i64.wrap (((nth p0.Slots ((Qae p0).toNat)).Seq)+1))).1).length)),(8,.v (.int .i64 (s.2:Int)))],[(0,.var [.v (.int .i64 ((nth p0.Slots ((Qae p0).toNat)).Seq)),.sl 1 ((nth p0.Slots ((Qae p0).toNat)).Cells.length),.v (.bool ((nth p0.Slots ((Qae p0).toNat)).Whole))] 108),(1,.ros Cell instDatCell ((nth p0.Slots ((Qae p0).toNat)).Cells)),(2,.ros (List Cell) (@instDatList _ instDatCell) ((Qal p0.Journal.Text (i64.wrap (((nth p0.Slots ((Qae p0).toNat)).Seq)+1))).1)),(3,.own Cell instDatCell s.1)]⟩) (fun s=>s.2≤((Qal p0.Journal.Text (i64.wrap (((nth p0.Slots ((Qae p0).toNat)).Seq)+1))).1).length∧s.1.length≤900+4001*s.2) (fun s=>(((Qal p0.Journal.Text (i64.wrap (((nth p0.Slots ((Qae p0).toNat)).Seq)+1))).1).length) - s.2) ((([]:List Cell)++((nth p0.Slots ((Qae p0).toNat)).Cells)),0) [2,3,6,5] [4,5,0,1] hM (by exact⟨by(try dsimp only);omega,by(try dsimp only);(try rw[nil_append]);omega⟩) su (by decide) ?_
  rintro ⟨v5,i⟩ hv hE
  try dsimp only at hE
  obtain⟨hi,hv0⟩:=hv
  try dsimp only at hi hv0
  refine ad 8 ?_
  refine cd (fun h6=>?_) (fun h6=>?_)
  ·
   have h6l:i<((Qal p0.Journal.Text (i64.wrap (((nth p0.Slots ((Qae p0).toNat)).Seq)+1))).1).length:=dtl h6
   have hM:=hE.trans ((congrArg (fun n=>Qbx p0 n v5 i) (show(((Qal p0.Journal.Text (i64.wrap (((nth p0.Slots ((Qae p0).toNat)).Seq)+1))).1).length) - i=((((Qal p0.Journal.Text (i64.wrap (((nth p0.Slots ((Qae p0).toNat)).Seq)+1))).1).length) - (i+1))+1 by omega)).trans (Qbx.eq_2 _ _ _ _))
   have hrk:=hri.2 i
   have hal:=Qi1 v5 (nth (Qal p0.Journal.Text (i64.wrap (((nth p0.Slots ((Qae p0).toNat)).Seq)+1))).1 i)
   refine ad 7 ?_
   have hg8:=Qai (k:=i) hg5 om
   refine op (ix (xs:=(Qal p0.Journal.Text (i64.wrap (((nth p0.Slots ((Qae p0).toNat)).Seq)+1))).1) i om) ?_
   refine ad 1 ?_
   refine og (clg (Qtl v5 (nth ((Qal p0.Journal.Text (i64.wrap (((nth p0.Slots ((Qae p0).toNat)).Seq)+1))).1) i) lv2) Ym6) fun hgq=>?_
   obtain⟨hg9,_⟩:=hgq
   refine ad 6 ?_
   rw[Qb3 (i:=i) om]
   refine ad 2 ?_
   exact Run.again ((Qfx v5 (nth ((Qal p0.Journal.Text (i64.wrap (((nth p0.Slots ((Qae p0).toNat)).Seq)+1))).1) i)),(i+1)) [0,1,2,6] [3,4,5,0] ⟨by exact⟨by(try dsimp only);omega,by(try dsimp only);omega⟩,hM⟩ rfl lv1 su (by decide)
  ·
   have h6l: ¬ (i<((Qal p0.Journal.Text (i64.wrap (((nth p0.Slots ((Qae p0).toNat)).Seq)+1))).1).length):=dfl h6
   have hM:=hE.trans ((congrArg (fun n=>Qbx p0 n v5 i) (show(((Qal p0.Journal.Text (i64.wrap (((nth p0.Slots ((Qae p0).toNat)).Seq)+1))).1).length) - i=0 by omega)).trans (Qbx.eq_1 _ _ _))
   refine ad 2 ?_
   refine dr 8 fun _ _ _ _ _ hb=>?_
   refine tk [0,1,2,3,4,5,6,7] ?_
   refine dn hb ?_
   exact rz (rs:=[.tmp 2,.tmp 3]) (congrArg (fun x=>[Re.sl Cell instDatCell x.1,Re.c (.int .i64 x.2)]) hM)
end
section
section
variable {α:Type} {S0:Nat→Prop} {w0 w:World} {x:α}
def MxL (S0:Nat→Prop) (w0 w:World) (x:α):Nat→List (Fk α)→List Value→List Nat→Prop
 | _,[],cs,F=>cs=[]∧F=[]
 | 0,f::fs,cs,F=>RdL S0 w0 x (f::fs) cs∧F=[]
 | k+1,f::fs,cs,F=> ∃ v r G H,cs=v::r∧F=G++H∧f.own w x v G∧MxL S0 w0 w x k fs r H
theorem Q4b: ∀ {fk:List (Fk α)} {cs:List Value},RdL S0 w0 x fk cs→MxL S0 w0 w x 0 fk cs []
 | [],_,h=>⟨h,rfl⟩
 | _::_,_,h=>⟨h,rfl⟩
theorem Q6o: ∀ {fk:List (Fk α)} {cs:List Value} {F:List Nat},MxL S0 w0 w x 0 fk cs F→RdL S0 w0 x fk cs∧F=[]
 | [],_,_,h=>h
 | _::_,_,_,h=>h
theorem Yc6: ∀ {fk:List (Fk α)} {cs:List Value},RdL S0 w0 x fk cs→cs.length=fk.length
 | [],_,h=>by rw[show _=[] from h];rfl
 | f::fs,_,⟨v,r,e,_,h2⟩=>by rw[e,length_cons,length_cons,Yc6 h2]
theorem Q7t: ∀ {k:Nat} {fk:List (Fk α)} {cs:List Value} {F:List Nat},MxL S0 w0 w x k fk cs F→cs.length=fk.length
 | 0,_,_,_,h=>Yc6 (Q6o h).1
 | _+1,[],_,_,h=>by rw[h.1];rfl
 | k+1,f::fs,_,_,⟨v,r,G,H,e,_,_,h2⟩=>by rw[e,length_cons,length_cons,Q7t h2]
theorem Q84: ∀ {k:Nat} {fk:List (Fk α)} {cs:List Value} {F:List Nat},fk.length≤k→MxL S0 w0 w x k fk cs F→OwL w x fk cs F
 | 0,[],_,_,_,h=>h
 | 0,_::_,_,_,hk,_=>absurd hk (by simp)
 | _+1,[],_,_,_,h=>h
 | k+1,f::fs,_,_,hk,⟨v,r,G,H,e1,e2,h1,h2⟩=>⟨v,r,G,H,e1,e2,h1,Q84 (by simpa using hk) h2⟩
theorem Ybo {f:Fk α} {w2:World} {v:Value} {G:List Nat} (h:f.own w x v G) (hs: ∀ b∈G,w2.heap[b]?=w.heap[b]?):f.own w2 x v G:=by
 have h1:OwL w x [f] [v] G:=⟨v,[],G,[],rfl,(append_nil _).symm,h,rfl,rfl⟩
 obtain⟨v',r,G',H,e1,e2,h2,e3,e4⟩:=Q83 h1 hs
 injection e1 with e1 _
 rw[e1,e2,e4,append_nil]
 exact h2
theorem Qxt {w2:World}: ∀ {k:Nat} {fk:List (Fk α)} {cs:List Value} {F:List Nat},MxL S0 w0 w x k fk cs F→(∀ b∈F,w2.heap[b]?=w.heap[b]?)→MxL S0 w0 w2 x k fk cs F
 | 0, fk, _, _, h, _ => by
  obtain⟨h1,rfl⟩:=Q6o h
  exact Q4b h1
 | _+1,[],_,_,h,_=>h
 | k + 1, f :: fs, _, _, ⟨v, r, G, H, e1, e2, h1, h2⟩, hs => by
  subst e2
  exact⟨v,r,G,H,e1,rfl,Ybo h1 fun b hb=>hs b (List.mem_append_left _ hb),Qxt h2 fun b hb=>hs b (List.mem_append_right _ hb)⟩
theorem Ygv {f:Fk α} {v:Value} {G:List Nat} (h:f.own w x v G): ∀ b∈G,b<w.heap.size:=by
 cases f with
 | int g=>rw[h.2];intro b hb;cases hb
 | byte g=>rw[h.2];intro b hb;cases hb
 | bool g=>rw[h.2];intro b hb;cases hb
 | str g=>rw[h.2];intro b hb;cases hb
 | sl β d g=>exact fun b hb=>SlO.lt h b hb
theorem Ygc: ∀ {k:Nat} {fk:List (Fk α)} {cs:List Value} {F:List Nat},MxL S0 w0 w x k fk cs F→ ∀ b∈F,b<w.heap.size
 | 0, fk, _, _, h => by
  obtain⟨_,rfl⟩:=Q6o h
  intro b hb;cases hb
 | _+1,[],_,_,h=>by rw[h.2];intro b hb;cases hb
 | k + 1, f :: fs, _, _, ⟨v, r, G, H, e1, e2, h1, h2⟩ => by
  subst e2
  intro b hb
  rcases List.mem_append.1 hb with hb | hb
  ·exact Ygv h1 b hb
  ·exact Ygc h2 b hb
theorem Yf9: ∀ {fk:List (Fk α)} {cs:List Value} {c:Nat} {f:Fk α},RdL S0 w0 x fk cs→fk[c]?=some f→ ∃ v,cs[c]?=some v∧f.rd S0 w0 x v
 | [],_,_,_,_,hf=>by cases hf
 | g::fs,_,0,f,⟨v,r,e,h1,_⟩,hf=>by cases hf;exact⟨v,by rw[e];rfl,h1⟩
 | g :: fs, _, c + 1, f, ⟨v, r, e, _, h2⟩, hf => by
  obtain⟨u,hu,hr⟩:=Yf9 (c:=c) h2 (by simpa using hf)
  exact⟨u,by rw[e];exact hu,hr⟩
theorem Yc8: ∀ {k:Nat} {fk:List (Fk α)} {cs:List Value} {F:List Nat} {c:Nat} {f:Fk α},MxL S0 w0 w x k fk cs F→fk[c]?=some f→k≤c→ ∃ v,cs[c]?=some v∧f.rd S0 w0 x v
 | 0,_,_,_,_,_,h,hf,_=>Yf9 (Q6o h).1 hf
 | _+1,[],_,_,_,_,_,hf,_=>by cases hf
 | k+1,g::fs,_,_,0,_,_,_,hk=>by omega
 | k + 1, g :: fs, _, _, c + 1, f, ⟨v, r, G, H, e1, e2, h1, h2⟩, hf, hk => by
  obtain⟨u,hu,hr⟩:=Yc8 (c:=c) h2 (by simpa using hf) (by omega)
  exact⟨u,by rw[e1];exact hu,hr⟩
theorem Q7s: ∀ {k:Nat} {fk:List (Fk α)} {cs:List Value} {F:List Nat} {f:Fk α} {v':Value} {G':List Nat},MxL S0 w0 w x k fk cs F→fk[k]?=some f→f.own w x v' G'→MxL S0 w0 w x (k+1) fk (cs.set k v') (F++G')
 | 0,[],_,_,_,_,_,_,hf,_=>by cases hf
 | 0, g :: fs, _, _, f, v', G', h, hf, ho => by
  obtain⟨⟨v,r,e,h1,h2⟩,rfl⟩:=h
  cases hf
  subst e
  exact⟨v',r,G',[],rfl,by rw[nil_append,append_nil],ho,Q4b h2⟩
 | k+1,[],_,_,_,_,_,_,hf,_=>by cases hf
 | k + 1, g :: fs, _, _, f, v', G', ⟨v, r, G, H, e1, e2, h1, h2⟩, hf, ho => by
  subst e1
  subst e2
  exact⟨v,r.set k v',G,H++G',rfl,by rw[append_assoc],h1,Q7s h2 (by simpa using hf) ho⟩
def Fk.isFlat:Fk α→Bool
 | .sl _ _ _=>false
 | _=>true
theorem Ybp {f:Fk α} {v:Value} (hf:f.isFlat=true) (h:f.rd S0 w0 x v):f.own w x v []:=by
 cases f with
 | int g=>exact⟨h,rfl⟩
 | byte g=>exact⟨h,rfl⟩
 | bool g=>exact⟨h,rfl⟩
 | str g=>exact⟨h,rfl⟩
 | sl β d g=>cases hf
theorem Yev {k:Nat} {fk:List (Fk α)} {cs:List Value} {F:List Nat} {f:Fk α} (h:MxL S0 w0 w x k fk cs F) (hf:fk[k]?=some f) (hfl:f.isFlat=true):MxL S0 w0 w x (k+1) fk cs F:=by
 obtain⟨v,hv,hr⟩:=Yc8 h hf (Nat.le_refl _)
 have:=Q7s h hf (Ybp (w:=w) hfl hr)
 rw[append_nil] at this
 have e:cs.set k v=cs:=by
  apply List.ext_getElem?
  intro j
  rw[List.getElem?_set]
  split
  ·rename_i e
   subst e
   split
   ·exact hv.symm
   ·rename_i hl
    rw[List.getElem?_eq_none (by omega)]
  ·rfl
 rwa [e] at this
end
section
variable {α:Type} [dα:Dat α] [s:Str α] {S0:Nat→Prop} {w0 w:World} {xs:List α}
def mst (N i k j:Nat):Nat:=if j<i then N else if j=i then k else 0
def MixP (S0:Nat→Prop) (w0:World) (xs:List α) (i k:Nat) (l:Loc) (w:World):Prop:=(l.A=none∧xs=[]∧l.cap=0∧l.F=[]) ∨
 ∃ g arr T Fs,l.A=some ⟨g,0,none⟩∧l.F=g::(Fs:List (List Nat)).flatten∧w.heap[g]?=some (.cells arr T (0,0))∧xs.length≤l.cap∧l.cap≤maxLen∧l.cap*Dat.sz α≤arr.size∧Fs.length=xs.length∧
  ∀ j x,xs[j]?=some x→ ∃ G,Fs[j]?=some G∧MxL S0 w0 w x (mst s.fk.length i k j) s.fk (Fw.cut (Dat.sz α) arr.toList j) G
theorem MixP.same {i k:Nat} {l:Loc} {w2:World} (h:MixP S0 w0 xs i k l w) (hw: ∀ b∈l.F,w2.heap[b]?=w.heap[b]?):MixP S0 w0 xs i k l w2:=by
 rcases h with h | ⟨g,arr,T,Fs,h1,h2,h3,h4,h5,h6,h7,h8⟩
 ·exact .inl h
 ·rw[h2] at hw
  refine .inr ⟨g,arr,T,Fs,h1,h2,(hw g List.mem_cons_self).trans h3,h4,h5,h6,h7,fun j x hj=>?_⟩
  obtain⟨G,hG,ho⟩:=h8 j x hj
  exact⟨G,hG,Qxt ho fun b hb=>hw b (mem_cons_of_mem _ (List.mem_flatten.2 ⟨G,mem_of_getElem? hG,hb⟩))⟩
theorem MixP.lt {i k:Nat} {l:Loc} (h:MixP S0 w0 xs i k l w): ∀ b∈l.F,b<w.heap.size:=by
 rcases h with ⟨_,_,_,h⟩ | ⟨g,arr,T,Fs,h1,h2,h3,h4,h5,h6,h7,h8⟩
 ·rw[h];intro b hb;cases hb
 ·rw[h2]
  intro b hb
  rcases List.mem_cons.1 hb with rfl | hb
  ·exact(Array.getElem?_eq_some_iff.1 h3).1
  ·obtain⟨G,hG,hbG⟩:=List.mem_flatten.1 hb
   obtain⟨j,hj⟩:=List.getElem?_of_mem hG
   have hjl:j<xs.length:=by rw[←h7];exact(List.getElem?_eq_some_iff.1 hj).1
   obtain⟨G',hG',ho⟩:=h8 j _ (getElem?_eq_getElem hjl)
   rw[hj] at hG'
   cases hG'
   exact Ygc ho b hbG
theorem MixP.form {i k:Nat} {l:Loc} (h:MixP S0 w0 xs i k l w) {j:Nat} (hj:j<xs.length): ∃ g,l.A=some ⟨g,0,none⟩:=by
 rcases h with ⟨_,h,_⟩ | ⟨g,arr,T,Fs,h1,_⟩
 ·rw[h] at hj;exact absurd hj (by simp)
 ·exact⟨g,h1⟩
theorem MixP.flat {i k:Nat} {l:Loc} {f:Fk α} (hf:s.fk[k]?=some f) (hfl:f.isFlat=true) (h:MixP S0 w0 xs i k l w):MixP S0 w0 xs i (k+1) l w:=by
 rcases h with h | ⟨g,arr,T,Fs,h1,h2,h3,h4,h5,h6,h7,h8⟩
 ·exact .inl h
 ·refine .inr ⟨g,arr,T,Fs,h1,h2,h3,h4,h5,h6,h7,fun j x hj=>?_⟩
  obtain⟨G,hG,ho⟩:=h8 j x hj
  refine⟨G,hG,?_⟩
  by_cases e:j=i
  ·subst e
   unfold mst at ho ⊢
   rw[if_neg (Nat.lt_irrefl _),if_pos rfl] at ho ⊢
   exact Yev ho hf hfl
  ·unfold mst at ho ⊢
   rw[if_neg e] at ho ⊢
   exact ho
theorem MixP.next {i:Nat} {l:Loc} (h:MixP S0 w0 xs i s.fk.length l w):MixP S0 w0 xs (i+1) 0 l w:=by
 rcases h with h | ⟨g,arr,T,Fs,h1,h2,h3,h4,h5,h6,h7,h8⟩
 ·exact .inl h
 ·refine .inr ⟨g,arr,T,Fs,h1,h2,h3,h4,h5,h6,h7,fun j x hj=>?_⟩
  obtain⟨G,hG,ho⟩:=h8 j x hj
  refine⟨G,hG,?_⟩
  have e:mst s.fk.length (i+1) 0 j=mst s.fk.length i s.fk.length j:=by
   unfold mst
   by_cases h1:j<i
   ·rw[if_pos (by omega),if_pos h1]
   ·by_cases h2:j=i
    ·rw[if_pos (by omega),if_neg h1,if_pos h2]
    ·rw[if_neg (by omega),if_neg h1,if_neg h2]
     split<;>rfl
  rw[e]
  exact ho
theorem MixP.done {l:Loc} (h:MixP S0 w0 xs xs.length 0 l w):SlO w (.slice l.A xs.length l.cap) xs l.F:=by
 rcases h with ⟨h1,h2,h3,h4⟩ | ⟨g,arr,T,Fs,h1,h2,h3,h4,h5,h6,h7,h8⟩
 ·exact Qhj.2 (.inl ⟨by rw[h1,h2,h3];rfl,h2,h4⟩)
 ·refine Qhj.2 (.inr ⟨g,l.cap,arr,T,Fs,by rw[h1],h3,h4,h5,h6,h2,h7,fun j x hj=>?_⟩)
  obtain⟨G,hG,ho⟩:=h8 j x hj
  refine⟨G,hG,s.omk (Q84 ?_ ho)⟩
  unfold mst
  rw[if_pos (List.getElem?_eq_some_iff.1 hj).1]
  exact Nat.le_refl _
theorem MixP.start {g cap:Nat} {arr:Array Value} {T:TypeId} (hg:w.heap[g]?=some (.cells arr T (0,0))) (h1:xs.length≤cap) (h2:cap≤maxLen) (h3:cap*Dat.sz α≤arr.size) (hr: ∀ j x,xs[j]?=some x→Dat.rd S0 w0 (Fw.cut (Dat.sz α) arr.toList j) x):MixP S0 w0 xs 0 0 ⟨some ⟨g,0,none⟩,cap,[g]⟩ w:=by
 refine .inr ⟨g,arr,T,List.replicate xs.length [],rfl,by rw[Ql7],hg,h1,h2,h3,by rw[List.length_replicate],fun j x hj=>⟨[],?_,?_⟩⟩
 ·rw[List.getElem?_replicate,if_pos (List.getElem?_eq_some_iff.1 hj).1]
 ·have e:mst s.fk.length 0 0 j=0:=by
   unfold mst
   rw[if_neg (Nat.not_lt_zero _)]
   split<;>rfl
  rw[e]
  exact Q4b (s.op (hr j x hj))
end
end
section
section
variable {c:Cx} {σ:St} {all:Array Oper} {ty:TypeId} {pos:String} {after:Array Edge} {d:Nat}
theorem RH.anyP {θ:List Loc} {E:List (Nat×En)} {S:Nat→Prop} {w1 w:World} (hh:RH c θ E S w1 w) {r:Nat} {P:Loc→World→Prop} (hr:lkE E r=some (.any P)): ∃ l,θ[r]?=some l∧(∀ b∈l.F,b<w.heap.size)∧P l w:=
 (hh.sh.ok _ (List.mem_map.2 ⟨_,Qe1 hr,rfl⟩)).here
theorem OpS.xidx {α:Type} {dα:Dat α} [s:@Str α dα] {S0:Nat→Prop} {w0:World} {t e by' r len i k:Nat} {x y:Operand} {ji:Int} {xs:List α} (j:Nat) (hj:j<xs.length) (hx:ev σ.ρ x=some (.sl r len)) (hy:ev σ.ρ y=some (.v (.int .i64 ji))) (hp:lkE σ.E r=some (.any (MixP S0 w0 xs i k))) (hl:len=xs.length) (hi:ji=j) (ht:c.ti t= .sl e (Dat.sz α) by') (hd:Nat.blt d σ.n=true):
  OpS c σ all ⟨some d,.indexAddr t x y,ty,pos,after,none⟩ (put d (.pt r (j*Dat.sz α)) σ):=
 OpS.of fun θ a w h K Q hK => by
  subst hi
  subst hl
  obtain⟨S,w1,hh⟩:=h.heap
  obtain⟨l,hlo,_,hm⟩:=hh.anyP hp
  have hc:=h.env.con hx
  simp only[V.con,hlo,Option.some.injEq] at hc
  obtain⟨b,hA⟩:=hm.form hj
  have hti:=c.tiok t
  rw[ht] at hti
  simp only[TI.chk,Bool.and_eq_true] at hti
  have hx':=h.env.is hx (by rw[h.env.con hx,←hc,hA])
  have hy':=h.env.isv hy
  have hyy:=Qkf (P:=c.P) (w:=w) (ty:=ty) h.env.env hx' hy' (by omega) (by omega) hti.2
  unfold Oper.wp
  rw[hyy]
  refine hK [] _ _ (h.put hd (v:= .pt r (j*Dat.sz α)) ?_).app0
  obtain⟨A,cap,F⟩:=l
  simp only at hA
  subst hA
  simp only[V.con,hlo,Addr.add_zero',Int.toNat_natCast]
theorem Yll {sz j f:Nat} {l:List Value} {v:Value} (hf:f<sz) (h:(Fw.cut sz l j)[f]?=some v):l[j*sz+f]?=some v:=by
 unfold Fw.cut at h
 rw[List.getElem?_take,if_pos hf,getElem?_drop] at h
 exact h
theorem OpS.xload {α β:Type} {dα:Dat α} {dβ:Dat β} [s:@Str α dα] {S0:Nat→Prop} {w0:World} {t e by' r off i k f:Nat} {x:Operand} {xs:List α} {g:α→List β} (j:Nat) (y:α) (hy:xs[j]?=some y) (hx:ev σ.ρ x=some (.pt r off)) (hoff:off=j*Dat.sz α+f) (hp:lkE σ.E r=some (.any (MixP S0 w0 xs i k))) (hf:s.fk[f]?=some (.sl β dβ g)) (hst:mst s.fk.length i k j≤f)
  (hS: ∀ b,S0 b→c.S0 b) (hK0:Keep S0 w0 c.w0) (ht:c.ti t= .sl e (Dat.sz β) by') (hd:Nat.blt d σ.n=true):
  OpS c σ all ⟨some d,.load t x,ty,pos,after,none⟩ (Qf0 σ d dβ (g y)):=
 OpS.of fun θ a w h K Q hK => by
  subst hoff
  obtain⟨S,w1,hh⟩:=h.heap
  obtain⟨l,hlo,_,hm⟩:=hh.anyP hp
  rcases hm with ⟨_,h2,_⟩ | ⟨g0,arr,T,Fs,h1,h2,h3,h4,h5,h6,h7,h8⟩
  ·rw[h2] at hy;cases hy
  obtain⟨G,hG,ho⟩:=h8 j y hy
  obtain⟨v,hv,hr⟩:=Yc8 ho hf hst
  have hlen:=Q7t ho
  have hfl:f<(Fw.cut (Dat.sz α) arr.toList j).length:=(List.getElem?_eq_some_iff.1 hv).1
  have hfs:f<Dat.sz α:=by unfold Fw.cut at hfl;rw[List.length_take] at hfl;omega
  have hr':SlR S0 w0 v (g y):=hr
  obtain⟨A,cap,rfl,_⟩:=hr'.form
  have hrd:SlR S w1 (.slice A (g y).length cap) (g y):=(((hr'.below hK0).mono hS).below hh.k0).mono hh.sub
  have hxe:=h.env.con hx
  simp only[V.con,hlo] at hxe
  obtain⟨A0,cap0,F0⟩:=l
  simp only at h1
  subst h1
  simp only[Option.some.injEq] at hxe
  have hti:=c.tiok t
  rw[ht] at hti
  simp only[TI.chk,Bool.and_eq_true] at hti
  have hcells:Qcf w ⟨g0,0,none⟩ arr.toList:=Qcf.row (by simpa using h3)
  have hx':ev? (selfρ a) x=some (.pointer (some ((⟨g0,0,none⟩:Addr).add (j*Dat.sz α+f)))):=by rw[h.env.ev1 hx,←hxe]
  have hyy:=Qnt (P:=c.P) (ty:=ty) h.env.env hx' hcells (Yll hfs hv) hti.1
  unfold Oper.wp
  rw[hyy]
  exact hK _ _ _ (h.ros hh hrd hd)
theorem Q8p {α:Type}: ∀ {Fs:List (List α)} {i:Nat} {G H:List α},Fs[i]?=some G→(∀ j F,i<j→Fs[j]?=some F→F=[])→(Fs.set i (G++H)).flatten=Fs.flatten++H
 | [],_,_,_,h,_=>by cases h
 | F0 :: Fs, 0, G, H, h, hz => by
  cases h
  have he:Fs.flatten=[]:=by
   rw[List.flatten_eq_nil_iff]
   intro F hF
   obtain⟨j,hj⟩:=List.getElem?_of_mem hF
   exact hz (j+1) F (by omega) hj
  rw[List.set_cons_zero,List.flatten_cons,List.flatten_cons,he,append_nil,append_nil]
 | F0 :: Fs, i + 1, G, H, h, hz => by
  rw[List.set_cons_succ,List.flatten_cons,List.flatten_cons,Q8p (i:=i) (by simpa using h) fun j F hj hF=>hz (j+1) F (by omega) hF,append_assoc]
theorem OpS.xstore {α β:Type} {dα:Dat α} {dβ:Dat β} [s:@Str α dα] {S0:Nat→Prop} {w0:World} {t e by' r q n off i k:Nat} {x v:Operand} {xs:List α} {g:α→List β} (y:α) (hy:xs[i]?=some y) (hx:ev σ.ρ x=some (.pt r off)) (hoff:off=i*Dat.sz α+k) (hp:lkE σ.E r=some (.any (MixP S0 w0 xs i k))) (hf:s.fk[k]?=some (.sl β dβ g))
  (hv:ev σ.ρ v=some (.sl q n)) (hq:lkE σ.E q=some (.own β dβ (g y))) (hn:n=(g y).length) (hrq:Nat.beq r q=false) (ht:c.ti t= .sl e (Dat.sz β) by'):
  OpS c σ all ⟨none,.store t x v,ty,pos,after,none⟩ ⟨σ.n,σ.m+1,rnR r σ.m σ.ρ,rnE r σ.m ((σ.m,.any (MixP S0 w0 xs i (k+1)))::Qhd [r,q] σ.E)⟩:=
 OpS.of fun θ a w h K Q hK => by
  subst hoff
  subst hn
  obtain⟨S,w1,hh⟩:=h.heap
  obtain⟨l,hlo,hlt,hm⟩:=hh.anyP hp
  obtain⟨lq,hlq,hown⟩:=hh.own hq
  rcases hm with ⟨_,h2,_⟩ | ⟨g0,arr,T,Fs,h1,h2,h3,h4,h5,h6,h7,h8⟩
  ·rw[h2] at hy;cases hy
  have hil:i<xs.length:=(List.getElem?_eq_some_iff.1 hy).1
  obtain⟨G,hG,ho⟩:=h8 i y hy
  have hmi:mst s.fk.length i k i=k:=by unfold mst;rw[if_neg (Nat.lt_irrefl _),if_pos rfl]
  rw[hmi] at ho
  have hlen:=Q7t ho
  have hks:k<s.fk.length:=(List.getElem?_eq_some_iff.1 hf).1
  have hkz:k<Dat.sz α:=by unfold Fw.cut at hlen;rw[List.length_take] at hlen;omega
  have hle:i*Dat.sz α+Dat.sz α≤arr.size:=by
   have h1:(i+1)*Dat.sz α≤l.cap*Dat.sz α:=Nat.mul_le_mul_right _ (by omega)
   rw[Nat.succ_mul] at h1
   omega
  obtain⟨ir,hir,_⟩:=Qrs hp
  obtain⟨iq,hiq,_⟩:=Qrs hq
  have hne : ir ≠ iq := fun e => by
   rw[e,hiq] at hir
   injection hir with hir
   injection hir with hir _
   rw[hir] at hrq
   simp at hrq
  have er:(σ.E.map fun e=>e.2.ck θ e.1)[ir]?=some ((En.any (MixP S0 w0 xs i k)).ck θ r):=by rw[List.getElem?_map,hir];rfl
  have eq:(σ.E.map fun e=>e.2.ck θ e.1)[iq]?=some ((En.own β dβ (g y)).ck θ q):=by rw[List.getElem?_map,hiq];rfl
  have fr:((En.any (MixP S0 w0 xs i k)).ck θ r).F=l.F:=Qaj hlo
  have fq:((En.own β dβ (g y)).ck θ q).F=lq.F:=Qaj hlq
  have ndr:=hh.sh.nd er
  have ndq:=hh.sh.nd eq
  have djq:=hh.sh.dj er eq hne
  rw[fr] at ndr
  rw[fq] at ndq
  rw[fr,fq] at djq
  have hve:a.eval v= .slice lq.A (g y).length lq.cap:=by
   have:=h.env.con hv
   simp only[V.con,hlq,Option.some.injEq] at this
   exact this.symm
  have hxe:=h.env.con hx
  simp only[V.con,hlo] at hxe
  obtain⟨A0,cap0,F0⟩:=l
  simp only at h1 h2 hlt h4 h5 h6 djq ndr
  subst h1
  subst h2
  simp only[Option.some.injEq] at hxe
  have e:(⟨g0,0,none⟩:Addr).add (i*Dat.sz α+k)=⟨g0,i*Dat.sz α+k,none⟩:=by unfold Addr.add;split<;>simp_all
  have hst:=run_storeCells_at c.P g0 (i*Dat.sz α+k) T [.slice lq.A (g y).length lq.cap] 0 arr w h3 (by rw[length_singleton];omega) (fun x hx=>by rw[mem_singleton.1 hx];rfl)
  have hti:(c.ti t).cells=some 1:=by rw[ht];rfl
  have hsz: ∀ w,(sizeOf t).run c.P w= .ok 1 w:=fun w=>TI.cells_size (c.tiok t) hti w
  have hrun:(execOp a.eval ⟨none,.store t x v,ty,pos,after,none⟩).run c.P w= .ok .skip (w.setRow g0 (Qhw arr (i*Dat.sz α+k) 1 [.slice lq.A (g y).length lq.cap])):=by
   have hs:(a.eval v).cells.size=1:=by rw[hve];rfl
   simp only[execOp,←hxe,Instr.storeAt,Instr.sureAddr,storeVar,Sem.run_bind,Sem.run_pure,Result.andThen_ok,hsz,hs,ne_eq,not_true_eq_false,if_false,e]
   rw[hve,show(Value.slice lq.A (g y).length lq.cap).cells.toList=[.slice lq.A (g y).length lq.cap] from rfl,hst]
   simp only[Nat.add_zero,length_singleton,Result.andThen_ok,Qhw]
  unfold Oper.wp
  rw[hrun,put1 (by omega)]
  obtain⟨arr2,harr2⟩: ∃ arr2,arr2=(arr.toList.set (i*Dat.sz α+k) (.slice lq.A (g y).length lq.cap)).toArray:=⟨_,rfl⟩
  rw[←harr2]
  have hother: ∀ b,b≠g0→(w.setRow g0 arr2).heap[b]?=w.heap[b]?:=fun b hb=>setRow_other w g0 b _ hb
  have hzero : ∀ j F, i < j → Fs[j]? = some F → F = [] := fun j F hj hF => by
   have hjl:j<xs.length:=by rw[←h7];exact(List.getElem?_eq_some_iff.1 hF).1
   obtain⟨G',hG',ho'⟩:=h8 j _ (getElem?_eq_getElem hjl)
   rw[hF] at hG'
   cases hG'
   have hm0:mst s.fk.length i k j=0:=by unfold mst;rw[if_neg (by omega),if_neg (by omega)]
   rw[hm0] at ho'
   exact(Q6o ho').2
  have hflat:(Fs.set i (G++lq.F)).flatten=Fs.flatten++lq.F:=Q8p hG hzero
  let l':Loc:=⟨some ⟨g0,0,none⟩,cap0,(g0::Fs.flatten)++lq.F⟩
  have hg':(θ++[l'])[σ.m]?=some l':=by rw[←h.len];exact Qfu
  have hgr:=Qem (θ':=[l']) hlo
  have hgq:=Qem (θ':=[l']) hlq
  have hFr : ∀ b ∈ g0 :: Fs.flatten, b ∈ (Qnv [r, q] σ.E).flatMap (fun e => (e.2.ck (θ ++ [l']) e.1).F) := fun b hb => mem_flatMap.2 ⟨_, Qnu (Qe1 hp) (Qya (by simp)), by
   show b∈locF _ r
   rw[Qaj hgr]
   exact hb⟩
  have hFq : ∀ b ∈ lq.F, b ∈ (Qnv [r, q] σ.E).flatMap (fun e => (e.2.ck (θ ++ [l']) e.1).F) := fun b hb => mem_flatMap.2 ⟨_, Qnu (Qe1 hq) (Qya (by simp)), by
   show b∈locF _ q
   rw[Qaj hgq]
   exact hb⟩
  have hg0q:g0 ∉ lq.F:=djq g0 List.mem_cons_self
  have hg0F:g0 ∉ Fs.flatten:=(List.nodup_cons.1 ndr).1
  have hP:MixP S0 w0 xs i (k+1) l' (w.setRow g0 arr2):=by
   refine .inr ⟨g0,arr2,T,Fs.set i (G++lq.F),rfl,?_,setRow_heap w g0 arr _ T _ h3,h4,h5,?_,by rw[length_set];exact h7,fun j z hj=>?_⟩
   ·show(g0::Fs.flatten)++lq.F=g0::_
    rw[hflat]
    rfl
   ·rw[harr2,List.size_toArray,length_set,Array.length_toList]
    exact h6
   ·have hj2 : arr2.toList = arr.toList.set (i * Dat.sz α + k) (.slice lq.A (g y).length lq.cap) := by rw [harr2]
    rw[hj2,Ycp hkz]
    by_cases ej:j=i
    ·subst ej
     rw[hy] at hj
     cases hj
     refine⟨G++lq.F,List.getElem?_set_self (by rw[h7];exact hil),?_⟩
     rw[if_pos rfl]
     have hmj:mst s.fk.length j (k+1) j=k+1:=by unfold mst;rw[if_neg (Nat.lt_irrefl _),if_pos rfl]
     rw[hmj]
     refine Qxt (w:=w) (Q7s ho hf (show SlO w _ (g y) lq.F from hown)) fun b hb=>hother b fun e=>?_
     subst e
     rcases List.mem_append.1 hb with hb | hb
     ·exact hg0F (List.mem_flatten.2 ⟨G,mem_of_getElem? hG,hb⟩)
     ·exact hg0q hb
    ·obtain⟨G',hG',ho'⟩:=h8 j z hj
     refine⟨G',by rw[List.getElem?_set_ne (fun e=>ej e.symm)];exact hG',?_⟩
     rw[if_neg ej]
     have hme:mst s.fk.length i (k+1) j=mst s.fk.length i k j:=by unfold mst;rw[if_neg ej,if_neg ej]
     rw[hme]
     exact Qxt ho' fun b hb=>hother b fun e=>hg0F (e▸List.mem_flatten.2 ⟨G',mem_of_getElem? hG',hb⟩)
  have hfuse:=(hh.ext (θ':=[l'])).fuse [r,q] (p:=(σ.m,En.any (MixP S0 w0 xs i (k+1)))) (w':=w.setRow g0 arr2) rfl rfl rfl (by simp) (fun b _ hb=>hother b fun e=>hb (hFr b (by simp[e]))) ?_ ?_ ?_ trivial
  ·refine hK [l'] _ _ ⟨by rw[length_append,h.len];rfl,?_,S,w1,hfuse.rn hgr hg' rfl rfl⟩
   exact(h.env.ext (θ':=[l'])).rn hgr hg' rfl rfl
  ·intro w2 hw2
   have hw2' : ∀ b ∈ l'.F, w2.heap[b]? = (w.setRow g0 arr2).heap[b]? := fun b hb => hw2 b (by
    show b∈locF _ σ.m
    rw[Qaj hg']
    exact hb)
   exact⟨l',hg',(hP.same hw2').lt,hP.same hw2'⟩
  ·intro b hb
   have hb':b∈l'.F:=by
    have:b∈locF (θ++[l']) σ.m:=hb
    rwa [Qaj hg'] at this
   refine⟨?_,hP.lt b hb'⟩
   rcases List.mem_append.1 hb' with h | h
   ·exact .inl (hFr b h)
   ·exact .inl (hFq b h)
  ·show(locF _ σ.m).Nodup
   rw[Qaj hg']
   exact List.nodup_append.2 ⟨ndr,ndq,fun b hb b' hb' e=>djq b hb (e▸hb')⟩
end
end
section
structure Raw (n:Nat) where
 val:List Value
 len:val.length=n
 one: ∀ u∈val,u.oneCell'=true
abbrev Qsm (n:Nat) (hn:0<n):Dat (Raw n):=Dat.flat n hn (·.val) (fun _=>True) (·.len) (fun _ _=>True) (·.one)
def Qgj {n:Nat} (raws:List (Raw n)):List Value:=raws.flatMap (·.val)
theorem Qpw {n:Nat}: ∀ raws:List (Raw n),(Qgj raws).length=raws.length*n
 | []=>by simp[Qgj]
 | r :: rs => by
  have:=Qpw rs
  unfold Qgj at this ⊢
  rw[flatMap_cons,length_append,this,r.len,length_cons,Nat.add_mul,Nat.one_mul,Nat.add_comm]
theorem Qwb {n : Nat} (raws : List (Raw n)) : ∀ u ∈ Qgj raws, u.oneCell' = true := fun u hu => by
 obtain⟨r,_,hr⟩:=mem_flatMap.1 hu
 exact r.one u hr
theorem Qwc {n:Nat}: ∀ {raws:List (Raw n)} {i:Nat} {r:Raw n},raws[i]?=some r→Fw.cut n (Qgj raws) i=r.val
 | r0 :: rs, 0, r, h => by
  cases h
  unfold Fw.cut Qgj
  rw[flatMap_cons,Nat.zero_mul,List.drop_zero,List.take_append_of_le_length (by rw[r0.len];exact Nat.le_refl _),List.take_of_length_le (by rw[r0.len];exact Nat.le_refl _)]
 | r0 :: rs, i + 1, r, h => by
  have ih:=Qwc (raws:=rs) (i:=i) (by simpa using h)
  unfold Fw.cut Qgj at ih ⊢
  rw[flatMap_cons,List.drop_append,List.drop_eq_nil_of_le (by rw[r0.len,Nat.add_mul];omega),nil_append,r0.len,Nat.add_mul,Nat.one_mul,Nat.add_sub_cancel]
  exact ih
theorem Q8b {n:Nat} (hn:0<n) (w:World) (raws:List (Raw n)):@Qke (Raw n) (Qsm n hn) w (Qgj raws) raws (List.replicate raws.length []):=⟨by simp,fun i x hi=>⟨[],by rw[List.getElem?_replicate,if_pos (List.getElem?_eq_some_iff.1 hi).1],⟨Qwc hi,trivial⟩,rfl⟩⟩
theorem SlR.raws {α:Type} [d:Dat α] {S0:Nat→Prop} {w0 w:World} {u:Value} {xs:List α} (h:SlR S0 w0 u xs) (hk:Keep S0 w0 w):
  ∃ raws:List (Raw (Dat.sz α)),raws.length=xs.length∧Src w u xs.length (Qgj raws)∧ ∀ (i:Nat) (x:α) (r:Raw (Dat.sz α)),xs[i]?=some x→raws[i]?=some r→Dat.rd S0 w0 r.val x:=by
 obtain⟨A,cap,rfl,h1,h2,h3⟩:=h
 by_cases hx:xs=[]
 ·subst hx
  exact⟨[],rfl,⟨A,cap,rfl,fun j u h=>by simp[Qgj] at h⟩,fun i x r h=>by cases h⟩
 ·obtain⟨ad,rfl,hb,hc⟩:=h3 hx
  have key: ∀ (xs:List α) (a:Addr),a.block=ad.block→(∀ i x,xs[i]?=some x→ ∃ cs,Dat.rd S0 w0 cs x∧Qcf w0 (a.add (i*Dat.sz α)) cs)→ ∃ raws:List (Raw (Dat.sz α)),raws.length=xs.length∧Qcf w a (Qgj raws)∧ ∀ (i:Nat) (x:α) (r:Raw (Dat.sz α)),xs[i]?=some x→raws[i]?=some r→Dat.rd S0 w0 r.val x:=by
   intro xs
   induction xs with
   | nil=>intro a _ _;exact⟨[],rfl,fun j u h=>by simp[Qgj] at h,fun i x r h=>by cases h⟩
   | cons x xs ih =>
    intro a ha h
    obtain⟨cs,hr,hcs⟩:=h 0 x rfl
    rw[Nat.zero_mul,Addr.add_zero'] at hcs
    have hl:cs.length=Dat.sz α:=Dat.rd_len hr
    have hab:(a.add (Dat.sz α)).block=ad.block:=by rw[←ha];unfold Addr.add;split<;>rfl
    obtain ⟨raws, n1, n2, n3⟩ := ih (a.add (Dat.sz α)) hab fun i y hi => by
     obtain⟨ds,h1,h2⟩:=h (i+1) y (by simpa using hi)
     refine⟨ds,h1,?_⟩
     rw[Qns]
     rwa [Nat.add_mul,Nat.one_mul,Nat.add_comm] at h2
    refine⟨⟨cs,hl,Dat.rd_one hr⟩::raws,by rw[length_cons,n1,length_cons],fun j u hj=>?_,fun i y r hi hri=>?_⟩
    ·have hj':(cs++Qgj raws)[j]?=some u:=by
      unfold Qgj at hj ⊢
      rw[flatMap_cons] at hj
      exact hj
     rcases Nat.lt_or_ge j cs.length with h1 | h1
     ·rw[List.getElem?_append_left h1] at hj'
      have h5:Qcf w a cs:=hcs.keep hk (by rw[ha];exact hb)
      exact h5 j u hj'
     ·rw[List.getElem?_append_right h1] at hj'
      have:=n2 _ u hj'
      rwa [Qns,hl,show Dat.sz α+(j - Dat.sz α)=j by omega] at this
    ·cases i with
     | zero=>cases hi;cases hri;exact hr
     | succ i=>exact n3 i y r (by simpa using hi) (by simpa using hri)
  obtain⟨raws,n1,n2,n3⟩:=key xs ad rfl hc
  exact⟨raws,n1,⟨some ad,cap,rfl,fun j u hj=>⟨ad,rfl,n2 j u hj⟩⟩,n3⟩
def Ydd {n:Nat} (raws:List (Raw n)) (w w':World) (l:Loc):Prop:=Below w.heap.size w w'∧((l.A=none∧raws=[]∧l.cap=0∧l.F=[]) ∨
 ∃ g arr T,l.A=some ⟨g,0,none⟩∧l.F=[g]∧w.heap.size≤g∧w'.heap[g]?=some (.cells arr T (0,0))∧raws.length≤l.cap∧l.cap≤maxLen∧l.cap*n≤arr.size∧ ∀ i r,raws[i]?=some r→Fw.cut n arr.toList i=r.val)
def Q86 (P:Program) (f:FuncId) (n:Nat):Prop:= ∀ (w:World) (A:Option Addr) (len cap:Nat) (raws:List (Raw n)),raws.length=len→Src w (.slice A len cap) len (Qgj raws)→len≤1073741824→Calls P f #[.slice A len cap] w fun e w'=> ∃ l,e= .returned (.slice l.A len l.cap)∧Ydd raws w w' l
theorem Ybl {n:Nat} (hn:0<n) {w w':World} {v:Value} {raws:List (Raw n)} {F:List Nat} (h:@SlO (Raw n) (Qsm n hn) w' v raws F) (hb:Below w.heap.size w w') (hF: ∀ b∈F,w.heap.size≤b): ∃ l:Loc,v= .slice l.A raws.length l.cap∧Ydd raws w w' l:=by
 rcases(@Qhj (Raw n) (Qsm n hn) w' raws v F).1 h with ⟨rfl,rfl,rfl⟩ | ⟨g,cap,arr,T,Fs,rfl,h1,h2,h3,h4,h5,h6,h7⟩
 ·exact⟨⟨none,0,[]⟩,rfl,hb,.inl ⟨rfl,rfl,rfl,rfl⟩⟩
 ·refine⟨⟨some ⟨g,0,none⟩,cap,[g]⟩,rfl,hb,.inr ⟨g,arr,T,rfl,rfl,hF g (by rw[h5];exact List.mem_cons_self),h1,h2,h3,h4,fun i r hi=>?_⟩⟩
  obtain⟨G,_,⟨ho,_⟩,_⟩:=h7 i r hi
  exact ho
section
variable {c:Cx} {σ:St} {all:Array Oper} {ty:TypeId} {pos:String} {after:Array Edge} {d:Nat}
theorem OpS.xclone {α:Type} {dα:Dat α} [s:@Str α dα] {S0:Nat→Prop} {w0:World} {f r len:Nat} {x y:Operand} {ts:Array TypeId} {xs:List α} (l:Loc) (hc:Q86 c.P f (Dat.sz α)) (hfn:FnOk c.P f) (hrd:SlR S0 w0 (.slice l.A xs.length l.cap) xs) (hpin:(r,En.pin l)∈σ.E) (hS: ∀ b,S0 b→c.S0 b) (hK0:Keep S0 w0 c.w0) (hlen:xs.length≤1073741824) (hx:x= .func f) (hy:ev σ.ρ y=some (.sl r len)) (hl:len=xs.length) (hd:Nat.blt d σ.n=true):
    OpS c σ all ⟨some d,.call { callee:= .value x,args:= #[y],argTypes:=ts },ty,pos,after,none⟩ ⟨σ.n,σ.m+1,(d,.sl σ.m xs.length)::σ.ρ,(σ.m,.any (MixP S0 w0 xs 0 0))::σ.E⟩:=
  OpS.of fun θ a w h K Q hK => by
    subst hx
    subst hl
    obtain⟨S,w1,hh⟩:=h.heap
    have hθ:θ[r]?=some l:=hh.ok _ hpin
    have hyv:a.eval y= .slice l.A xs.length l.cap:=by
      have:=h.env.con hy
      simp only[V.con,hθ,Option.some.injEq] at this
      exact this.symm
    have hkw:Keep S0 w0 w:=hK0.trans (hh.keep.mono hS)
    obtain⟨raws,n1,n2,n3⟩:=hrd.raws hkw
    obtain⟨fn,hf,hbd,hn⟩:=hfn
    have hn': ¬ fn.name= "runtime.NumGoroutine" := by simpa using hn
    have hb': ¬ fn.body=none:=by intro e;rw[e] at hbd;cases hbd
    unfold Oper.wp
    have:(execOp a.eval ⟨some d,.call { callee:= .value (.func f),args:= #[y],argTypes:=ts },ty,pos,after,none⟩).run c.P w= .ok (.enter f #[.slice l.A xs.length l.cap]) w:=by
      have hx0:a.eval (.func f)= .func (.func f) #[] #[]:=rfl
      simp[execOp,resolve,hyv,hx0,Deferred.ofValue,invoke,callFunc,hf,hn',hb']
    rw[this,Oper.upon_enter]
    refine(hc w l.A xs.length l.cap raws n1 n2 hlen).mono fun e w' he=>?_
    obtain⟨l',rfl,hbel,hrow⟩:=he
    have hP:MixP S0 w0 xs 0 0 l' w':=by
      rcases hrow with ⟨e1,e2,e3,e4⟩ | ⟨g,arr,T,e1,e2,e3,e4,e5,e6,e7,e8⟩
      · refine .inl ⟨e1, ?_, e3, e4⟩
        rw[e2] at n1
        exact List.eq_nil_of_length_eq_zero n1.symm
      · obtain ⟨A', cap', F'⟩ := l'
        simp only at e1 e2 e5 e6 e7
        subst e1
        subst e2
        refine MixP.start e4 (by omega) e6 e7 fun j x hj=>?_
        have hjl:j<raws.length:=by rw[n1];exact(List.getElem?_eq_some_iff.1 hj).1
        rw[e8 j _ (getElem?_eq_getElem hjl)]
        exact n3 j x _ hj (getElem?_eq_getElem hjl)
    have:=h.turnA (ns:=[]) (n:=xs.length) (FF:=[]) (P':=MixP S0 w0 xs 0 0) (d:=d) (l':=l') (w':=w') (fun b hb=>by cases hb) hbel.os hbel.tape hbel.output hbel.size (fun b hb _=>hbel.block b hb) (fun w2 hw2=>⟨(hP.same hw2).lt,hP.same hw2⟩) (fun b hb=> .inr ?_) ?_ hd
    · rw [Qys] at this
      exact hK _ _ _ this
    · rcases hrow with ⟨_, _, _, e4⟩ | ⟨g, arr, T, e1, e2, e3, _⟩
      · rw[e4] at hb;cases hb
      · rw[e2] at hb;rw[mem_singleton.1 hb];exact e3
    · rcases hrow with ⟨_, _, _, e4⟩ | ⟨g, arr, T, e1, e2, e3, _⟩
      · rw[e4];exact List.nodup_nil
      · rw[e2];simp
end
end
section
section
variable {c:Cx} {σ:St} {res:List Re} {k:List It}
theorem Run.convA {r:Nat} {P P':Loc→World→Prop} (hr:lkE σ.E r=some (.any P)) (hc: ∀ l w,P l w→P' l w) (h:Run c res ⟨σ.n,σ.m,σ.ρ,putE r (r,.any P') σ.E⟩ k):Run c res σ k:=by
 intro θ a w hR
 obtain⟨S,w1,hh⟩:=hR.heap
 obtain⟨l,hlo,hlt,hP⟩:=hh.anyP hr
 obtain⟨i,hi,_⟩:=Qrs hr
 have er:(σ.E.map fun e=>e.2.ck θ e.1)[i]?=some ((En.any P).ck θ r):=by rw[List.getElem?_map,hi];rfl
 have fr:((En.any P).ck θ r).F=l.F:=Qaj hlo
 have fr':((En.any P').ck θ r).F=l.F:=Qaj hlo
 have hnd:=hh.sh.nd er
 rw[fr] at hnd
 refine h θ a w ⟨hR.len,hR.env,S,w1,hh.turn hr (p:=(r,.any P')) rfl rfl rfl (Nat.le_refl _) (fun _ _ _=>rfl) (fun w2 hw2=>?_) (fun b hb=>?_) ?_ trivial⟩
 ·obtain⟨l2,hl2,hlt2,hP2⟩:=hh.sh.ok _ (mem_of_getElem? er) w2 (fun b hb=>hw2 b (by show b∈((En.any P').ck θ r).F;rw[fr'];rwa [fr] at hb))
  exact⟨l2,hl2,hlt2,hc _ _ hP2⟩
 ·have hb' : b ∈ l.F := by rw [← fr']; exact hb
  exact⟨.inl (by rw[fr];exact hb'),hlt b hb'⟩
 ·show((En.any P').ck θ r).F.Nodup
  rw[fr']
  exact hnd
theorem Run.convO {α:Type} {dα:Dat α} {xs:List α} {r:Nat} {P:Loc→World→Prop} (hr:lkE σ.E r=some (.any P)) (hc: ∀ l w,P l w→SlO w (.slice l.A xs.length l.cap) xs l.F) (h:Run c res ⟨σ.n,σ.m,σ.ρ,putE r (r,.own α dα xs) σ.E⟩ k):Run c res σ k:=by
 intro θ a w hR
 obtain⟨S,w1,hh⟩:=hR.heap
 obtain⟨l,hlo,hlt,hP⟩:=hh.anyP hr
 obtain⟨i,hi,_⟩:=Qrs hr
 have er:(σ.E.map fun e=>e.2.ck θ e.1)[i]?=some ((En.any P).ck θ r):=by rw[List.getElem?_map,hi];rfl
 have fr:((En.any P).ck θ r).F=l.F:=Qaj hlo
 have fr':((En.own α dα xs).ck θ r).F=l.F:=Qaj hlo
 have hnd:=hh.sh.nd er
 rw[fr] at hnd
 refine h θ a w ⟨hR.len,hR.env,S,w1,hh.turn hr (p:=(r,.own α dα xs)) rfl rfl rfl (Nat.le_refl _) (fun _ _ _=>rfl) (fun w2 hw2=>?_) (fun b hb=>?_) ?_ trivial⟩
 ·obtain⟨l2,hl2,hlt2,hP2⟩:=hh.sh.ok _ (mem_of_getElem? er) w2 (fun b hb=>hw2 b (by show b∈((En.own α dα xs).ck θ r).F;rw[fr'];rwa [fr] at hb))
  exact⟨l2,hl2,hc _ _ hP2⟩
 ·have hb' : b ∈ l.F := by rw [← fr']; exact hb
  exact⟨.inl (by rw[fr];exact hb'),hlt b hb'⟩
 ·show((En.own α dα xs).ck θ r).F.Nodup
  rw[fr']
  exact hnd
end
theorem CT.ofP {P:Program} {ti:Nat→TI} {zr:Nat→Option Value} {G:World→Prop} (s:SysOk P ti zr G) {f:FuncId} {fn:Func} {code:Code} {n:Nat} {args:List Arg} {res:List Re} (hf:P.funcs[f]?=some fn) (hb:fn.body=some code) (hn:fn.ntmps=n) (hl:Nat.ble args.length n=true)
  (h: ∀ w (hG:G w) (p:Nat→Loc),Qrj args→(∀ e∈(ini n args).E,e.2.ok (Old w) w (thz p (ini n args).m) e.1)→Run (mkcx s fn w hG) res ⟨(ini n args).n,(ini n args).m,(ini n args).ρ,(ini n args).E++Qso p 0 (ini n args).m⟩ [.code code]):CT P G f args res:=by
 intro w vs hG ha
 refine calls_of_wp hf hb ?_
 obtain⟨θ',hlen,hc,hfa⟩:=Qzj (θ:=[]) ha
 simp only[nil_append,length_nil] at hc hfa hlen
 have hvl:vs.length=args.length:=by
  clear hc hfa hlen hl h
  induction vs generalizing args with
  | nil => cases args with
   | nil=>rfl
   | cons=>exact ha.elim
  | cons v vs ih => cases args with
   | nil=>exact ha.elim
   | cons x xs=>rw[length_cons,length_cons,ih ha.2]
 have hle:=Nat.le_of_ble_eq_true hl
 have h0:RH (mkcx s fn w hG) [] [] (Old w) w w:=⟨Keep.refl _ _,fun _ h=>h,SH.start w,fun e he=>by cases he⟩
 have h1:=h0.facts (θ':=θ') (M:=(Qka 0 args).2.1) hfa
 have h2:RH (mkcx s fn w hG) θ' (ini n args).E (Old w) w w:=by simpa [ini] using h1
 have hth:thz (fun k=>(θ'[k]?).getD ⟨none,0,[]⟩) (ini n args).m=θ':=by
  have hm:(ini n args).m=θ'.length:=hlen.symm
  rw[hm]
  apply List.ext_getElem?
  intro k
  by_cases hk:k<θ'.length
  ·rw[Qia hk,getElem?_eq_getElem hk]
   rfl
  ·rw[List.getElem?_eq_none (by rw[Qtx];omega),List.getElem?_eq_none (by omega)]
 refine h w hG (fun k=>(θ'[k]?).getD ⟨none,0,[]⟩) (Ycz ha) (by rw[hth];exact h2.ok) θ' _ w ⟨hlen,⟨?_,rfl,fun t v hv=>?_⟩,Old w,w,?_⟩
 ·show(vs.toArray++Array.replicate (fn.ntmps - vs.toArray.size) undef).size=n
  simp[hn];omega
 ·obtain⟨_,u,hu,hcu⟩:=Qsk hc hv
  rw[Nat.sub_zero] at hu
  have hlt:=(List.getElem?_eq_some_iff.1 hu).1
  refine⟨?_,by show t<n;omega⟩
  rw[hcu]
  simp[Array.getD_eq_getD_getElem?,Array.getElem?_append_left (show t<vs.toArray.size by simpa using hlt),hu]
 ·refine⟨h2.k0,h2.sub,?_,fun e he=>?_⟩
  ·rw[List.map_append]
   exact h2.sh.more Ybm
  ·rcases List.mem_append.1 he with he | he
   ·exact h2.ok e he
   ·obtain⟨i,_,h4,rfl⟩:=Qxq he
    have:i<θ'.length:=by have hm:(ini n args).m=θ'.length:=hlen.symm;omega
    show θ'[i]?=some ((θ'[i]?).getD ⟨none,0,[]⟩)
    rw[getElem?_eq_getElem this]
    rfl
theorem Yh2 {α:Type} {d:Dat α} {xs:List α} {S:Nat→Prop} {w:World} {p:Nat→Loc} {m k:Nat} (h:(En.ros α d xs).ok S w (thz p m) k) (hk:k<m):SlR S w (.slice (p k).A xs.length (p k).cap) xs:=by
 obtain⟨l,hl,hr⟩:=h
 rw[Qia hk] at hl
 cases hl
 exact hr
theorem MixP.done' {α:Type} [dα:Dat α] [s:Str α] {S0:Nat→Prop} {w0 w:World} {xs:List α} {i k:Nat} {l:Loc} (hi:xs.length≤i) (h:MixP S0 w0 xs i k l w):SlO w (.slice l.A xs.length l.cap) xs l.F:=by
 refine MixP.done (S0:=S0) (w0:=w0) ?_
 rcases h with h | ⟨g,arr,T,Fs,h1,h2,h3,h4,h5,h6,h7,h8⟩
 ·exact .inl h
 ·refine .inr ⟨g,arr,T,Fs,h1,h2,h3,h4,h5,h6,h7,fun j x hj=>?_⟩
  obtain⟨G,hG,ho⟩:=h8 j x hj
  have hjl:j<xs.length:=(List.getElem?_eq_some_iff.1 hj).1
  refine⟨G,hG,?_⟩
  unfold mst at ho ⊢
  rw[if_pos (by omega)] at ho
  rw[if_pos hjl]
  exact ho
theorem Run.cvA {c:Cx} {σ σ':St} {res:List Re} {k:List It} (r:Nat) {P:Loc→World→Prop} (P':Loc→World→Prop) (hc: ∀ l w,P l w→P' l w) (h:Run c res σ' k) (hr:lkE σ.E r=some (.any P):=by rfl) (hs:(⟨σ.n,σ.m,σ.ρ,putE r (r,.any P') σ.E⟩:St)=σ':=by dsimp only[putE,cond,Nat.beq]):Run c res σ k:=Run.convA hr hc (by rw[hs];exact h)
theorem Run.cvO {c:Cx} {σ σ':St} {res:List Re} {k:List It} {α:Type} {dα:Dat α} (r:Nat) (xs:List α) {P:Loc→World→Prop} (hc: ∀ l w,P l w→SlO w (.slice l.A xs.length l.cap) xs l.F) (h:Run c res σ' k) (hr:lkE σ.E r=some (.any P):=by rfl) (hs:(⟨σ.n,σ.m,σ.ρ,putE r (r,.own α dα xs) σ.E⟩:St)=σ':=by dsimp only[putE,cond,Nat.beq]):Run c res σ k:=Run.convO hr hc (by rw[hs];exact h)
end
section
open Go.RowKit Go.Shelf
theorem Yao {W:World} {a:Addr} {v:Value} {o:Obj} (h:W.cell? a=some v):(W.alloc o).cell? a=some v:=by
 have hlt:a.block<W.heap.size:=by
  rcases Nat.lt_or_ge a.block W.heap.size with h1 | h1
  ·exact h1
  ·simp[World.cell?,Array.getElem?_eq_none h1] at h
 have e:(W.alloc o).heap[a.block]?=W.heap[a.block]?:=by first | exact heap_alloc_old W o hlt | exact heap_alloc_old W o _ hlt
 unfold World.cell? at h ⊢
 rw[e]
 exact h
theorem Ycn (A:Option Addr) (n c:Nat) (w:World):(binOp .eql 37 (.slice A n c) (.slice none 0 0)).run Tryz.prog w= .ok (.bool A.isNone) w:=by
 exact Lib.run_eql_slice_nil w _ _ A n c 0 0 Tryz.underlying37
theorem Yhh:Qeh Tryz.prog 37 108 3 40=true:=by kernel_rfl
set_option maxHeartbeats 4000000 in
set_option maxRecDepth 100000 in
theorem Ycr:Q86 Tryz.prog 176 3:=by
 intro w A len cap raws hl hs hlen
 have mixed:Tryz.prog.follows .mixedOrders=true:=by kernel_rfl
 have t35:=Tryz.underlying37;have a35:=Tryz.isAgg37;have z35:=Tryz.sizeOf37;have v35:=Tryz.zeroValue37;have u35:=run_underlying t35
 have t114:=Tryz.underlying108;have a114:=Tryz.isAgg108;have z114:=Tryz.sizeOf108;have v114:=Tryz.zeroValue108;have u114:=run_underlying t114
 have t4:=Tryz.underlying4;have a4:=Tryz.isAgg4;have u4:=run_underlying t4
 cases A with
 | none =>
  have hr:raws=[]:=by
   cases raws with
   | nil=>rfl
   | cons r rs =>
    obtain⟨S,c,e,hc⟩:=hs
    have hlen:=r.len
    cases hv:r.val with
    | nil=>rw[hv] at hlen;cases hlen
    | cons u us =>
     obtain⟨a,ha,_⟩:=hc 0 u (by unfold Qgj;rw[flatMap_cons,hv];rfl)
     injection e with e _ _
     rw[←e] at ha
     cases ha
  subst hr
  subst hl
  clear hs hlen
  go_enter Tryz.func176,Tryz.ntmps176
  go_wp2
  rw[Ycn]
  simp only[Result.andThen]
  rw[Oper.upon_value]
  go_wp2
  all_goals (go_ret;exact⟨⟨none,0,[]⟩,rfl,Below.refl _ _,.inl ⟨rfl,rfl,rfl,rfl⟩⟩)
 | some ad =>
  have hw1:@SlO (Raw 3) (Qsm 3 (by decide)) (w.alloc (.cells #[] 108)) (.slice (some ⟨w.heap.size,0,none⟩) 0 0) [] [w.heap.size]:=
   (@Qhj (Raw 3) (Qsm 3 (by decide)) _ [] _ _).2 (.inr ⟨w.heap.size,0, #[],108,[],rfl,heap_alloc_new w _,Nat.le_refl _,Nat.zero_le _,by simp,rfl,⟨rfl,fun i x h=>by cases h⟩⟩)
  have hsrc:Src (w.alloc (.cells #[] 108)) (.slice (some ad) len cap) raws.length (Qgj raws):=by
   obtain⟨S,c,e,hc⟩:=hs
   refine⟨S,c,by rw[hl];exact e,fun j u hj=>?_⟩
   obtain⟨a,ha,hcell⟩:=hc j u hj
   exact⟨a,ha,Yao hcell⟩
  obtain⟨v',w',F',hrun,r1,r2,r3,r4,r5,r6,r7,r8⟩:=@Qt2 Tryz.prog (Raw 3) (Qsm 3 (by decide)) (w.alloc (.cells #[] 108)) 37 108 37 3 40 _ Yhh rfl Tryz.zeroValue108 rfl _ _ [] raws _ hw1 (by simp) _ _ hsrc (Qpw raws) (Qwb raws) (Q8b (by decide) _ raws) (by rw[Ql7];exact List.nodup_nil) (fun b hb=>by rw[Ql7] at hb;cases hb) (by simp only[length_nil];omega) (by simp only[length_nil];unfold maxLen;omega)
  rw[nil_append] at r1
  have hbel:Below w.heap.size w w':=by
   refine⟨r3,r4,r5,?_,fun b hb=>?_⟩
   ·have:(w.alloc (.cells #[] 108)).heap.size=w.heap.size+1:=World.size_alloc _ _
    omega
   ·rw[r7 b (by rw[World.size_alloc];omega) (fun h=>by rw[mem_singleton.1 h] at hb;omega)]
    first | exact heap_alloc_old w _ hb | exact heap_alloc_old w _ _ hb
  have hF : ∀ b ∈ F', w.heap.size ≤ b := fun b hb => by
   rcases r8 b hb with h | h | h
   ·rw[mem_singleton.1 h];exact Nat.le_refl _
   ·rw[Ql7] at h;cases h
   ·rw[World.size_alloc] at h;omega
  obtain⟨l,hv,hC⟩:=Ybl (by decide) r1 hbel hF
  clear hs hsrc hw1 r1 r2 r3 r4 r5 r6 r7 r8 hbel hF
  go_enter Tryz.func176,Tryz.ntmps176
  go_wp2
  rw[Ycn]
  simp only[Result.andThen]
  rw[Oper.upon_value]
  go_wp2_with (at_builtin;refine Lib.wpList_append_run _ rfl _ _ _ _ rfl _ _ rfl rfl _ _ hrun ?_)
  all_goals (go_ret;exact⟨l,rfl,hC⟩)
end
section
section
variable {fn:Func} {Bz:Bs} {S1:Nat→Prop} {w1:World} {hk1:Keep Bz.S0 Bz.w w1} {hs1: ∀ b,Bz.S0 b→S1 b} {hd1: ∀ b,S1 b→b<w1.heap.size} {σ:St} {all:Array Oper} {ty:TypeId} {pos:String} {after:Array Edge} {d:Nat}
theorem xi {α:Type} {dα:Dat α} [s:@Str α dα] {t e by' r len i k:Nat} {x y:Operand} {ji:Int} {xs:List α} (j:Nat) (hj:j<xs.length) (hx:ev σ.ρ x=some (.sl r len):=by exact Dq0) (hy:ev σ.ρ y=some (.v (.int .i64 ji)):=by exact Dq0) (hp:lkE σ.E r=some (.any (MixP Bz.S0 Bz.w xs i k)):=by exact Dq0) (hl:len=xs.length:=by rfl) (hi:ji=j:=by rfl) (ht:ti t= .sl e (Dat.sz α) by':=by rfl) (hd:Nat.blt d σ.n=true:=by rfl):
  OpS (cx fn Bz S1 w1 hk1 hs1 hd1) σ all ⟨some d,.indexAddr t x y,ty,pos,after,none⟩ (put d (.pt r (j*Dat.sz α)) σ):=OpS.xidx j hj hx hy hp hl hi ht hd
theorem xl {α β:Type} {dα:Dat α} {dβ:Dat β} [s:@Str α dα] {t e by' r off i k:Nat} {x:Operand} {xs:List α} (j f:Nat) (g:α→List β) (y:α) (hy:xs[j]?=some y) (hst:mst s.fk.length i k j≤f) (hx:ev σ.ρ x=some (.pt r off):=by exact Dq0) (hp:lkE σ.E r=some (.any (MixP Bz.S0 Bz.w xs i k)):=by exact Dq0) (hoff:off=j*Dat.sz α+f:=by rfl) (hf:s.fk[f]?=some (.sl β dβ g):=by rfl) (ht:ti t= .sl e (Dat.sz β) by':=by rfl) (hd:Nat.blt d σ.n=true:=by rfl):
  OpS (cx fn Bz S1 w1 hk1 hs1 hd1) σ all ⟨some d,.load t x,ty,pos,after,none⟩ (Qf0 σ d dβ (g y)):=OpS.xload j y hy hx hoff hp hf hst hs1 hk1 ht hd
theorem xs' {α β:Type} {dα:Dat α} {dβ:Dat β} [s:@Str α dα] {t e by' r q n off i k:Nat} {x v:Operand} {xs:List α} (g:α→List β) (y:α) {zs:List β} (hy:xs[i]?=some y) (hz:zs=g y) (hx:ev σ.ρ x=some (.pt r off):=by exact Dq0) (hp:lkE σ.E r=some (.any (MixP Bz.S0 Bz.w xs i k)):=by exact Dq0) (hoff:off=i*Dat.sz α+k:=by rfl) (hf:s.fk[k]?=some (.sl β dβ g):=by rfl) (hv:ev σ.ρ v=some (.sl q n):=by exact Dq0) (hq:lkE σ.E q=some (.own β dβ zs):=by exact Dq0) (hn:n=zs.length:=by rfl) (hrq:Nat.beq r q=false:=by rfl) (ht:ti t= .sl e (Dat.sz β) by':=by rfl):
  OpS (cx fn Bz S1 w1 hk1 hs1 hd1) σ all ⟨none,.store t x v,ty,pos,after,none⟩ ⟨σ.n,σ.m+1,rnR r σ.m σ.ρ,rnE r σ.m ((σ.m,.any (MixP Bz.S0 Bz.w xs i (k+1)))::Qhd [r,q] σ.E)⟩:=OpS.xstore y hy hx hoff hp hf hv (hz▸hq) (hz▸hn) hrq ht
theorem xc {α:Type} {dα:Dat α} [s:@Str α dα] {f r len:Nat} {x y:Operand} {ts:Array TypeId} {xs:List α} (l:Loc) (hc:Q86 Tryz.prog f (Dat.sz α)) (hfn:FnOk Tryz.prog f) (hrd:SlR Bz.S0 Bz.w (.slice l.A xs.length l.cap) xs) (hlen:xs.length≤1073741824) (hpin:(r,En.pin l)∈σ.E:=by repeat (first | exact List.mem_cons_self | apply List.mem_cons_of_mem)) (hx:x= .func f:=by rfl) (hy:ev σ.ρ y=some (.sl r len):=by exact Dq0) (hl:len=xs.length:=by rfl) (hd:Nat.blt d σ.n=true:=by rfl):
    OpS (cx fn Bz S1 w1 hk1 hs1 hd1) σ all ⟨some d,.call { callee:= .value x,args:= #[y],argTypes:=ts },ty,pos,after,none⟩ ⟨σ.n,σ.m+1,(d,.sl σ.m xs.length)::σ.ρ,(σ.m,.any (MixP Bz.S0 Bz.w xs 0 0))::σ.E⟩:=OpS.xclone l hc hfn hrd hpin hs1 hk1 hlen hx hy hl hd
end
end
section
theorem Yfp:FnOk Tryz.prog 176:=⟨_,Tryz.func176,rfl,by kernel_rfl⟩
def Qds (p0:Disk):Nat→Nat→Disk
 | 0,i=>p0
 | n+1,i=>Qds p0 n (i+1)
def Qam (p0:Disk):Disk:=Qds p0 (p0.Slots.length - 0) 0
theorem Qi0 (p0:Disk) (hs:Dat.small 1048576 p0):CTs 107 [.o (.st Disk _ inferInstance p0)] [Re.st Disk _ inferInstance (Qam p0)]:=by
 refine CT.ofP Ydk Tryz.func107 rfl Tryz.ntmps107 rfl fun w hG p hgd hfa=>?_
 show Run (cx Tryz.f107 (Bs.old w hG) (Old w) w (Keep.refl _ _) (fun _ h=>h) (fun _ h=>h)) _ ⟨31,1,[(0,.ag [.sl 0 p0.Slots.length,.v (.string p0.Journal.Text),.v (.int .i64 p0.Journal.Sure)])],[(0,.ros Slot instDatSlot p0.Slots),(0,.pin (p 0))]⟩ _
 have hrd0:=Yh2 (p:=p) (m:=1) (k:=0) (hfa (0,.ros Slot instDatSlot p0.Slots) (by first | exact List.mem_cons_self | exact mem_cons_of_mem _ List.mem_cons_self)) (by decide)
 obtain⟨hg_p0,_⟩:=hgd
 have hM:=Qam.eq_1 p0
 have hs1:p0.Slots.length≤1048576:=hs.1.1
 refine ad 6 ?_
 refine Run.mid ⟨31,3,[(2,.pt 0 0),(3,.pt 1 0)],[(0,.var [.v (.slice none 0 0),.v (.string ⟨#[]⟩),.v (.int .i64 0)] 40),(1,.var [.sl 2 p0.Slots.length,.v (.string p0.Journal.Text),.v (.int .i64 p0.Journal.Sure)] 40),(2,.any (MixP (Old w) w p0.Slots 0 0))]⟩ ?_ ?_
 ·
  refine dr 8 fun _ _ _ _ _ hb=>?_
  refine tk [0,1,3,4] ?_
  refine o2 2 6 ?_ ?_
  ·
   refine on1 2 [1,2,3,4] (xc (p 0) Ycr Yfp hrd0 (by omega)) ?_
   refine tk [5] ?_
   refine on 6 [2,3,4,5] (OpS.st rfl) ?_
   refine on 7 [2,3,4,5] (OpS.st rfl) ?_
   refine dn hb ?_
   exact Run.at [2,4,3] [2,0,1] su (by decide)
  ·
   refine on1 6 [1,2,3,4] (OpS.st rfl) ?_
   refine on 2 [2,3,4,5] (xc (p 0) Ycr Yfp hrd0 (by omega)) ?_
   refine tk [5] ?_
   refine on 7 [2,3,4,5] (OpS.st rfl) ?_
   refine dn hb ?_
   exact Run.at [2,3,4] [2,1,0] su (by decide)
 refine ad 9 ?_
 refine Run.cvA 2 (MixP (Old w) w p0.Slots 0 1) (fun _ _ h=>MixP.flat rfl rfl (h)) ?_
 refine Run.loopM (ι:=Nat) (fun s=>Qds p0 (p0.Slots.length - s) s) (fun s=>⟨31,3,[(2,.pt 0 0),(3,.pt 1 0),(13,.v (.int .i64 (p0.Slots.length:Int))),(14,.v (.int .i64 (s:Int)))],[(0,.var [.v (.slice none 0 0),.v (.string ⟨#[]⟩),.v (.int .i64 0)] 40),(1,.var [.sl 2 p0.Slots.length,.v (.string p0.Journal.Text),.v (.int .i64 p0.Journal.Sure)] 40),(2,.any (MixP (Old w) w p0.Slots s 1))]⟩) (fun s=>s≤p0.Slots.length) (fun s=>p0.Slots.length - s) 0 [0,1,2] [0,1,2] hM lv0 su (by decide) ?_
 rintro i hv hE
 try dsimp only at hE
 have hi:=hv
 try dsimp only at hi
 refine ad 5 ?_
 refine cd (fun h1=>?_) (fun h1=>?_)
 ·
  have h1l:i<p0.Slots.length:=dtl h1
  have hM:=hE.trans ((congrArg (fun n=>Qds p0 n i) (sb1 h1l)).trans (Qds.eq_2 _ _ _))
  have hs2:(nth p0.Slots i).Cells.length≤1048576:=(Qcv hs.1 (by omega)).2.1.1
  refine ad 8 ?_
  refine Run.mid ⟨31,3,[(2,.pt 0 0),(3,.pt 1 0),(13,.v (.int .i64 (p0.Slots.length:Int))),(14,.v (.int .i64 (i:Int)))],[(0,.var [.v (.slice none 0 0),.v (.string ⟨#[]⟩),.v (.int .i64 0)] 40),(1,.var [.sl 2 p0.Slots.length,.v (.string p0.Journal.Text),.v (.int .i64 p0.Journal.Sure)] 40),(2,.any (MixP (Old w) w p0.Slots i 2))]⟩ ?_ ?_
  ·
   refine ds 13 [0] fun _ _ _ _ _ hb=>?_
   refine tk [0,2,3,5] ?_
   refine o2 1 4 ?_ ?_
   ·
    refine on1 1 [0] (OpS.st rfl) ?_
    refine on 4 [0] (OpS.st rfl) ?_
    refine on 6 [0] (xi (xs:=p0.Slots) i om) ?_
    refine tk [7] ?_
    refine on 8 [1] (xl (xs:=p0.Slots) (i:=i) (k:=1) i 1 Slot.Cells (nth p0.Slots i) (Qgd om) (by unfold mst;simp)) ?_
    refine ong 9 [2] (clg (Qbn ((nth p0.Slots i).Cells) lv2) Qtd) fun hgq=>?_
    obtain⟨hg2,_⟩:=hgq
    refine on 10 [2] (xi (xs:=p0.Slots) i om) ?_
    refine tk [11] ?_
    refine on 12 [2] (xs' (xs:=p0.Slots) (zs:=(Qas ((nth p0.Slots i).Cells))) Slot.Cells (nth p0.Slots i) (Qgd om) (by first | rfl | exact nil_append _)) ?_
    refine dn hb ?_
    exact Run.at [0,1,5] [2,3,0] su (by decide)
   ·
    refine on1 4 [0] (OpS.st rfl) ?_
    refine o2 1 6 ?_ ?_
    ·
     refine on1 1 [0] (OpS.st rfl) ?_
     refine on 6 [0] (xi (xs:=p0.Slots) i om) ?_
     refine tk [7] ?_
     refine on 8 [1] (xl (xs:=p0.Slots) (i:=i) (k:=1) i 1 Slot.Cells (nth p0.Slots i) (Qgd om) (by unfold mst;simp)) ?_
     refine ong 9 [2] (clg (Qbn ((nth p0.Slots i).Cells) lv2) Qtd) fun hgq=>?_
     obtain⟨hg3,_⟩:=hgq
     refine on 10 [2] (xi (xs:=p0.Slots) i om) ?_
     refine tk [11] ?_
     refine on 12 [2] (xs' (xs:=p0.Slots) (zs:=(Qas ((nth p0.Slots i).Cells))) Slot.Cells (nth p0.Slots i) (Qgd om) (by first | rfl | exact nil_append _)) ?_
     refine dn hb ?_
     exact Run.at [0,1,5] [2,3,0] su (by decide)
    ·
     refine on1 6 [0] (xi (xs:=p0.Slots) i om) ?_
     refine tk [7] ?_
     refine o2 1 8 ?_ ?_
     ·
      refine on1 1 [0] (OpS.st rfl) ?_
      refine on 8 [1] (xl (xs:=p0.Slots) (i:=i) (k:=1) i 1 Slot.Cells (nth p0.Slots i) (Qgd om) (by unfold mst;simp)) ?_
      refine ong 9 [2] (clg (Qbn ((nth p0.Slots i).Cells) lv2) Qtd) fun hgq=>?_
      obtain⟨hg4,_⟩:=hgq
      refine on 10 [2] (xi (xs:=p0.Slots) i om) ?_
      refine tk [11] ?_
      refine on 12 [2] (xs' (xs:=p0.Slots) (zs:=(Qas ((nth p0.Slots i).Cells))) Slot.Cells (nth p0.Slots i) (Qgd om) (by first | rfl | exact nil_append _)) ?_
      refine dn hb ?_
      exact Run.at [0,1,5] [2,3,0] su (by decide)
     ·
      refine on1 8 [1] (xl (xs:=p0.Slots) (i:=i) (k:=1) i 1 Slot.Cells (nth p0.Slots i) (Qgd om) (by unfold mst;simp)) ?_
      refine o2 1 9 ?_ ?_
      ·
       refine on1 1 [1] (OpS.st rfl) ?_
       refine ong 9 [2] (clg (Qbn ((nth p0.Slots i).Cells) lv2) Qtd) fun hgq=>?_
       obtain⟨hg5,_⟩:=hgq
       refine on 10 [2] (xi (xs:=p0.Slots) i om) ?_
       refine tk [11] ?_
       refine on 12 [2] (xs' (xs:=p0.Slots) (zs:=(Qas ((nth p0.Slots i).Cells))) Slot.Cells (nth p0.Slots i) (Qgd om) (by first | rfl | exact nil_append _)) ?_
       refine dn hb ?_
       exact Run.at [0,1,5] [2,3,0] su (by decide)
      ·
       refine ong1 9 [2] (clg (Qbn ((nth p0.Slots i).Cells) lv2) Qtd) fun hgq=>?_
       obtain⟨hg6,_⟩:=hgq
       refine on 1 [2] (OpS.st rfl) ?_
       refine on 10 [2] (xi (xs:=p0.Slots) i om) ?_
       refine tk [11] ?_
       refine on 12 [2] (xs' (xs:=p0.Slots) (zs:=(Qas ((nth p0.Slots i).Cells))) Slot.Cells (nth p0.Slots i) (Qgd om) (by first | rfl | exact nil_append _)) ?_
       refine dn hb ?_
       exact Run.at [0,1,5] [2,3,0] su (by decide)
  refine ad 3 ?_
  rw[Qb3 (i:=i) om]
  refine ad 2 ?_
  refine Run.cvA 2 (MixP (Old w) w p0.Slots (i+1) 1) (fun _ _ h=>MixP.flat rfl rfl (MixP.next (MixP.flat rfl rfl (h)))) ?_
  exact Run.again (i+1) [0,1,2] [0,1,2] ⟨by first | omega | exact trivial | (dsimp only;omega) | (refine⟨by omega,?_⟩;simp_all;try omega),hM⟩ rfl lv1 su (by decide)
 ·
  have h1l: ¬ (i<p0.Slots.length):=dfl h1
  have hM:=hE.trans ((congrArg (fun n=>Qds p0 n i) (sb0 h1l)).trans (Qds.eq_1 _ _))
  refine ad 6 ?_
  refine Run.cvO (dα:=instDatSlot) (P:=MixP (Old w) w p0.Slots i 1) 2 p0.Slots (fun _ _ h=>MixP.done' (by omega) h) ?_
  exact rz (rs:=[.cell 2 40]) (congrArg (fun x=>[Re.st Disk _ inferInstance x]) hM)
def Qej (p0:Disk):Nat→(List Slot)→Nat→Disk
 | 0,c3_0,i=>(Disk.mk c3_0 p0.Journal)
 | n+1,c3_0,i=>Qej p0 n (c3_0++[(Slot.mk ((nth p0.Slots i).Seq) (([]:List Cell)++((nth p0.Slots i).Cells)) ((nth p0.Slots i).Whole))]) (i+1)
def Qah (p0:Disk):Disk:=Qej p0 (p0.Slots.length - 0) [] 0
theorem Qnj (p0:Disk) (hs:Dat.small 1048576 p0):CTs 100 [.o (.st Disk _ inferInstance p0)] [Re.st Disk _ inferInstance (Qah p0)]:=by
 refine en Tryz.func100 Tryz.ntmps100 fun w hG hgd=>?_
 obtain⟨hg_p0,_⟩:=hgd
 have hM:=Qah.eq_1 p0
 have hs1:p0.Slots.length≤1048576:=hs.1.1
 refine ad 19 ?_
 refine nC 3 0 Slot instDatSlot ?_
 refine Run.loopM (ι:=(List Slot)×Nat) (fun s=>Qej p0 (p0.Slots.length - s.2) s.1 s.2) (fun s=>⟨33,5,[(1,.pt 0 0),(2,.pt 2 0),(3,.pt 3 0),(4,.v (.int .i64 (s.2:Int)))],[(0,.var [.sl 1 p0.Slots.length,.v (.string p0.Journal.Text),.v (.int .i64 p0.Journal.Sure)] 40),(1,.ros Slot instDatSlot p0.Slots),(2,.var [.v (.slice none 0 0),.v (.string ⟨#[]⟩),.v (.int .i64 0)] 40),(3,.var [.sl 4 s.1.length,.v (.string p0.Journal.Text),.v (.int .i64 p0.Journal.Sure)] 40),(4,.own Slot instDatSlot s.1)]⟩) (fun s=>s.2≤p0.Slots.length∧s.1.length≤s.2) (fun s=>p0.Slots.length - s.2) ([],0) [1,0,2,3,4] [3,4,2,1,0] hM (by exact⟨by(try dsimp only);omega,by simp⟩) su (by decide) ?_
 rintro ⟨c3_0,i⟩ hv hE
 try dsimp only at hE
 obtain⟨hi,hv0⟩:=hv
 try dsimp only at hi hv0
 refine ad 9 ?_
 refine cd (fun h1=>?_) (fun h1=>?_)
 ·
  have h1l:i<p0.Slots.length:=dtl h1
  have hM:=hE.trans ((congrArg (fun n=>Qej p0 n c3_0 i) (sb1 h1l)).trans (Qej.eq_2 _ _ _ _))
  have hgsl:=Qai (k:=i) hg_p0.1 om
  have hs2:(nth p0.Slots i).Cells.length≤1048576:=(Qcv hs.1 (by omega)).2.1.1
  have hgcc:Dat.good (([]:List Cell)++(nth p0.Slots i).Cells):=(Qai (k:=i) hg_p0.1 om).2.1
  refine ad 8 ?_
  refine op (ix (xs:=p0.Slots) i om) ?_
  refine ad 6 ?_
  refine op (l0) ?_
  refine ad 2 ?_
  refine li 8 (d:=instDatCell) ([]:List Cell) ?_
  refine op (aS (dα:=instDatCell) (e:=114) (by':=32) ([]:List Cell) ((nth p0.Slots i).Cells) [8] (hb:=by(try simp only[List.length_append,List.length_cons,List.length_nil]);first | omega | exact om) (hm:=by(try simp only[List.length_append,List.length_cons,List.length_nil]);first | omega | exact om)) ?_
  refine ad 8 ?_
  refine op (aN (e:=108) (by':=40) c3_0 (Slot.mk ((nth p0.Slots i).Seq) (([]:List Cell)++((nth p0.Slots i).Cells)) ((nth p0.Slots i).Whole)) [4] (hg:=⟨hgsl.1,hgcc,hgsl.2.2⟩) (hb:=by(try simp only[List.length_cons,List.length_nil]);first | omega | exact om) (hm:=by(try simp only[List.length_cons,List.length_nil]);first | omega | exact om)) ?_
  refine ad 7 ?_
  rw[Qb3 (i:=i) om]
  refine ad 2 ?_
  exact Run.again ((c3_0++[(Slot.mk ((nth p0.Slots i).Seq) (([]:List Cell)++((nth p0.Slots i).Cells)) ((nth p0.Slots i).Whole))]),(i+1)) [0,1,2,3,11] [5,6,7,8,0] ⟨by exact⟨by(try dsimp only);omega,by(try dsimp only);(try simp only[length_append,length_cons,length_nil]);omega⟩,hM⟩ rfl lv1 su (by decide)
 ·
  have h1l: ¬ (i<p0.Slots.length):=dfl h1
  have hM:=hE.trans ((congrArg (fun n=>Qej p0 n c3_0 i) (sb0 h1l)).trans (Qej.eq_1 _ _ _))
  refine ad 6 ?_
  refine gd 4 fun hg3=>?_
  have hg4:Dat.good (Disk.mk c3_0 p0.Journal:Disk):=⟨hg3,hg_p0.2⟩
  exact rz (rs:=[.cell 2 40]) (congrArg (fun x=>[Re.st Disk _ inferInstance x]) hM)
end
section
theorem Qlg {p0:Journal} (h:Qan p0=true):p0.Text.size≤20000∧0≤p0.Sure∧p0.Sure≤(p0.Text.size:Int):=by
 unfold Qan at h
 rw[Bool.and_eq_true] at h
 have c5:=of_decide_eq_true h.1
 have c3:=Qg5 h.2
 exact⟨by omega,c3.1,c3.2⟩
theorem Qw0 {p0:Journal} (h:Qh8 p0=true):p0.Text.size≤20000∧0≤p0.Sure∧p0.Sure≤(p0.Text.size:Int):=Qlg h
end
section
theorem Q8o:FnOk Tryz.prog 102:=⟨_,Tryz.func102,rfl,by kernel_rfl⟩
theorem Yj3:FnOk Tryz.prog 177:=⟨_,Tryz.func177,rfl,by kernel_rfl⟩
def Qeg (p0:Int) (p1:Int) (p2:Int):Int:=max p1 (min p0 p2)
theorem Q0y (p0:Int) (p1:Int) (p2:Int):CTs 177 [.o (.c (.int .i64 p0)),.o (.c (.int .i64 p1)),.o (.c (.int .i64 p2))] [Re.c (.int .i64 (Qeg p0 p1 p2))]:=by
 refine en Tryz.func177 Tryz.ntmps177 fun w hG hgd=>?_
 have hM:=Qeg.eq_1 p0 p1 p2
 refine ad 9 ?_
 refine op (bN) ?_
 refine op (bX) ?_
 refine ad 2 ?_
 exact rz (rs:=[.tmp 6]) (rzI hM)
theorem Qym (a:Int) {c:Int} (h:0≤c):0≤Qeg a 0 c∧Qeg a 0 c≤c:=by
 unfold Qeg
 omega
def Qbv (p0:Int) (p1:Int) (p2:Int):Int:=bif (decide (p2<p1))||(decide (p0<p1)) then p1 else(bif decide (p0>p2) then p2 else p0)
theorem Qky (p0:Int) (p1:Int) (p2:Int):CTs 102 [.o (.c (.int .i64 p0)),.o (.c (.int .i64 p1)),.o (.c (.int .i64 p2))] [Re.c (.int .i64 (Qbv p0 p1 p2))]:=by
 refine en Tryz.func102 Tryz.ntmps102 fun w hG hgd=>?_
 have hM:=Qbv.eq_1 p0 p1 p2
 refine ad 11 ?_
 refine ag 4 ?_
 refine ad 1 ?_
 refine cd (fun h1=>?_) (fun h1=>?_)
 ·
  have hM:=hM.trans (bt h1)
  refine ad 5 ?_
  exact rz (rs:=[.tmp 6]) (rzI hM)
 ·
  have hM:=hM.trans (bf h1)
  refine ad 8 ?_
  refine cd (fun h2=>?_) (fun h2=>?_)
  ·
   have hM:=hM.trans (bt h2)
   refine ad 5 ?_
   exact rz (rs:=[.tmp 6]) (rzI hM)
  ·
   have hM:=hM.trans (bf h2)
   refine ad 6 ?_
   exact rz (rs:=[.tmp 6]) (rzI hM)
theorem Qps (a:Int) {c:Int} (h:0≤c):0≤Qbv a 0 c∧Qbv a 0 c≤c:=by
 unfold Qbv
 cases h1:(decide (c<0)||decide (a<0)) with
 | true=>exact⟨Int.le_refl _,h⟩
 | false =>
  have h2:=of_decide_eq_false (Bool.or_eq_false_iff.1 h1).2
  cases h3:decide (a>c) with
  | true=>exact⟨h,Int.le_refl _⟩
  | false=>have h4:=of_decide_eq_false h3;exact⟨by show 0≤a;omega,by show a≤c;omega⟩
def Qd1 (p0:Journal) (p1:Int):Journal:=bif !(Qh8 p0) then p0 else(Journal.mk (cutS p0.Text 0 ((i64.wrap (p0.Sure+(Qeg p1 0 (i64.wrap ((p0.Text.size:Int) - p0.Sure))))).toNat)) (i64.wrap (p0.Sure+(Qeg p1 0 (i64.wrap ((p0.Text.size:Int) - p0.Sure))))))
theorem Qtu (p0:Journal) (p1:Int):CTs 108 [.o (.st Journal _ inferInstance p0),.o (.c (.int .i64 p1))] [Re.st Journal _ inferInstance (Qd1 p0 p1)]:=by
 refine en Tryz.func108 Tryz.ntmps108 fun w hG hgd=>?_
 obtain⟨hg_p0,_⟩:=hgd
 have hM:=Qd1.eq_1 p0 p1
 refine ad 9 ?_
 refine op (cl (Qpb p0) Yft) ?_
 refine ad 2 ?_
 refine cd (fun h1=>?_) (fun h1=>?_)
 ·
  have hM:=hM.trans (bt h1)
  refine ad 5 ?_
  exact rz (rs:=[.cell 4 38]) (congrArg (fun x=>[Re.st Journal _ inferInstance x]) hM)
 ·
  have hM:=hM.trans (bf h1)
  have hj:=Qw0 (by simpa using h1)
  have hw1:(i64.wrap ((p0.Text.size:Int) - p0.Sure))=(p0.Text.size:Int) - p0.Sure:=IntWalk.i64_in _ (by omega)
  have hbr:=Qym p1 (c:=(i64.wrap ((p0.Text.size:Int) - p0.Sure))) (by omega)
  have hw2:i64.wrap (p0.Sure+(Qeg p1 0 (i64.wrap ((p0.Text.size:Int) - p0.Sure))))=p0.Sure+(Qeg p1 0 (i64.wrap ((p0.Text.size:Int) - p0.Sure))):=IntWalk.i64_in _ (by omega)
  refine ad 2 ?_
  refine dr 12 fun _ _ _ _ _ hb=>?_
  refine tk [0,1,2,3,4,5,6,7,8] ?_
  refine on 9 [0,1] (cl (Q0y p1 0 (i64.wrap ((p0.Text.size:Int) - p0.Sure))) Yj3) ?_
  refine tk [10,11] ?_
  refine dn hb ?_
  refine ad 5 ?_
  refine op (cu 0 ((i64.wrap (p0.Sure+(Qeg p1 0 (i64.wrap ((p0.Text.size:Int) - p0.Sure))))).toNat) (hl:=rfl)) ?_
  refine ad 4 ?_
  have hg2:Dat.good (Journal.mk (cutS p0.Text 0 ((i64.wrap (p0.Sure+(Qeg p1 0 (i64.wrap ((p0.Text.size:Int) - p0.Sure))))).toNat)) (i64.wrap (p0.Sure+(Qeg p1 0 (i64.wrap ((p0.Text.size:Int) - p0.Sure))))):Journal):=⟨(Qmp hg_p0.1),(Qk0 _)⟩
  exact rz (rs:=[.cell 4 38]) (congrArg (fun x=>[Re.st Journal _ inferInstance x]) hM)
def Qc4 (p0:Journal) (p1:Int):Journal:=bif !(Qan p0) then p0 else(Journal.mk (cutS p0.Text 0 ((i64.wrap (p0.Sure+(Qbv p1 0 (i64.wrap ((p0.Text.size:Int) - p0.Sure))))).toNat)) ((cutS p0.Text 0 ((i64.wrap (p0.Sure+(Qbv p1 0 (i64.wrap ((p0.Text.size:Int) - p0.Sure))))).toNat)).size:Int))
theorem Qtk (p0:Journal) (p1:Int):CTs 101 [.o (.st Journal _ inferInstance p0),.o (.c (.int .i64 p1))] [Re.st Journal _ inferInstance (Qc4 p0 p1)]:=by
 refine en Tryz.func101 Tryz.ntmps101 fun w hG hgd=>?_
 obtain⟨hg_p0,_⟩:=hgd
 have hM:=Qc4.eq_1 p0 p1
 refine ad 9 ?_
 refine op (cl (Qo5 p0) Yfw) ?_
 refine ad 2 ?_
 refine cd (fun h1=>?_) (fun h1=>?_)
 ·
  have hM:=hM.trans (bt h1)
  refine ad 5 ?_
  exact rz (rs:=[.cell 4 38]) (congrArg (fun x=>[Re.st Journal _ inferInstance x]) hM)
 ·
  have hM:=hM.trans (bf h1)
  have hj:=Qlg (by simpa using h1)
  have hw1:(i64.wrap ((p0.Text.size:Int) - p0.Sure))=(p0.Text.size:Int) - p0.Sure:=IntWalk.i64_in _ (by omega)
  have hbr:=Qps p1 (c:=(i64.wrap ((p0.Text.size:Int) - p0.Sure))) (by omega)
  have hw2:i64.wrap (p0.Sure+(Qbv p1 0 (i64.wrap ((p0.Text.size:Int) - p0.Sure))))=p0.Sure+(Qbv p1 0 (i64.wrap ((p0.Text.size:Int) - p0.Sure))):=IntWalk.i64_in _ (by omega)
  refine ad 2 ?_
  refine ds 16 [0] fun _ _ _ _ _ hb=>?_
  refine tk [0,2,4,5,8] ?_
  refine dcut (P:=True) 16 3 [0,1,2,3,4,5,6,7,8,9,10,11,12] ⟨29,2,[(0,.ag [.v (.string p0.Text),.v (.int .i64 p0.Sure)]),(1,.v (.int .i64 p1)),(2,.pt 0 0),(4,.pt 1 0),(5,.ag [.v (.string p0.Text),.v (.int .i64 p0.Sure)]),(6,.v (.bool (Qan p0))),(7,.v (.bool (!(Qan p0)))),(9,.pt 0 0),(10,.v (.string p0.Text)),(11,.pt 0 1),(12,.v (.int .i64 p0.Sure)),(13,.v (.int .i64 p1)),(14,.pt 0 0),(15,.v (.string p0.Text)),(16,.v (.int .i64 (p0.Text.size:Int))),(17,.pt 0 1),(18,.v (.int .i64 p0.Sure)),(19,.v (.int .i64 (i64.wrap ((p0.Text.size:Int) - p0.Sure)))),(20,.v (.int .i64 (Qbv p1 0 (i64.wrap ((p0.Text.size:Int) - p0.Sure))))),(21,.v (.int .i64 (i64.wrap (p0.Sure+(Qbv p1 0 (i64.wrap ((p0.Text.size:Int) - p0.Sure)))))))],[(1,.var [.v (.string ⟨#[]⟩),.v (.int .i64 0)] 38),(0,.var [.v (.string p0.Text),.v (.int .i64 p0.Sure)] 38)]⟩ ?_ fun r2=>?_
  ·
   intro _
   refine on 13 [0] (cu 0 ((i64.wrap (p0.Sure+(Qbv p1 0 (i64.wrap ((p0.Text.size:Int) - p0.Sure))))).toNat) (hl:=rfl)) ?_
   refine tk [14] ?_
   refine on 15 [0] (OpS.st rfl) ?_
   refine dn hb ?_
   refine ad 13 ?_
   have hg3:Dat.good (Journal.mk (cutS p0.Text 0 ((i64.wrap (p0.Sure+(Qbv p1 0 (i64.wrap ((p0.Text.size:Int) - p0.Sure))))).toNat)) ((cutS p0.Text 0 ((i64.wrap (p0.Sure+(Qbv p1 0 (i64.wrap ((p0.Text.size:Int) - p0.Sure))))).toNat)).size:Int):Journal):=⟨(Qmp hg_p0.1),(gn _ (Qmp hg_p0.1))⟩
   exact rz (rs:=[.cell 4 38]) (congrArg (fun x=>[Re.st Journal _ inferInstance x]) hM)
  refine dcut (P:=True) 16 4 [0,2,3,4,5,6,7,8,9,10,11,12] ⟨29,2,[(0,.ag [.v (.string p0.Text),.v (.int .i64 p0.Sure)]),(1,.v (.int .i64 p1)),(2,.pt 0 0),(4,.pt 1 0),(5,.ag [.v (.string p0.Text),.v (.int .i64 p0.Sure)]),(6,.v (.bool (Qan p0))),(7,.v (.bool (!(Qan p0)))),(9,.pt 0 0),(11,.pt 0 1),(12,.v (.int .i64 p0.Sure)),(13,.v (.int .i64 p1)),(14,.pt 0 0),(15,.v (.string p0.Text)),(16,.v (.int .i64 (p0.Text.size:Int))),(17,.pt 0 1),(18,.v (.int .i64 p0.Sure)),(19,.v (.int .i64 (i64.wrap ((p0.Text.size:Int) - p0.Sure)))),(20,.v (.int .i64 (Qbv p1 0 (i64.wrap ((p0.Text.size:Int) - p0.Sure))))),(21,.v (.int .i64 (i64.wrap (p0.Sure+(Qbv p1 0 (i64.wrap ((p0.Text.size:Int) - p0.Sure)))))))],[(1,.var [.v (.string ⟨#[]⟩),.v (.int .i64 0)] 38),(0,.var [.v (.string p0.Text),.v (.int .i64 p0.Sure)] 38)]⟩ ?_ fun r4=>?_
  ·
   intro _
   refine on 1 [0] (OpS.st rfl) ?_
   exact dAt [0,1] [0,1] [] (r2 trivial) (hs:=su) (hM:=trivial)
  refine dcut (P:=True) 16 5 [0,1,2,3,4,5,6,7,8,9,10] ⟨29,2,[(0,.ag [.v (.string p0.Text),.v (.int .i64 p0.Sure)]),(1,.v (.int .i64 p1)),(2,.pt 0 0),(4,.pt 1 0),(5,.ag [.v (.string p0.Text),.v (.int .i64 p0.Sure)]),(6,.v (.bool (Qan p0))),(7,.v (.bool (!(Qan p0)))),(9,.pt 0 0),(10,.v (.string p0.Text)),(11,.pt 0 1),(12,.v (.int .i64 p0.Sure)),(13,.v (.int .i64 p1)),(14,.pt 0 0),(15,.v (.string p0.Text)),(16,.v (.int .i64 (p0.Text.size:Int))),(17,.pt 0 1),(18,.v (.int .i64 p0.Sure)),(19,.v (.int .i64 (i64.wrap ((p0.Text.size:Int) - p0.Sure))))],[(1,.var [.v (.string ⟨#[]⟩),.v (.int .i64 0)] 38),(0,.var [.v (.string p0.Text),.v (.int .i64 p0.Sure)] 38)]⟩ ?_ fun r5=>?_
  ·
   intro _
   refine on 11 [0] (cl (Qky p1 0 (i64.wrap ((p0.Text.size:Int) - p0.Sure))) Q8o) ?_
   refine tk [12] ?_
   exact dAt [0,1] [0,1] [] (r2 trivial) (hs:=su) (hM:=trivial)
  refine dcut (P:=True) 16 5 [0,1,2,4,5,6,7,8,9,10,11] ⟨29,2,[(0,.ag [.v (.string p0.Text),.v (.int .i64 p0.Sure)]),(1,.v (.int .i64 p1)),(2,.pt 0 0),(4,.pt 1 0),(5,.ag [.v (.string p0.Text),.v (.int .i64 p0.Sure)]),(6,.v (.bool (Qan p0))),(7,.v (.bool (!(Qan p0)))),(9,.pt 0 0),(10,.v (.string p0.Text)),(11,.pt 0 1),(13,.v (.int .i64 p1)),(14,.pt 0 0),(15,.v (.string p0.Text)),(16,.v (.int .i64 (p0.Text.size:Int))),(17,.pt 0 1),(18,.v (.int .i64 p0.Sure)),(19,.v (.int .i64 (i64.wrap ((p0.Text.size:Int) - p0.Sure)))),(20,.v (.int .i64 (Qbv p1 0 (i64.wrap ((p0.Text.size:Int) - p0.Sure)))))],[(1,.var [.v (.string ⟨#[]⟩),.v (.int .i64 0)] 38),(0,.var [.v (.string p0.Text),.v (.int .i64 p0.Sure)] 38)]⟩ ?_ fun r6=>?_
  ·
   intro _
   refine on 3 [0] (OpS.st rfl) ?_
   refine tk [12] ?_
   exact dAt [0,1] [0,1] [] (r2 trivial) (hs:=su) (hM:=trivial)
  refine dcut (P:=True) 16 6 [0,1,2,4,5,6,7,8,9,10] ⟨29,2,[(0,.ag [.v (.string p0.Text),.v (.int .i64 p0.Sure)]),(1,.v (.int .i64 p1)),(2,.pt 0 0),(4,.pt 1 0),(5,.ag [.v (.string p0.Text),.v (.int .i64 p0.Sure)]),(6,.v (.bool (Qan p0))),(7,.v (.bool (!(Qan p0)))),(9,.pt 0 0),(10,.v (.string p0.Text)),(11,.pt 0 1),(13,.v (.int .i64 p1)),(14,.pt 0 0),(15,.v (.string p0.Text)),(16,.v (.int .i64 (p0.Text.size:Int))),(17,.pt 0 1),(18,.v (.int .i64 p0.Sure)),(19,.v (.int .i64 (i64.wrap ((p0.Text.size:Int) - p0.Sure))))],[(1,.var [.v (.string ⟨#[]⟩),.v (.int .i64 0)] 38),(0,.var [.v (.string p0.Text),.v (.int .i64 p0.Sure)] 38)]⟩ ?_ fun r7=>?_
  ·
   intro _
   refine oL [3,11] (d2 ?_ (d2 ?_ d0))
   ·
    refine on1 3 [0] (OpS.st rfl) ?_
    exact dAt [0,1] [0,1] [] (r5 trivial) (hs:=su) (hM:=trivial)
   ·
    refine on1 11 [0] (cl (Qky p1 0 (i64.wrap ((p0.Text.size:Int) - p0.Sure))) Q8o) ?_
    exact dAt [0,1] [0,1] [] (r6 trivial) (hs:=su) (hM:=trivial)
  refine dcut (P:=True) 16 6 [0,2,3,4,5,6,7,8,9,10] ⟨29,2,[(0,.ag [.v (.string p0.Text),.v (.int .i64 p0.Sure)]),(1,.v (.int .i64 p1)),(2,.pt 0 0),(4,.pt 1 0),(5,.ag [.v (.string p0.Text),.v (.int .i64 p0.Sure)]),(6,.v (.bool (Qan p0))),(7,.v (.bool (!(Qan p0)))),(9,.pt 0 0),(11,.pt 0 1),(12,.v (.int .i64 p0.Sure)),(13,.v (.int .i64 p1)),(14,.pt 0 0),(15,.v (.string p0.Text)),(16,.v (.int .i64 (p0.Text.size:Int))),(17,.pt 0 1),(18,.v (.int .i64 p0.Sure)),(19,.v (.int .i64 (i64.wrap ((p0.Text.size:Int) - p0.Sure))))],[(1,.var [.v (.string ⟨#[]⟩),.v (.int .i64 0)] 38),(0,.var [.v (.string p0.Text),.v (.int .i64 p0.Sure)] 38)]⟩ ?_ fun r8=>?_
  ·
   intro _
   refine oL [1,11] (d2 ?_ (d2 ?_ d0))
   ·
    refine on1 1 [0] (OpS.st rfl) ?_
    exact dAt [0,1] [0,1] [] (r5 trivial) (hs:=su) (hM:=trivial)
   ·
    refine on1 11 [0] (cl (Qky p1 0 (i64.wrap ((p0.Text.size:Int) - p0.Sure))) Q8o) ?_
    refine tk [12] ?_
    exact dAt [0,1] [0,1] [] (r4 trivial) (hs:=su) (hM:=trivial)
  refine dcut (P:=True) 16 7 [0,1,2,3,4,5,6,7,8] ⟨29,2,[(0,.ag [.v (.string p0.Text),.v (.int .i64 p0.Sure)]),(1,.v (.int .i64 p1)),(2,.pt 0 0),(4,.pt 1 0),(5,.ag [.v (.string p0.Text),.v (.int .i64 p0.Sure)]),(6,.v (.bool (Qan p0))),(7,.v (.bool (!(Qan p0)))),(9,.pt 0 0),(10,.v (.string p0.Text)),(11,.pt 0 1),(12,.v (.int .i64 p0.Sure)),(13,.v (.int .i64 p1)),(14,.pt 0 0),(15,.v (.string p0.Text)),(16,.v (.int .i64 (p0.Text.size:Int))),(17,.pt 0 1)],[(1,.var [.v (.string ⟨#[]⟩),.v (.int .i64 0)] 38),(0,.var [.v (.string p0.Text),.v (.int .i64 p0.Sure)] 38)]⟩ ?_ fun r9=>?_
  ·
   intro _
   refine on 9 [0] (OpS.st rfl) ?_
   refine tk [10] ?_
   exact dAt [0,1] [0,1] [] (r5 trivial) (hs:=su) (hM:=trivial)
  refine dcut (P:=True) 16 7 [0,2,4,5,6,7,8,9,10] ⟨29,2,[(0,.ag [.v (.string p0.Text),.v (.int .i64 p0.Sure)]),(1,.v (.int .i64 p1)),(2,.pt 0 0),(4,.pt 1 0),(5,.ag [.v (.string p0.Text),.v (.int .i64 p0.Sure)]),(6,.v (.bool (Qan p0))),(7,.v (.bool (!(Qan p0)))),(9,.pt 0 0),(11,.pt 0 1),(13,.v (.int .i64 p1)),(14,.pt 0 0),(15,.v (.string p0.Text)),(16,.v (.int .i64 (p0.Text.size:Int))),(17,.pt 0 1),(18,.v (.int .i64 p0.Sure)),(19,.v (.int .i64 (i64.wrap ((p0.Text.size:Int) - p0.Sure))))],[(1,.var [.v (.string ⟨#[]⟩),.v (.int .i64 0)] 38),(0,.var [.v (.string p0.Text),.v (.int .i64 p0.Sure)] 38)]⟩ ?_ fun r10=>?_
  ·
   intro _
   refine oL [1,3,11] (d2 ?_ (d2 ?_ (d2 ?_ d0)))
   ·
    refine on1 1 [0] (OpS.st rfl) ?_
    exact dAt [0,1] [0,1] [] (r7 trivial) (hs:=su) (hM:=trivial)
   ·
    refine on1 3 [0] (OpS.st rfl) ?_
    exact dAt [0,1] [0,1] [] (r8 trivial) (hs:=su) (hM:=trivial)
   ·
    refine on1 11 [0] (cl (Qky p1 0 (i64.wrap ((p0.Text.size:Int) - p0.Sure))) Q8o) ?_
    refine oL [1,3] (d2 ?_ (d2 ?_ d0))
    ·
     refine on1 1 [0] (OpS.st rfl) ?_
     exact dAt [0,1] [0,1] [] (r6 trivial) (hs:=su) (hM:=trivial)
    ·
     refine on1 3 [0] (OpS.st rfl) ?_
     refine tk [12] ?_
     exact dAt [0,1] [0,1] [] (r4 trivial) (hs:=su) (hM:=trivial)
  refine dcut (P:=True) 16 8 [0,1,2,3,4,5,8,9] ⟨29,2,[(0,.ag [.v (.string p0.Text),.v (.int .i64 p0.Sure)]),(1,.v (.int .i64 p1)),(2,.pt 0 0),(4,.pt 1 0),(5,.ag [.v (.string p0.Text),.v (.int .i64 p0.Sure)]),(6,.v (.bool (Qan p0))),(7,.v (.bool (!(Qan p0)))),(9,.pt 0 0),(10,.v (.string p0.Text)),(11,.pt 0 1),(12,.v (.int .i64 p0.Sure)),(13,.v (.int .i64 p1)),(14,.pt 0 0),(17,.pt 0 1),(18,.v (.int .i64 p0.Sure))],[(1,.var [.v (.string ⟨#[]⟩),.v (.int .i64 0)] 38),(0,.var [.v (.string p0.Text),.v (.int .i64 p0.Sure)] 38)]⟩ ?_ fun r11=>?_
  ·
   intro _
   refine on 6 [0] (OpS.st rfl) ?_
   refine tk [7,10] ?_
   exact dAt [0,1] [0,1] [] (r5 trivial) (hs:=su) (hM:=trivial)
  refine dcut (P:=True) 16 8 [0,1,2,4,5,6,7,8] ⟨29,2,[(0,.ag [.v (.string p0.Text),.v (.int .i64 p0.Sure)]),(1,.v (.int .i64 p1)),(2,.pt 0 0),(4,.pt 1 0),(5,.ag [.v (.string p0.Text),.v (.int .i64 p0.Sure)]),(6,.v (.bool (Qan p0))),(7,.v (.bool (!(Qan p0)))),(9,.pt 0 0),(10,.v (.string p0.Text)),(11,.pt 0 1),(13,.v (.int .i64 p1)),(14,.pt 0 0),(15,.v (.string p0.Text)),(16,.v (.int .i64 (p0.Text.size:Int))),(17,.pt 0 1)],[(1,.var [.v (.string ⟨#[]⟩),.v (.int .i64 0)] 38),(0,.var [.v (.string p0.Text),.v (.int .i64 p0.Sure)] 38)]⟩ ?_ fun r12=>?_
  ·
   intro _
   refine oL [3,9] (d2 ?_ (d2 ?_ d0))
   ·
    refine on1 3 [0] (OpS.st rfl) ?_
    exact dAt [0,1] [0,1] [] (r9 trivial) (hs:=su) (hM:=trivial)
   ·
    refine on1 9 [0] (OpS.st rfl) ?_
    refine tk [10] ?_
    exact dAt [0,1] [0,1] [] (r7 trivial) (hs:=su) (hM:=trivial)
  refine dcut (P:=True) 16 8 [0,2,3,4,5,6,7,8] ⟨29,2,[(0,.ag [.v (.string p0.Text),.v (.int .i64 p0.Sure)]),(1,.v (.int .i64 p1)),(2,.pt 0 0),(4,.pt 1 0),(5,.ag [.v (.string p0.Text),.v (.int .i64 p0.Sure)]),(6,.v (.bool (Qan p0))),(7,.v (.bool (!(Qan p0)))),(9,.pt 0 0),(11,.pt 0 1),(12,.v (.int .i64 p0.Sure)),(13,.v (.int .i64 p1)),(14,.pt 0 0),(15,.v (.string p0.Text)),(16,.v (.int .i64 (p0.Text.size:Int))),(17,.pt 0 1)],[(1,.var [.v (.string ⟨#[]⟩),.v (.int .i64 0)] 38),(0,.var [.v (.string p0.Text),.v (.int .i64 p0.Sure)] 38)]⟩ ?_ fun r13=>?_
  ·
   intro _
   refine oL [1,9] (d2 ?_ (d2 ?_ d0))
   ·
    refine on1 1 [0] (OpS.st rfl) ?_
    exact dAt [0,1] [0,1] [] (r9 trivial) (hs:=su) (hM:=trivial)
   ·
    refine on1 9 [0] (OpS.st rfl) ?_
    refine tk [10] ?_
    exact dAt [0,1] [0,1] [] (r8 trivial) (hs:=su) (hM:=trivial)
  refine dcut (P:=True) 16 9 [0,1,2,3,4,5,8] ⟨29,2,[(0,.ag [.v (.string p0.Text),.v (.int .i64 p0.Sure)]),(1,.v (.int .i64 p1)),(2,.pt 0 0),(4,.pt 1 0),(5,.ag [.v (.string p0.Text),.v (.int .i64 p0.Sure)]),(6,.v (.bool (Qan p0))),(7,.v (.bool (!(Qan p0)))),(9,.pt 0 0),(10,.v (.string p0.Text)),(11,.pt 0 1),(12,.v (.int .i64 p0.Sure)),(13,.v (.int .i64 p1)),(14,.pt 0 0),(17,.pt 0 1)],[(1,.var [.v (.string ⟨#[]⟩),.v (.int .i64 0)] 38),(0,.var [.v (.string p0.Text),.v (.int .i64 p0.Sure)] 38)]⟩ ?_ fun r14=>?_
  ·
   intro _
   refine oL [6,9] (d2 ?_ (d2 ?_ d0))
   ·
    refine on1 6 [0] (OpS.st rfl) ?_
    refine tk [7] ?_
    exact dAt [0,1] [0,1] [] (r9 trivial) (hs:=su) (hM:=trivial)
   ·
    refine on1 9 [0] (OpS.st rfl) ?_
    exact dAt [0,1] [0,1] [] (r11 trivial) (hs:=su) (hM:=trivial)
  refine dcut (P:=True) 16 9 [0,1,2,4,5,8,9] ⟨29,2,[(0,.ag [.v (.string p0.Text),.v (.int .i64 p0.Sure)]),(1,.v (.int .i64 p1)),(2,.pt 0 0),(4,.pt 1 0),(5,.ag [.v (.string p0.Text),.v (.int .i64 p0.Sure)]),(6,.v (.bool (Qan p0))),(7,.v (.bool (!(Qan p0)))),(9,.pt 0 0),(10,.v (.string p0.Text)),(11,.pt 0 1),(13,.v (.int .i64 p1)),(14,.pt 0 0),(17,.pt 0 1),(18,.v (.int .i64 p0.Sure))],[(1,.var [.v (.string ⟨#[]⟩),.v (.int .i64 0)] 38),(0,.var [.v (.string p0.Text),.v (.int .i64 p0.Sure)] 38)]⟩ ?_ fun r15=>?_
  ·
   intro _
   refine oL [3,6] (d2 ?_ (d2 ?_ d0))
   ·
    refine on1 3 [0] (OpS.st rfl) ?_
    exact dAt [0,1] [0,1] [] (r11 trivial) (hs:=su) (hM:=trivial)
   ·
    refine on1 6 [0] (OpS.st rfl) ?_
    refine tk [7,10] ?_
    exact dAt [0,1] [0,1] [] (r7 trivial) (hs:=su) (hM:=trivial)
  refine dcut (P:=True) 16 9 [0,2,3,4,5,8,9] ⟨29,2,[(0,.ag [.v (.string p0.Text),.v (.int .i64 p0.Sure)]),(1,.v (.int .i64 p1)),(2,.pt 0 0),(4,.pt 1 0),(5,.ag [.v (.string p0.Text),.v (.int .i64 p0.Sure)]),(6,.v (.bool (Qan p0))),(7,.v (.bool (!(Qan p0)))),(9,.pt 0 0),(11,.pt 0 1),(12,.v (.int .i64 p0.Sure)),(13,.v (.int .i64 p1)),(14,.pt 0 0),(17,.pt 0 1),(18,.v (.int .i64 p0.Sure))],[(1,.var [.v (.string ⟨#[]⟩),.v (.int .i64 0)] 38),(0,.var [.v (.string p0.Text),.v (.int .i64 p0.Sure)] 38)]⟩ ?_ fun r16=>?_
  ·
   intro _
   refine oL [1,6] (d2 ?_ (d2 ?_ d0))
   ·
    refine on1 1 [0] (OpS.st rfl) ?_
    exact dAt [0,1] [0,1] [] (r11 trivial) (hs:=su) (hM:=trivial)
   ·
    refine on1 6 [0] (OpS.st rfl) ?_
    refine tk [7,10] ?_
    exact dAt [0,1] [0,1] [] (r8 trivial) (hs:=su) (hM:=trivial)
  refine oL [1,3,6,9] (d2 ?_ (d2 ?_ (d2 ?_ (d2 ?_ d0))))
  ·
   refine on1 1 [0] (OpS.st rfl) ?_
   refine oL [3,6,9] (d2 ?_ (d2 ?_ (d2 ?_ d0)))
   ·
    refine on1 3 [0] (OpS.st rfl) ?_
    exact dAt [0,1] [0,1] [] (r14 trivial) (hs:=su) (hM:=trivial)
   ·
    refine on1 6 [0] (OpS.st rfl) ?_
    refine tk [7] ?_
    exact dAt [0,1] [0,1] [] (r12 trivial) (hs:=su) (hM:=trivial)
   ·
    refine on1 9 [0] (OpS.st rfl) ?_
    exact dAt [0,1] [0,1] [] (r15 trivial) (hs:=su) (hM:=trivial)
  ·
   refine on1 3 [0] (OpS.st rfl) ?_
   refine oL [1,6,9] (d2 ?_ (d2 ?_ (d2 ?_ d0)))
   ·
    refine on1 1 [0] (OpS.st rfl) ?_
    exact dAt [0,1] [0,1] [] (r14 trivial) (hs:=su) (hM:=trivial)
   ·
    refine on1 6 [0] (OpS.st rfl) ?_
    refine tk [7] ?_
    exact dAt [0,1] [0,1] [] (r13 trivial) (hs:=su) (hM:=trivial)
   ·
    refine on1 9 [0] (OpS.st rfl) ?_
    exact dAt [0,1] [0,1] [] (r16 trivial) (hs:=su) (hM:=trivial)
  ·
   refine on1 6 [0] (OpS.st rfl) ?_
   refine tk [7] ?_
   refine oL [1,3,9] (d2 ?_ (d2 ?_ (d2 ?_ d0)))
   ·
    refine on1 1 [0] (OpS.st rfl) ?_
    exact dAt [0,1] [0,1] [] (r12 trivial) (hs:=su) (hM:=trivial)
   ·
    refine on1 3 [0] (OpS.st rfl) ?_
    exact dAt [0,1] [0,1] [] (r13 trivial) (hs:=su) (hM:=trivial)
   ·
    refine on1 9 [0] (OpS.st rfl) ?_
    refine tk [10] ?_
    exact dAt [0,1] [0,1] [] (r10 trivial) (hs:=su) (hM:=trivial)
  ·
   refine on1 9 [0] (OpS.st rfl) ?_
   refine oL [1,3,6] (d2 ?_ (d2 ?_ (d2 ?_ d0)))
   ·
    refine on1 1 [0] (OpS.st rfl) ?_
    exact dAt [0,1] [0,1] [] (r15 trivial) (hs:=su) (hM:=trivial)
   ·
    refine on1 3 [0] (OpS.st rfl) ?_
    exact dAt [0,1] [0,1] [] (r16 trivial) (hs:=su) (hM:=trivial)
   ·
    refine on1 6 [0] (OpS.st rfl) ?_
    refine tk [7,10] ?_
    exact dAt [0,1] [0,1] [] (r10 trivial) (hs:=su) (hM:=trivial)
end
section
section
variable {α:Type}
def fkV (x:α):Fk α→V
 | .int g=> .v (.int .i64 (g x))
 | .byte g=> .v (.int .u8 (g x).toNat)
 | .bool g=> .v (.bool (g x))
 | .str g=> .v (.string (g x))
 | .sl _ _ _=> .v undef
theorem Qj7 {θ:List Loc} {w:World} {x:α} {f:Fk α} {v:Value} {G:List Nat} (hf:f.isFlat=true) (h:f.own w x v G):(fkV x f).con θ=some v:=by
 cases f with
 | int g=>obtain⟨⟨rfl,_⟩,_⟩:=h;rfl
 | byte g=>obtain⟨rfl,_⟩:=h;rfl
 | bool g=>obtain⟨rfl,_⟩:=h;rfl
 | str g=>obtain⟨⟨rfl,_⟩,_⟩:=h;rfl
 | sl β d g=>cases hf
theorem Yc7 {w:World} {x:α}: ∀ {fk:List (Fk α)} {cs:List Value} {F:List Nat} {c:Nat} {f:Fk α},OwL w x fk cs F→fk[c]?=some f→ ∃ v G,cs[c]?=some v∧f.own w x v G
 | [],_,_,_,_,_,hf=>by cases hf
 | g::fs,_,_,0,f,⟨v,r,G,H,e1,_,h1,_⟩,hf=>by cases hf;exact⟨v,G,by rw[e1];rfl,h1⟩
 | g :: fs, _, _, c + 1, f, ⟨v, r, G, H, e1, _, _, h2⟩, hf => by
  obtain⟨u,G',hu,hr⟩:=Yc7 (c:=c) h2 (by simpa using hf)
  exact⟨u,G',by rw[e1];exact hu,hr⟩
def elV (x:α) (u:Option Addr×Nat×Nat):List (Fk α)→List V
 | []=>[]
 | .sl _ _ _::fs=> .v (.slice u.1 u.2.1 u.2.2)::elV x u fs
 | f::fs=>fkV x f::elV x u fs
def slN:List (Fk α)→Nat
 | []=>0
 | .sl _ _ _::fs=>slN fs+1
 | _::fs=>slN fs
theorem Qqj {θ:List Loc} {w:World} {x:α} (u:Option Addr×Nat×Nat): ∀ {fk:List (Fk α)} {cs:List Value} {F:List Nat},slN fk=0→OwL w x fk cs F→conL θ (elV x u fk)=some cs
 | [],_,_,_,h=>by obtain⟨rfl,_⟩:=h;rfl
 | f :: fs, _, _, hn, ⟨v, r, G, H, e1, _, h1, h2⟩ => by
  subst e1
  cases f with
  | sl β d g=>simp[slN] at hn
  | int g=>simp only[elV,conL,Qj7 (f:= .int g) rfl h1,Qqj u (by simpa [slN] using hn) h2]
  | byte g=>simp only[elV,conL,Qj7 (f:= .byte g) rfl h1,Qqj u (by simpa [slN] using hn) h2]
  | bool g=>simp only[elV,conL,Qj7 (f:= .bool g) rfl h1,Qqj u (by simpa [slN] using hn) h2]
  | str g=>simp only[elV,conL,Qj7 (f:= .str g) rfl h1,Qqj u (by simpa [slN] using hn) h2]
theorem Qyq {θ:List Loc} {w:World} {x:α}: ∀ {fk:List (Fk α)} {cs:List Value} {F:List Nat},slN fk=1→OwL w x fk cs F→ ∃ u,conL θ (elV x u fk)=some cs
 | [],_,_,hn,_=>by simp[slN] at hn
 | f :: fs, _, _, hn, ⟨v, r, G, H, e1, _, h1, h2⟩ => by
  subst e1
  cases f with
  | sl β d g =>
   rcases h1 with ⟨e1,_⟩ | ⟨g1,cap,arr,T,Fs,e1,_⟩
   ·exact⟨(none,0,0),by subst e1;simp only[elV,conL,V.con,Qqj _ (by simpa [slN] using hn) h2]⟩
   ·exact⟨(some ⟨g1,0,none⟩,(g x).length,cap),by subst e1;simp only[elV,conL,V.con,Qqj _ (by simpa [slN] using hn) h2]⟩
  | int g=>obtain⟨u,hu⟩:=Qyq (θ:=θ) (by simpa [slN] using hn) h2;exact⟨u,by simp only[elV,conL,Qj7 (f:= .int g) rfl h1,hu]⟩
  | byte g=>obtain⟨u,hu⟩:=Qyq (θ:=θ) (by simpa [slN] using hn) h2;exact⟨u,by simp only[elV,conL,Qj7 (f:= .byte g) rfl h1,hu]⟩
  | bool g=>obtain⟨u,hu⟩:=Qyq (θ:=θ) (by simpa [slN] using hn) h2;exact⟨u,by simp only[elV,conL,Qj7 (f:= .bool g) rfl h1,hu]⟩
  | str g=>obtain⟨u,hu⟩:=Qyq (θ:=θ) (by simpa [slN] using hn) h2;exact⟨u,by simp only[elV,conL,Qj7 (f:= .str g) rfl h1,hu]⟩
end
section
variable {c:Cx} {σ:St} {all:Array Oper} {ty:TypeId} {pos:String} {after:Array Edge} {d:Nat}
theorem RH.elem {α:Type} {dα:Dat α} [s:@Str α dα] [Inhabited α] {θ:List Loc} {E:List (Nat×En)} {S:Nat→Prop} {w1 w:World} (hh:RH c θ E S w1 w) {r:Nat} {xs:List α} (hr:lkE E r=some (.own α dα xs)) {j:Nat} (hj:j<xs.length):
  ∃ (l:Loc) (g:Nat) (cs:List Value) (G:List Nat),θ[r]?=some l∧l.A=some ⟨g,0,none⟩∧Qcf w ((⟨g,0,none⟩:Addr).add (j*Dat.sz α)) cs∧cs.length=Dat.sz α∧OwL w (nth xs j) s.fk cs G:=by
 obtain⟨l,hl,hown⟩:=hh.own hr
 rcases hown with ⟨e1,e2,_⟩ | ⟨g,cap,arr,T,Fs,e1,e2,e3,e4,e5,e6,e7,e8⟩
 ·rw[e2] at hj;exact absurd hj (by simp)
 obtain⟨G,hG,ho⟩:=e8 j (nth xs j) (by rw[getElem?_eq_getElem hj];simp only[nth,List.getD_eq_getElem?_getD,getElem?_eq_getElem hj,Option.getD_some])
 exact⟨l,g,_,G,hl,by injection e1,(Qcf.row (by simpa using e2)).part rfl,Dat.rd_len (Dat.own_rd (B:=fun _=>True) ho fun _ _=>trivial),s.oop ho⟩
theorem OpS.ldF {α:Type} {dα:Dat α} [s:@Str α dα] [Inhabited α] {t:Nat} {x:Operand} {r off:Nat} {xs:List α} {fl:Fk α} (j f:Nat) (hj:j<xs.length) (hx:ev σ.ρ x=some (.pt r off)) (hoff:off=j*Dat.sz α+f) (hr:lkE σ.E r=some (.own α dα xs)) (hf:s.fk[f]?=some fl) (hfl:fl.isFlat=true) (ht:Qlc c.P t=true) (hd:Nat.blt d σ.n=true):
  OpS c σ all ⟨some d,.load t x,ty,pos,after,none⟩ (put d (fkV (nth xs j) fl) σ):=
 OpS.of fun θ a w h K Q hK => by
  subst hoff
  obtain⟨S,w1,hh⟩:=h.heap
  obtain⟨l,g,cs,G,hl,hA,hc,_,ho⟩:=hh.elem hr hj
  obtain⟨v,G',hv,how⟩:=Yc7 ho hf
  obtain⟨l',A',h1',h2',hp⟩:=Qqz (h.env.con hx)
  rw[hl] at h1';cases h1'
  rw[hA] at h2';cases h2'
  have hx':ev? (selfρ a) x=some (.pointer (some (((⟨g,0,none⟩:Addr).add (j*Dat.sz α)).add f))):=by rw[h.env.ev1 hx,hp,Qns]
  have hyy:=Qnt (P:=c.P) (ty:=ty) h.env.env hx' hc hv ht
  unfold Oper.wp
  rw[hyy]
  exact hK [] _ _ (h.put hd (Qj7 hfl how)).app0
def OpSu (c:Cx) (σ:St) (all:Array Oper) (o:Oper) (σ':Option Addr×Nat×Nat→St):Prop:= ∀ θ a w,R c θ σ a w→ ∀ (K:Act→World→Prop) (Q:Exit→Act→World→Prop),(∀ u η a' w',R c (θ++η) (σ' u) a' w'→K a' w')→if Region.wanted o (yielded all a.tmps)=true then Oper.wp c.P o a w K Q else K (a.put o.dst undef) w
theorem Run.opu {σ':Option Addr×Nat×Nat→St} {res:List Re} {o:Oper} {r:List Oper} {k:List It} (ho:OpSu c σ all o σ') (h: ∀ u,Run c res (σ' u) (.ops r all::k)):Run c res σ (.ops (o::r) all::k):=by
 intro θ a w hR
 rw[Qpy]
 refine wpList_step fun K hK=>ho θ a w hR K _ fun u η a' w' hR'=>hK _ _ ?_
 have:=h u _ a' w' hR'
 rwa [Qpy] at this
theorem OpSu.ldW {α:Type} {dα:Dat α} [s:@Str α dα] [Inhabited α] {t:Nat} {x:Operand} {r off:Nat} {xs:List α} (j:Nat) (hj:j<xs.length) (hx:ev σ.ρ x=some (.pt r off)) (hoff:off=j*Dat.sz α) (hr:lkE σ.E r=some (.own α dα xs)) (hs:slN s.fk=1) (ht:Qil c.P t (Dat.sz α)=true) (hd:Nat.blt d σ.n=true):
  OpSu c σ all ⟨some d,.load t x,ty,pos,after,none⟩ (fun u=>put d (.ag (elV (nth xs j) u s.fk)) σ):=by
 intro θ a w h K Q hK
 rw[if_pos (by simp[Region.wanted])]
 subst hoff
 obtain⟨S,w1,hh⟩:=h.heap
 obtain⟨l,g,cs,G,hl,hA,hc,hlen,ho⟩:=hh.elem hr hj
 obtain⟨u,hu⟩:=Qyq (θ:=θ) hs ho
 obtain⟨l',A',h1',h2',hp⟩:=Qqz (h.env.con hx)
 rw[hl] at h1';cases h1'
 rw[hA] at h2';cases h2'
 have hx':ev? (selfρ a) x=some (.pointer (some (((⟨g,0,none⟩:Addr).add (j*Dat.sz α)).add 0))):=by rw[h.env.ev1 hx,hp,Addr.add_zero']
 have hyy:=Qu5 (P:=c.P) (ty:=ty) h.env.env hx' hc hlen ht
 unfold Oper.wp
 rw[hyy]
 exact hK u [] _ _ (h.put hd (v:= .ag (elV (nth xs j) u s.fk)) (by simp only[V.con,hu];rfl)).app0
end
end
section
section
variable {c:Cx} {σ:St} {all:Array Oper} {ty:TypeId} {pos:String} {after:Array Edge} {d:Nat}
theorem SlO.clip {α:Type} [Dat α] {w:World} {A:Option Addr} {cap:Nat} {xs:List α} {F:List Nat} (h:SlO w (.slice A xs.length cap) xs F):SlO w (.slice A xs.length xs.length) xs F:=by
 rcases h with ⟨e1,e2,e3⟩ | ⟨g,cap,arr,T,Fs,e1,e2,e3,e4,e5,e6,e7,e8⟩
 ·subst e2
  injection e1 with h1 h2 h3
  subst h1
  exact .inl ⟨rfl,rfl,e3⟩
 ·injection e1 with h1 h2 h3
  subst h1
  exact .inr ⟨g,xs.length,arr,T,Fs,rfl,e2,Nat.le_refl _,by omega,Nat.le_trans (Nat.mul_le_mul_right _ e3) e5,e6,e7,e8⟩
theorem OpS.clipO {α:Type} {dα:Dat α} {t e by' r len:Nat} {x y z:Operand} {i i2:Int} {xs:List α} (hx:ev σ.ρ x=some (.sl r len)) (hy:ev σ.ρ y=some (.v (.int .i64 i))) (hz:ev σ.ρ z=some (.v (.int .i64 i2))) (hr:lkE σ.E r=some (.own α dα xs)) (hl:len=xs.length) (hi:i=xs.length) (hi2:i2=xs.length) (ht:c.ti t= .sl e (Dat.sz α) by') (hd:Nat.blt d σ.n=true):
  OpS c σ all ⟨some d,.slice t x none (some y) (some z),ty,pos,after,none⟩ ⟨σ.n,σ.m+1,(d,.sl σ.m xs.length)::σ.ρ,(σ.m,.own α dα xs)::Qhd [r] σ.E⟩:=
 OpS.of fun θ a w h K Q hK => by
  subst hl
  subst hi
  subst hi2
  obtain⟨S,w1,hh⟩:=h.heap
  obtain⟨l,hlo,hown⟩:=hh.own hr
  have hc:=h.env.con hx
  simp only[V.con,hlo,Option.some.injEq] at hc
  have hu:=(Qbd (c.tsl ht)).1
  obtain⟨inf,hin,hsz,_⟩:=(Qbd (c.tsl ht)).2
  have hcap:=(Quw (hown.rd (B:=fun _=>True) fun _ _=>trivial)).1
  have hA0:l.A.map (fun b=>b.add 0)=l.A:=by cases l.A<;>simp[Addr.add]
  have hle:xs.length≤l.cap:=by omega
  have hrun:(execOp a.eval ⟨some d,.slice t x none (some y) (some z),ty,pos,after,none⟩).run c.P w= .ok (.value (.slice l.A xs.length xs.length)) w:=by
   simp[execOp,←hc,h.env.env.eval (h.env.isv hy),h.env.env.eval (h.env.isv hz),Instr.sliceAt,Instr.slice,run_underlying hu,Instr.sliceBounds,Instr.sliceBound,asIntOf,hle,sizeOf,typeInfo,hin,hA0]
  unfold Oper.wp
  rw[hrun,Oper.upon_value]
  obtain⟨F',hF',hS⟩:=SlO.pre (Nat.le_refl _) hown
  rw[List.take_length] at hS
  let l':Loc:=⟨l.A,xs.length,F'⟩
  have hg':(θ++[l'])[σ.m]?=some l':=by rw[←h.len];exact Qfu
  have hgr:=Qem (θ':=[l']) hlo
  have hon:ownN σ.E r:=⟨⟨α,dα,xs⟩,by unfold Qoo;rw[hr];rfl⟩
  have hFt: ∀ b∈l.F,b∈(Qnv [r] σ.E).flatMap (fun e=>(e.2.ck (θ++[l']) e.1).F):=fun b hb=>Qpj (mem_singleton.2 rfl) hon (by rw[Qaj hgr];exact hb)
  have hlF:((En.own α dα xs).ck θ r).F=l.F:=Qaj hlo
  have hge:=hh.sh.ge _ (List.mem_map.2 ⟨_,Qe1 hr,rfl⟩)
  have hnd:l.F.Nodup:=by
   obtain⟨i,hi⟩:=List.getElem?_of_mem (List.mem_map.2 ⟨_,Qe1 hr,rfl⟩:(En.own α dα xs).ck θ r∈σ.E.map fun e=>e.2.ck θ e.1)
   have:=(Qbs.1 hh.sh.apart).1 i _ hi
   rwa [hlF] at this
  have hfuse:=(hh.ext (θ':=[l'])).fuse [r] (p:=(σ.m,En.own α dα xs)) (w':=w) rfl rfl rfl (Nat.le_refl _) (fun _ _ _=>rfl) ?_ ?_ ?_ trivial
  ·refine hK [l'] _ _ ⟨by rw[length_append,h.len];rfl,(h.env.ext (θ':=[l'])).put hd ?_,S,w1,hfuse⟩
   simp only[V.con,hg',l']
  ·intro w2 hw2
   refine⟨l',hg',SlO.clip (hS w2 fun b hb=>hw2 b ?_)⟩
   show b∈locF _ σ.m
   rw[Qaj hg']
   exact hb
  ·intro b hb
   have hb':b∈F':=by
    have:b∈locF (θ++[l']) σ.m:=hb
    rwa [Qaj hg'] at this
   exact⟨.inl (hFt b (hF'.subset hb')),(hge b (by rw[hlF];exact hF'.subset hb')).2⟩
  ·show(locF _ σ.m).Nodup
   rw[Qaj hg']
   exact hnd.sublist hF'
end
end
section
section
variable {fn:Func} {Bz:Bs} {S1:Nat→Prop} {w1:World} {hk1:Keep Bz.S0 Bz.w w1} {hs1: ∀ b,Bz.S0 b→S1 b} {hd1: ∀ b,S1 b→b<w1.heap.size} {res:List Re} {σ:St} {k:List It} {all:Array Oper} {ty:TypeId} {pos:String} {after:Array Edge} {d:Nat}
theorem lf {α:Type} {dα:Dat α} [s:@Str α dα] [Inhabited α] {t r off:Nat} {x:Operand} {xs:List α} {fl:Fk α} {v:V} (j f:Nat) (hj:j<xs.length) (hx:ev σ.ρ x=some (.pt r off):=by exact Dq0) (hr:lkE σ.E r=some (.own α dα xs):=by exact Dq0) (hoff:off=j*Dat.sz α+f:=by rfl) (hf:s.fk[f]?=some fl:=by rfl) (hfl:fl.isFlat=true:=by rfl) (hv:fkV (nth xs j) fl=v:=by dsimp only[fkV]<;>rfl) (ht:Qlc Tryz.prog t=true:=by kernel_rfl) (hd:Nat.blt d σ.n=true:=by rfl):
  OpS (cx fn Bz S1 w1 hk1 hs1 hd1) σ all ⟨some d,.load t x,ty,pos,after,none⟩ (put d v σ):=hv▸OpS.ldF j f hj hx hoff hr hf hfl ht hd
theorem lw {α:Type} {dα:Dat α} [s:@Str α dα] [Inhabited α] {t r off:Nat} {x:Operand} {xs:List α} (j:Nat) (cs:Option Addr×Nat×Nat→List V) (hj:j<xs.length) (hx:ev σ.ρ x=some (.pt r off):=by exact Dq0) (hr:lkE σ.E r=some (.own α dα xs):=by exact Dq0) (hoff:off=j*Dat.sz α:=by rfl) (hcs:(fun u=>elV (nth xs j) u s.fk)=cs:=by rfl) (hs:slN s.fk=1:=by rfl) (ht:Qil Tryz.prog t (Dat.sz α)=true:=by kernel_rfl) (hd:Nat.blt d σ.n=true:=by rfl):
  OpSu (cx fn Bz S1 w1 hk1 hs1 hd1) σ all ⟨some d,.load t x,ty,pos,after,none⟩ (fun u=>put d (.ag (cs u)) σ):=by subst hcs;exact OpSu.ldW j hj hx hoff hr hs ht hd
theorem cOc {α:Type} {dα:Dat α} {t e by' r len:Nat} {x y z:Operand} {i i2:Int} {xs:List α} (hx:ev σ.ρ x=some (.sl r len):=by exact Dq0) (hy:ev σ.ρ y=some (.v (.int .i64 i)):=by exact Dq0) (hz:ev σ.ρ z=some (.v (.int .i64 i2)):=by exact Dq0) (hr:lkE σ.E r=some (.own α dα xs):=by exact Dq0) (hl:len=xs.length:=by rfl) (hi:i=xs.length:=by rfl) (hi2:i2=xs.length:=by rfl) (ht:ti t= .sl e (Dat.sz α) by':=by rfl) (hd:Nat.blt d σ.n=true:=by rfl):
  OpS (cx fn Bz S1 w1 hk1 hs1 hd1) σ all ⟨some d,.slice t x none (some y) (some z),ty,pos,after,none⟩ ⟨σ.n,σ.m+1,(d,.sl σ.m xs.length)::σ.ρ,(σ.m,.own α dα xs)::Qhd [r] σ.E⟩:=OpS.clipO hx hy hz hr hl hi hi2 ht hd
theorem ow {o:Oper} {r:List Oper} {cs:Option Addr×Nat×Nat→List V} (ho:OpSu (cx fn Bz S1 w1 hk1 hs1 hd1) σ all o (fun u=>put d (.ag (cs u)) σ)) (h: ∀ u:Option Addr×Nat×Nat,Run (cx fn Bz S1 w1 hk1 hs1 hd1) res (put d (.ag (cs u)) σ) (.ops r all::k)):Run (cx fn Bz S1 w1 hk1 hs1 hd1) res σ (.ops (o::r) all::k):=Run.opu ho h
end
end
section
theorem Ych:FnOk Tryz.prog 100:=⟨_,Tryz.func100,rfl,by kernel_rfl⟩
theorem Yla:FnOk Tryz.prog 101:=⟨_,Tryz.func101,rfl,by kernel_rfl⟩
theorem Q8n:FnOk Tryz.prog 107:=⟨_,Tryz.func107,rfl,by kernel_rfl⟩
theorem Yk9:FnOk Tryz.prog 108:=⟨_,Tryz.func108,rfl,by kernel_rfl⟩
def Qd2 (p0:Disk) (p1:Int):Nat→(List Slot)→Nat→Disk
 | 0,w3,i=>(Disk.mk w3 (Qd1 p0.Journal p1))
 | n+1,w3,i=>Qd2 p0 p1 n (bif (!((nth w3 i).Whole)) then(w3.set i (Slot.mk 0 [] false)) else w3) (i+1)
def Qar (p0:Disk) (p1:Int):Disk:=bif !(Qe2 p0) then(Qam p0) else(Qd2 p0 p1 (((Qam p0).Slots.length) - 0) ((Qam p0).Slots) 0)
theorem Qzg (p0:Disk) (p1:Int) (hs:Dat.small 1048576 p0):CTs 52 [.o (.st Disk _ inferInstance p0),.o (.c (.int .i64 p1))] [Re.st Disk _ inferInstance (Qar p0 p1)]:=by
 refine en Tryz.func52 Tryz.ntmps52 fun w hG hgd=>?_
 obtain⟨hg_p0,_⟩:=hgd
 have hM:=Qar.eq_1 p0 p1
 refine ad 8 ?_
 refine og (clg (Qi0 p0 (by first | assumption | exact hsmD)) Q8n) fun hgq=>?_
 obtain⟨hg1,_⟩:=hgq
 refine ad 7 ?_
 refine op (cl (Qlw p0) Yeb) ?_
 refine ad 2 ?_
 refine cd (fun h2=>?_) (fun h2=>?_)
 ·
  have hM:=hM.trans (bt h2)
  refine ad 5 ?_
  exact rz (rs:=[.cell 4 40]) (congrArg (fun x=>[Re.st Disk _ inferInstance x]) hM)
 ·
  have hM:=hM.trans (bf h2)
  have hL:(Qam p0).Slots.length≤9223372036854775807:=hg1.1.1
  refine ad 6 ?_
  have hg3:Dat.good (p0.Journal:Journal):=hg_p0.2
  refine og (clg (Qtu p0.Journal p1) Yk9) fun hgq=>?_
  obtain⟨hg4,_⟩:=hgq
  refine ad 12 ?_
  refine Run.loopM (ι:=(List Slot)×Nat) (fun s=>Qd2 p0 p1 (((Qam p0).Slots.length) - s.2) s.1 s.2) (fun s=>⟨37,3,[(4,.pt 0 0),(5,.pt 1 0),(20,.sl 2 s.1.length),(21,.v (.int .i64 ((Qam p0).Slots.length:Int))),(22,.v (.int .i64 (s.2:Int)))],[(0,.var [.v (.slice none 0 0),.v (.string ⟨#[]⟩),.v (.int .i64 0)] 40),(1,.var [.sl 2 s.1.length,.v (.string ((Qd1 p0.Journal p1).Text)),.v (.int .i64 ((Qd1 p0.Journal p1).Sure))] 40),(2,.own Slot instDatSlot s.1)]⟩) (fun s=>s.2≤(Qam p0).Slots.length∧s.1.length=((Qam p0).Slots).length) (fun s=>((Qam p0).Slots.length) - s.2) ((Qam p0).Slots,0) [2,4,3] [2,0,1] hM lv0 su (by decide) ?_
  rintro ⟨w3,i⟩ hv hE
  try dsimp only at hE
  obtain⟨hi,hv0⟩:=hv
  try dsimp only at hi hv0
  refine ad 5 ?_
  refine cd (fun h5=>?_) (fun h5=>?_)
  ·
   have h5l:i<(Qam p0).Slots.length:=dtl h5
   have hM:=hE.trans ((congrArg (fun n=>Qd2 p0 p1 n w3 i) (show((Qam p0).Slots.length) - i=(((Qam p0).Slots.length) - (i+1))+1 by omega)).trans (Qd2.eq_2 _ _ _ _ _))
   refine ad 6 ?_
   refine op (oi (xs:=w3) i om) ?_
   refine ow (lw (xs:=w3) i (fun u6=>[.v (.int .i64 ((nth w3 i).Seq)),.v (.slice u6.1 u6.2.1 u6.2.2),.v (.bool ((nth w3 i).Whole))]) om) fun u6=>?_
   refine ad 10 ?_
   refine Run.mid ⟨37,3,[(4,.pt 0 0),(5,.pt 1 0),(20,.sl 2 ((bif (!((nth w3 i).Whole)) then(w3.set i (Slot.mk 0 [] false)) else w3).length)),(21,.v (.int .i64 ((Qam p0).Slots.length:Int))),(22,.v (.int .i64 (i:Int)))],[(0,.var [.v (.slice none 0 0),.v (.string ⟨#[]⟩),.v (.int .i64 0)] 40),(1,.var [.sl 2 ((bif (!((nth w3 i).Whole)) then(w3.set i (Slot.mk 0 [] false)) else w3).length),.v (.string ((Qd1 p0.Journal p1).Text)),.v (.int .i64 ((Qd1 p0.Journal p1).Sure))] 40),(2,.own Slot instDatSlot (bif (!((nth w3 i).Whole)) then(w3.set i (Slot.mk 0 [] false)) else w3))]⟩ ?_ ?_
   ·refine cd (fun h7=>?_) (fun h7=>?_)
    ·
     refine ad 5 ?_
     refine op (oi (xs:=w3) i om) ?_
     refine op (se (xs:=w3) i (Slot.mk 0 [] false) ⟨(gi 0),gnil,trivial⟩ om) ?_
     refine ad 1 ?_
     exact Run.at [0,1,4] [2,3,0] (by first | exact su | (rw[h7];exact su)) (by decide)
    ·
     refine ad 1 ?_
     exact Run.at [0,1,2] [1,2,3] (by first | exact su | (rw[h7];exact su)) (by decide)
   refine ad 3 ?_
   rw[Qb3 (i:=i) om]
   refine ad 2 ?_
   exact Run.again (bif (!((nth w3 i).Whole)) then(w3.set i (Slot.mk 0 [] false)) else w3,(i+1)) [0,1,2] [0,1,2] ⟨by exact⟨by(try dsimp only);omega,by(try dsimp only);cases(!((nth w3 i).Whole))<;>simp only[cond_true,cond_false,length_set]<;>omega⟩,hM⟩ rfl lv1 su (by decide)
  ·
   have h5l: ¬ (i<(Qam p0).Slots.length):=dfl h5
   have hM:=hE.trans ((congrArg (fun n=>Qd2 p0 p1 n w3 i) (show((Qam p0).Slots.length) - i=0 by omega)).trans (Qd2.eq_1 _ _ _ _))
   refine ad 6 ?_
   refine gd 2 fun hg8=>?_
   have hg9:Dat.good (Disk.mk w3 (Qd1 p0.Journal p1):Disk):=⟨hg8,hg4⟩
   exact rz (rs:=[.cell 4 40]) (congrArg (fun x=>[Re.st Disk _ inferInstance x]) hM)
def Qc5 (p0:Disk) (p1:Int):Nat→(List Slot)→Nat→Disk
 | 0,w3,i=>(Disk.mk w3 (Qc4 ((Qah p0).Journal) p1))
 | n+1,w3,i=>Qc5 p0 p1 n (bif (!((nth w3 i).Whole)) then(w3.set i (Slot.mk 0 [] false)) else w3) (i+1)
def Qao (p0:Disk) (p1:Int):Disk:=bif !(Qdv (Qah p0)) then(Qah p0) else(Qc5 p0 p1 ((((Qah p0).Slots).length) - 0) ((Qah p0).Slots) 0)
theorem Qy2 (p0:Disk) (p1:Int) (hs:Dat.small 1048576 p0):CTs 50 [.o (.st Disk _ inferInstance p0),.o (.c (.int .i64 p1))] [Re.st Disk _ inferInstance (Qao p0 p1)]:=by
 refine en Tryz.func50 Tryz.ntmps50 fun w hG hgd=>?_
 obtain⟨hg_p0,_⟩:=hgd
 have hM:=Qao.eq_1 p0 p1
 refine ad 8 ?_
 refine og (clg (Qnj p0 (by first | assumption | exact hsmD)) Ych) fun hgq=>?_
 obtain⟨hg1,_⟩:=hgq
 refine ad 6 ?_
 refine op (cl (Qlu (Qah p0)) Yed) ?_
 refine ad 2 ?_
 refine cd (fun h2=>?_) (fun h2=>?_)
 ·
  have hM:=hM.trans (bt h2)
  refine ad 5 ?_
  exact rz (rs:=[.cell 4 40]) (congrArg (fun x=>[Re.st Disk _ inferInstance x]) hM)
 ·
  have hM:=hM.trans (bf h2)
  have hL:(Qah p0).Slots.length≤9223372036854775807:=hg1.1.1
  refine ad 6 ?_
  have hg3:Dat.good ((Qah p0).Journal:Journal):=hg1.2
  refine og (clg (Qtk ((Qah p0).Journal) p1) Yla) fun hgq=>?_
  obtain⟨hg4,_⟩:=hgq
  refine ad 9 ?_
  refine Run.loopM (ι:=(List Slot)×Nat) (fun s=>Qc5 p0 p1 ((((Qah p0).Slots).length) - s.2) s.1 s.2) (fun s=>⟨37,3,[(2,.pt 0 0),(4,.pt 2 0),(5,.v (.int .i64 (s.2:Int)))],[(0,.var [.sl 1 s.1.length,.v (.string ((Qc4 ((Qah p0).Journal) p1).Text)),.v (.int .i64 ((Qc4 ((Qah p0).Journal) p1).Sure))] 40),(1,.own Slot instDatSlot s.1),(2,.var [.v (.slice none 0 0),.v (.string ⟨#[]⟩),.v (.int .i64 0)] 40)]⟩) (fun s=>s.2≤((Qah p0).Slots).length∧s.1.length=((Qah p0).Slots).length) (fun s=>(((Qah p0).Slots).length) - s.2) ((Qah p0).Slots,0) [1,3,2] [2,0,1] hM lv0 su (by decide) ?_
  rintro ⟨w3,i⟩ hv hE
  try dsimp only at hE
  obtain⟨hi,hv0⟩:=hv
  try dsimp only at hi hv0
  refine ad 9 ?_
  refine cd (fun h5=>?_) (fun h5=>?_)
  ·
   have h5l:i<((Qah p0).Slots).length:=dtl h5
   have hM:=hE.trans ((congrArg (fun n=>Qc5 p0 p1 n w3 i) (show(((Qah p0).Slots).length) - i=((((Qah p0).Slots).length) - (i+1))+1 by omega)).trans (Qc5.eq_2 _ _ _ _ _))
   refine ad 8 ?_
   refine op (oi (xs:=w3) i om) ?_
   refine ad 1 ?_
   refine op (lf (xs:=w3) i 2 om) ?_
   refine ad 2 ?_
   refine Run.mid ⟨37,3,[(2,.pt 0 0),(4,.pt 2 0),(5,.v (.int .i64 (i:Int)))],[(0,.var [.sl 1 ((bif (!((nth w3 i).Whole)) then(w3.set i (Slot.mk 0 [] false)) else w3).length),.v (.string ((Qc4 ((Qah p0).Journal) p1).Text)),.v (.int .i64 ((Qc4 ((Qah p0).Journal) p1).Sure))] 40),(1,.own Slot instDatSlot (bif (!((nth w3 i).Whole)) then(w3.set i (Slot.mk 0 [] false)) else w3)),(2,.var [.v (.slice none 0 0),.v (.string ⟨#[]⟩),.v (.int .i64 0)] 40)]⟩ ?_ ?_
   ·refine cd (fun h6=>?_) (fun h6=>?_)
    ·
     refine ad 5 ?_
     refine op (oi (xs:=w3) i om) ?_
     refine op (se (xs:=w3) i (Slot.mk 0 [] false) ⟨(gi 0),gnil,trivial⟩ om) ?_
     refine ad 1 ?_
     exact Run.at [0,3,2] [1,0,2] (by first | exact su | (rw[h6];exact su)) (by decide)
    ·
     refine ad 1 ?_
     exact Run.at [0,1,2] [0,1,2] (by first | exact su | (rw[h6];exact su)) (by decide)
   refine ad 4 ?_
   rw[Qb3 (i:=i) om]
   refine ad 2 ?_
   exact Run.again (bif (!((nth w3 i).Whole)) then(w3.set i (Slot.mk 0 [] false)) else w3,(i+1)) [0,1,2] [0,1,2] ⟨by exact⟨by(try dsimp only);omega,by(try dsimp only);cases(!((nth w3 i).Whole))<;>simp only[cond_true,cond_false,length_set]<;>omega⟩,hM⟩ rfl lv1 su (by decide)
  ·
   have h5l: ¬ (i<((Qah p0).Slots).length):=dfl h5
   have hM:=hE.trans ((congrArg (fun n=>Qc5 p0 p1 n w3 i) (show(((Qah p0).Slots).length) - i=0 by omega)).trans (Qc5.eq_1 _ _ _ _))
   refine ad 6 ?_
   refine gd 1 fun hg7=>?_
   have hg8:Dat.good (Disk.mk w3 (Qc4 ((Qah p0).Journal) p1):Disk):=⟨hg7,hg4⟩
   exact rz (rs:=[.cell 4 40]) (congrArg (fun x=>[Re.st Disk _ inferInstance x]) hM)
end
section
def insG (f:Cell→Bool) (x:Cell):List Cell→List Cell
 | []=>[x]
 | e::r=>bif f e then x::e::r else e::insG f x r
theorem Q5z (f:Cell→Bool) (x:Cell): ∀ l:List Cell,(∀ j,j<l.length→f (nth l j)=false)→insG f x l=l++[x]
 | [],_=>rfl
 | e :: r, h => by
  rw[insG,show f e=false from h 0 (by simp),cond_false,Q5z f x r fun j hj=>h (j+1) (by simpa using hj)]
  rfl
theorem Ybz (f:Cell→Bool) (x:Cell): ∀ (l:List Cell) (m:Nat),m<l.length→f (nth l m)=true→(∀ j,j<m→f (nth l j)=false)→insG f x l=insL l m x
 | [],m,h,_,_=>by simp at h
 | e :: r, 0, _, h, _ => by
  rw[insG,show f e=true from h,cond_true]
  rfl
 | e :: r, m + 1, h, h1, h2 => by
  rw[insG,show f e=false from h2 0 (by omega),cond_false,Ybz f x r m (by simpa using h) h1 fun j hj=>h2 (j+1) (by omega)]
  rfl
theorem Yd6 (f:Cell→Bool) (x:Cell) (l:List Cell):insG f x l=insL l (bif decide (idxL f l (l.length - 0) 0<0) then(l.length:Int) else idxL f l (l.length - 0) 0).toNat x:=by
 rcases Q52 (f:=f) (xs:=l) (l.length - 0) 0 (by omega) with ⟨h1,h2⟩ | ⟨m,_,h2,h3,h4,h5⟩
 ·rw[h1,decide_eq_true (by decide),cond_true,Int.toNat_natCast,Q5z f x l fun j hj=>h2 j (Nat.zero_le _) hj]
  unfold insL
  rw[List.take_length,List.drop_length]
 ·rw[h3,decide_eq_false (by omega),cond_false,Int.toNat_natCast,Ybz f x l m h2 h4 fun j hj=>h5 j (Nat.zero_le _) hj]
theorem Qzr (p0:List Cell) (k v:ByteArray): ∀ n i acc,i+n=p0.length→Qb4 p0 k v n acc true i=acc++(p0.drop i).filter (fun c=>!Qb0 c k):=by
 intro n
 induction n with
 | zero =>
  intro i acc hi
  rw[Qb4,List.drop_eq_nil_of_le (by omega),List.filter_nil,append_nil]
  rfl
 | succ n ih =>
  intro i acc hi
  have hlt:i<p0.length:=by omega
  rw[Qb4]
  simp only[Bool.not_true,Bool.false_and,cond_false,Bool.or_true]
  rw[ih (i+1) _ (by omega),List.drop_eq_getElem_cons hlt,show p0[i]=nth p0 i by have:=Qgd hlt;rw[getElem?_eq_getElem hlt] at this;exact Option.some.inj this]
  unfold Qb0
  cases hk:decide ((nth p0 i).Key=k) with
  | true=>rw[List.filter_cons_of_neg (by simpa using hk)];rfl
  | false=>rw[List.filter_cons_of_pos (by simpa using hk)];simp
theorem Q6n (p0:List Cell) (k v:ByteArray): ∀ n i acc,i+n=p0.length→Qb4 p0 k v n acc false i=acc++insG (fun c=>Qjp c k) ⟨k,v⟩ ((p0.drop i).filter (fun c=>!Qb0 c k)):=by
 intro n
 induction n with
 | zero =>
  intro i acc hi
  rw[Qb4,List.drop_eq_nil_of_le (by omega)]
  rfl
 | succ n ih =>
  intro i acc hi
  have hlt:i<p0.length:=by omega
  rw[Qb4,List.drop_eq_getElem_cons hlt,show p0[i]=nth p0 i by have:=Qgd hlt;rw[getElem?_eq_getElem hlt] at this;exact Option.some.inj this]
  simp only[Bool.not_false,Bool.true_and,Bool.or_false]
  cases hk:decide ((nth p0 i).Key=k) with
  | true =>
   simp only[Bool.or_true,Bool.not_true,cond_false]
   rw[ih (i+1) _ (by omega),List.filter_cons_of_neg (by unfold Qb0;simpa using hk)]
  | false =>
   rw[List.filter_cons_of_pos (by unfold Qb0;simpa using hk)]
   simp only[Bool.or_false,Bool.not_false,cond_true]
   have hf:Qjp (nth p0 i) k=!(ltB (nth p0 i).Key k):=by
    unfold Qjp
    rw[hk,Bool.or_false]
   rw[insG,hf]
   cases ltB (nth p0 i).Key k with
   | true =>
    simp only[Bool.not_true,cond_false]
    rw[ih (i+1) _ (by omega)]
    simp
   | false =>
    simp only[Bool.not_false,cond_true]
    rw[Qzr p0 k v n (i+1) _ (by omega)]
    simp
theorem Ydt (p0:List Cell) (k v:ByteArray) (hb:p0.length≤9223372036854775806):Qlr p0 k v=Qhs p0 k v:=by
 unfold Qlr Qhs
 rw[Qu0]
 cases((!(Qip k))||(decide ((v.size:Int)>60))) with
 | true=>rfl
 | false =>
  rw[cond_false,cond_false]
  cases hv:decide (v=⟨#[]⟩) with
  | true =>
   rw[cond_true,Qoy p0 k hb,Qzr p0 k v _ 0 [] (by omega)]
   rfl
  | false =>
   rw[cond_false,Q6n p0 k v _ 0 [] (by omega),Qoy p0 k hb]
   unfold Qbi
   rw[Yly,List.drop_zero,nil_append,Yd6]
   rfl
theorem Q08 (p0 p1:List Cell): ∀ n i (v:List Cell),v.length+n≤9223372036854775806→Qbe p0 p1 n v i=Qbe [] p1 n v i:=by
 intro n
 induction n with
 | zero=>intro i v _;rfl
 | succ n ih =>
  intro i v h
  rw[Qbe,Qbe]
  have:=Qjy v ((nth p1 i).Key) ((nth p1 i).Val)
  exact ih _ _ (by omega)
theorem Qlz (a b:ByteArray):Qa7 (a++b)=Qa7 a++Qa7 b:=by
 unfold Qa7
 rw[ByteArray.data_append,Array.toList_append]
theorem Qx4 (l:List UInt8):Qa7 (bstr l)=l:=by
 unfold Qa7 bstr
 exact List.toList_toArray
theorem Q85 (p0:ByteArray):(Qep p0).1=Qgu p0:=by
 by_cases h:p0.size≤20000
 ·rw[Qrr h]
  unfold Qgu Qm6
  rw[decide_eq_false (by omega)]
  rfl
 ·unfold Qgu Qm6 Qep
  rw[decide_eq_true (by omega)]
  rfl
theorem Qtv (p0:Int) (p1:List Cell): ∀ n v i,Qdb p0 p1 n v i=Qbr p0 p1 n v i:=by
 intro n
 induction n with
 | zero =>
  intro v i
  have hs:=Qmn (bstr v)
  rw[Qdb,Qbr,Qpr,Qlf (by unfold I64;omega)]
 | succ n ih =>
  intro v i
  rw[Qdb,Qbr,ih,Qu0,Q85,Q85,Qlz,Qlz,Qlz]
  simp only[append_assoc]
  rfl
theorem Qzo (p0:Int) (p1:List Cell):Qhn p0 p1=Qcb p0 p1:=by
 unfold Qhn Qcb
 rw[Qph]
 cases h:Qcm p0 1 100000 with
 | false=>rfl
 | true =>
  have:=Qg5 h
  rw[Qtv,Qlf (by unfold I64;omega)]
theorem Qxz {c:UInt8} {x:List UInt8} (h: ∀ y∈x,y≠c):Qb2 c (bstr x)=[bstr x]:=Qoj (by rw[Qkq];exact Q29 _ h)
theorem Qt0 {c:UInt8} {x y:List UInt8} (h: ∀ b∈x,b≠c):Qb2 c (bstr (x++c::y))=bstr x::Qb2 c (bstr y):=by
 have hx:Lib.indexB (bstr (x++c::y)) ⟨#[c]⟩=(x.length:Int):=by
  rw[Qkq]
  refine Yd9 x.length (x++c::y) (fun j hj e=>?_) (by simp)
  rw[List.getElem?_append_left hj] at e
  exact h c (mem_of_getElem? e) rfl
 rw[Qqi hx]
 congr 1
 ·apply ByteArray.ext
  apply Array.toList_inj.1
  rw[Lib.extract_from_zero]
  show(x++c::y).take x.length=x
  exact List.take_left
 ·congr 1
  apply ByteArray.ext
  apply Array.toList_inj.1
  rw[Lib.extract_to_end]
  show(x++c::y).drop (x.length+1)=y
  rw[List.drop_append,List.drop_eq_nil_of_le (by omega),show x.length+1 - x.length=1 by omega]
  rfl
theorem Q8v: ∀ k:Fin 16,Lib.Hx.digit k.val≠32∧Lib.Hx.digit k.val≠61:=by decide
theorem Q57: ∀ (l:List UInt8),∀ y∈Lib.Hx.encode l,y≠32∧y≠61
 | [],y,h=>by cases h
 | b :: l, y, h => by
  rw[Lib.Hx.encode_cons] at h
  have hb:=b.toNat_lt
  rcases List.mem_cons.1 h with rfl | h
  ·exact Q8v ⟨b.toNat / 16,by omega⟩
  ·rcases List.mem_cons.1 h with rfl | h
   ·exact Q8v ⟨b.toNat % 16,by omega⟩
   ·exact Q57 l y h
theorem Q8k (s:ByteArray): ∀ y∈Qa7 (Qep s).1,y≠32∧y≠61:=by
 by_cases h:s.size≤20000
 ·rw[Qrr h,Qol]
  exact Q57 _
 ·unfold Qep
  rw[decide_eq_true (by omega)]
  intro y hy
  cases hy
theorem Qwg (u:Nat): ∀ y∈Lib.decDigits u,y≠32:=by
 induction u using Nat.strongRecOn with
 | ind u ih =>
  intro y hy
  have key : ∀ k, k < 10 → (UInt8.ofNat (48 + k)) ≠ 32 := fun k hk e => by
   have:=congrArg UInt8.toNat e
   simp at this
   omega
  rw[Lib.decDigits] at hy
  split at hy
  ·rw[mem_singleton.1 hy]
   exact key u (by assumption)
  ·rcases List.mem_append.1 hy with hy | hy
   ·exact ih (u / 10) (by omega) y hy
   ·rw[mem_singleton.1 hy]
    exact key (u % 10) (by omega)
theorem Yf5 {n:Int} (h:I64 n): ∀ y∈Qa7 (Qb5 n),y≠32:=by
 rw[Qlf h]
 show ∀ y∈((Lib.itoa n).toArray).toList,y≠32
 rw[List.toList_toArray]
 unfold Lib.itoa
 split
 ·intro y hy
  rcases List.mem_cons.1 hy with rfl | hy
  ·decide
  ·exact Qwg _ y hy
 ·exact Qwg _
def Q24 (c:Cell):List UInt8:=Qa7 (Qep c.Key).1++61::Qa7 (Qep c.Val).1
def Qz7 (c:Cell):List UInt8:=32::Q24 c
theorem Ydu (c:Cell): ∀ y∈Q24 c,y≠32:=by
 intro y hy
 rcases List.mem_append.1 hy with hy | hy
 ·exact(Q8k _ y hy).1
 ·rcases List.mem_cons.1 hy with rfl | hy
  ·decide
  ·exact(Q8k _ y hy).1
theorem Ybn (c:Cell):(Qb2 61 (bstr (Q24 c))).length=2:=by
 unfold Q24
 rw[Qt0 fun y hy=>(Q8k _ y hy).2,Qxz fun y hy=>(Q8k _ y hy).2]
 rfl
theorem Qxy {e:List UInt8} (he: ∀ y∈e,y≠32): ∀ (cells:List Cell) (d:List UInt8),(∀ y∈d,y≠32)→Qb2 32 (bstr (d++(cells.flatMap Qz7++32::e)))=bstr d::(cells.map (fun c=>bstr (Q24 c))++[bstr e])
 | [], d, hd => by
  show Qb2 32 (bstr (d++32::e))=_
  rw[Qt0 hd,Qxz he]
  rfl
 | c :: r, d, hd => by
  rw[flatMap_cons]
  show Qb2 32 (bstr (d++(32::Q24 c++r.flatMap Qz7++32::e)))=_
  rw[append_assoc,List.cons_append,Qt0 hd,Qxy he r (Q24 c) (Ydu c)]
  rfl
def finT (w:List UInt8):ByteArray:=((bstr w++⟨#[32,35]⟩)++Qb5 (Qc0 (bstr w)))++⟨#[10]⟩
theorem Yeu (p0:Int) (p1:List Cell): ∀ n i v,i+n=p1.length→Qbr p0 p1 n v i=⟨#[]⟩∨Qbr p0 p1 n v i=finT (v++(p1.drop i).flatMap Qz7):=by
 intro n
 induction n with
 | zero =>
  intro i v hi
  rw[Qbr,List.drop_eq_nil_of_le (by omega)]
  show(bif _ then _ else finT v)=_∨(bif _ then _ else finT v)=finT (v++[])
  rw[append_nil]
  generalize decide (_>(4000:Int))=q
  cases q
  ·exact .inr rfl
  ·exact .inl rfl
 | succ n ih =>
  intro i v hi
  have hlt:i<p1.length:=by omega
  rw[Qbr]
  generalize (((!_)||_)||_)=q
  cases q with
  | true=>exact .inl rfl
  | false =>
   rw[cond_false]
   have hx:p1[i]=nth p1 i:=by have:=Qgd hlt;rw[List.getElem?_eq_getElem hlt] at this;exact Option.some.inj this
   have:=ih (i+1) ((((v++([(32:UInt8)]:List UInt8))++Qa7 ((Qep ((nth p1 i).Key)).1))++([(61:UInt8)]:List UInt8))++Qa7 ((Qep ((nth p1 i).Val)).1)) (by omega)
   rw[List.drop_eq_getElem_cons hlt,hx,flatMap_cons]
   have e:v++(Qz7 (nth p1 i)++(p1.drop (i+1)).flatMap Qz7)=((((v++([(32:UInt8)]:List UInt8))++Qa7 ((Qep ((nth p1 i).Key)).1))++([(61:UInt8)]:List UInt8))++Qa7 ((Qep ((nth p1 i).Val)).1))++(p1.drop (i+1)).flatMap Qz7:=by
    unfold Qz7 Q24
    simp
   rw[e]
   exact this
theorem Yn8 {p0:Int} {p1:List Cell} (h:Qcb p0 p1≠⟨#[]⟩): ∃ d e:List UInt8,(∀ y∈d,y≠32)∧(∀ y∈e,y≠32)∧Qcb p0 p1=bstr (d++(p1.flatMap Qz7++32::e)):=by
 unfold Qcb at h ⊢
 cases hw:Qcm p0 1 100000 with
 | false=>rw[hw] at h;exact absurd rfl h
 | true =>
  rw[hw] at h
  have hp:=Qg5 hw
  rw[Bool.not_true,cond_false] at h ⊢
  rcases Yeu p0 p1 (p1.length - 0) 0 (Qa7 (Qb5 p0)) (by omega) with e | e
  ·exact absurd e h
  ·have hs:=Qj0 (bstr (Qa7 (Qb5 p0)++(p1.drop 0).flatMap Qz7))
   refine⟨Qa7 (Qb5 p0),35::(Qa7 (Qb5 (Qc0 (bstr (Qa7 (Qb5 p0)++(p1.drop 0).flatMap Qz7))))++[10]),Yf5 (by unfold I64;omega),fun y hy=>?_,?_⟩
   ·rcases List.mem_cons.1 hy with rfl | hy
    ·decide
    ·rcases List.mem_append.1 hy with hy | hy
     ·exact Yf5 (by unfold I64;omega) y hy
     ·rw[mem_singleton.1 hy];decide
   ·rw[e]
    unfold finT
    apply ByteArray.ext
    apply Array.toList_inj.1
    show Qa7 _=Qa7 _
    rw[Qlz,Qlz,Qlz,Qx4,Qx4]
    show _++[32,35]++_++[10]=_
    simp
theorem Ygx (a e:ByteArray) (m:List ByteArray) (i:Nat) (h1:1≤i) (h2:i<m.length+1):nth (a::(m++[e])) i∈m:=by
 obtain⟨k,rfl⟩: ∃ k,i=k+1:=⟨i - 1,by omega⟩
 have hk:k<m.length:=by omega
 have:nth (a::(m++[e])) (k+1)=m[k]:=by
  unfold nth
  rw[List.getD_eq_getElem?_getD,List.getElem?_cons_succ,List.getElem?_append_left hk,getElem?_eq_getElem hk]
  rfl
 rw[this]
 exact List.getElem_mem hk
theorem Yet {p0:Int} {p1:List Cell} {s:ByteArray} (h:Qcb p0 p1=s) (hs:s≠⟨#[]⟩) (i:Nat) (h1:1≤i) (h2:i+1<(Qb2 32 s).length):(Qb2 61 (nth (Qb2 32 s) i)).length=2:=by
 obtain⟨d,e,hd,he,hT⟩:=Yn8 (p0:=p0) (p1:=p1) (by rw[h];exact hs)
 rw[h] at hT
 have hsp:=Qxy he p1 d hd
 rw[←hT] at hsp
 rw[hsp] at h2 ⊢
 have hm:=Ygx (bstr d) (bstr e) (p1.map fun c=>bstr (Q24 c)) i h1 (by simp at h2 ⊢;omega)
 obtain⟨c,_,hc⟩:=List.mem_map.1 hm
 rw[←hc]
 exact Ybn c
theorem Yhf {x:ByteArray} (hx:x.size≤1048576) (h:(Qb2 61 x).length=2):(Qcq x ⟨#[61]⟩).1=nth (Qb2 61 x) 0∧(Qcq x ⟨#[61]⟩).2.1=nth (Qb2 61 x) 1:=by
 have hi:Lib.indexB x ⟨#[61]⟩=idx1 x ⟨#[61]⟩:=Qkq 61 x
 rcases Lib.indexB_cases x ⟨#[61]⟩ with h1 | ⟨i,h1,_⟩
 ·rw[Qoj h1] at h
  cases h
 ·have hr:=Qqi h1
  rw[hr] at h ⊢
  have h2:(Qb2 61 (x.extract (i+1) x.size)).length=1:=by simpa using h
  have h3:Qb2 61 (x.extract (i+1) x.size)=[x.extract (i+1) x.size]:=by
   rcases Lib.indexB_cases (x.extract (i+1) x.size) ⟨#[61]⟩ with h4 | ⟨j,h4,_⟩
   ·exact Qoj h4
   ·have h5:=Qqi h4
    rw[h5,length_cons,Qlx] at h2
    omega
  rw[h3]
  have hin:=Yb1 x ⟨#[61]⟩
  rw[←hi,h1] at hin
  unfold Qcq Qbz
  rw[←hi,h1,decide_eq_true (show(i:Int)≥0 by omega),IntWalk.i64_in _ (by show -9223372036854775808≤(i:Int)+((1:Nat):Int)∧(i:Int)+((1:Nat):Int)≤9223372036854775807;omega)]
  exact⟨rfl,rfl⟩
def Ymq (x:ByteArray):Cell:=Cell.mk (Qed (Qcq x ⟨#[61]⟩).1).1 (Qed (Qcq x ⟨#[61]⟩).2.1).1
def accR (P:List ByteArray):Nat→List Cell→Nat→List Cell
 | 0,v,_=>v
 | n+1,v,i=>accR P n (v++[Ymq (nth P (i+1))]) (i+1)
def Yhe (s:ByteArray) (w:List Cell):Int×(List Cell)×Bool:=bif (decide (s=⟨#[]⟩))||(!decide ((Qhn ((Qct (nth (Qb2 32 s) 0)).1) w)=s)) then(0,[],false) else((Qct (nth (Qb2 32 s) 0)).1,w,true)
def Ycj (s:ByteArray) (w:List Cell):Int×(List Cell)×Bool:=bif ((!((Qa5 (nth (Qb2 32 s) 0)).2))||(decide ((Qcb ((Qa5 (nth (Qb2 32 s) 0)).1) w)=⟨#[]⟩)))||(!decide ((Qcb ((Qa5 (nth (Qb2 32 s) 0)).1) w)=s)) then(0,([]:List Cell),false) else((Qa5 (nth (Qb2 32 s) 0)).1,w,true)
theorem Ygy {xs:List ByteArray} {u i:Nat} (h:i+1<u):nth (cutL xs 1 u) i=nth xs (i+1):=by
 unfold nth cutL
 rw[List.getD_eq_getElem?_getD,List.getD_eq_getElem?_getD,getElem?_drop,List.getElem?_take,if_pos (by omega),Nat.add_comm 1 i]
theorem Q28 (s:ByteArray) (u:Nat) (hu:(i64.wrap ((max ((Qad s ⟨#[32]⟩).length:Int) 2) - 1)).toNat=u): ∀ n i v,i+n+1≤u→Qca s n v i=Yhe s (accR (Qb2 32 s) n v i):=by
 intro n
 induction n with
 | zero=>intro i v _;rfl
 | succ n ih =>
  intro i v h
  rw[Qca,ih (i+1) _ (by omega),hu,Ygy (by omega)]
  rfl
theorem Q2z (s:ByteArray) (hs:s.size≤4000): ∀ n i v,(∀ j,i≤j→j<i+n→(Qb2 61 (nth (Qb2 32 s) (j+1))).length=2)→Qbm s n v (i+1)=Ycj s (accR (Qb2 32 s) n v i):=by
 intro n
 induction n with
 | zero=>intro i v _;rw[Qbm,Qk9];rfl
 | succ n ih =>
  intro i v h
  have h2:=h i (Nat.le_refl _) (by omega)
  have hsz:=Qro 32 s (i+1)
  have hc:=Yhf (by omega) h2
  rw[Qbm,Qk9,Qk9,h2]
  have hl:(!decide (((2:Nat):Int)=2))=false:=rfl
  rw[hl,cond_false,ih (i+1) _ fun j a b=>h j (by omega) (by omega),←Q2s,←Q2s,←hc.1,←hc.2]
  rfl
theorem Qzw (s:ByteArray): ∀ n i v,(∃ j,i≤j∧j<i+n∧(Qb2 61 (nth (Qb2 32 s) (j+1))).length≠2)→Qbm s n v (i+1)=(0,([]:List Cell),false):=by
 intro n
 induction n with
 | zero=>rintro i v ⟨j,a,b,_⟩;omega
 | succ n ih =>
  rintro i v ⟨j,a,b,hne⟩
  rw[Qbm]
  cases hq:!decide (((Qag (nth (Qag s (32:UInt8)) (i+1)) (61:UInt8)).length:Int)=2) with
  | true=>rfl
  | false =>
   rw[cond_false]
   refine ih (i+1) _ ⟨j,?_,by omega,hne⟩
   rcases Nat.lt_or_ge i j with hij | hij
   ·exact hij
   ·obtain rfl : j = i := by omega
    rw[Qk9,Qk9] at hq
    have:(((Qb2 61 (nth (Qb2 32 s) (j+1))).length:Nat):Int)=2:=by simpa using hq
    omega
theorem Qzq (x:ByteArray) (h:(Qa5 x).2=false):(Qa5 x).1=0:=by
 rw[←Qpc] at h ⊢
 unfold Qct at h ⊢
 revert h
 generalize (((!_)||_)||_)=q
 cases q
 ·intro h;cases h
 ·exact fun _=>rfl
theorem Yhl (w:List Cell):Qcb 0 w=⟨#[]⟩:=rfl
theorem Yhd (s:ByteArray) (w:List Cell):Yhe s w=Ycj s w:=by
 unfold Yhe Ycj
 rw[Qzo,Qpc]
 by_cases hT:Qcb ((Qa5 (nth (Qb2 32 s) 0)).1) w=s
 ·rw[decide_eq_true hT,Bool.not_true,Bool.or_false,Bool.or_false,hT]
  cases hok:(Qa5 (nth (Qb2 32 s) 0)).2 with
  | true=>rfl
  | false =>
   have h0:=Qzq _ hok
   rw[h0,Yhl] at hT
   rw[←hT]
   rfl
 ·rw[decide_eq_false hT,Bool.not_false,Bool.or_true,Bool.or_true]
theorem Yah {s:ByteArray} {w:List Cell} (h: ∃ j,j+2<(Qb2 32 s).length∧(Qb2 61 (nth (Qb2 32 s) (j+1))).length≠2):Ycj s w=(0,([]:List Cell),false):=by
 unfold Ycj
 by_cases hT:Qcb ((Qa5 (nth (Qb2 32 s) 0)).1) w=s
 ·by_cases hs:s=⟨#[]⟩
  ·rw[decide_eq_true (hT.trans hs),Bool.or_true,Bool.true_or]
   rfl
  ·obtain⟨j,hj,hne⟩:=h
   exact absurd (Yet hT hs (j+1) (by omega) (by omega)) hne
 ·rw[decide_eq_false hT,Bool.not_false,Bool.or_true]
  rfl
theorem Qzp (s:ByteArray):Qaw s=Qa8 s:=by
 unfold Qaw Qa8
 cases h1:decide ((s.size:Int)>4000) with
 | true=>rfl
 | false =>
  have hz:s.size≤4000:=by have:=of_decide_eq_false h1;omega
  have hl:=Qsf 32 s
  have hl1:1≤(Qb2 32 s).length:=by rw[Qlx];omega
  rw[cond_false,cond_false,Qk9]
  have hu:(i64.wrap ((max ((Qad s ⟨#[32]⟩).length:Int) 2) - 1)).toNat=max (Qb2 32 s).length 2 - 1:=by
   rw[Qrn,IntWalk.i64_in _ (by omega)]
   omega
  rw[hu,Q59 (by omega) (by rw[Qrn];omega),IntWalk.i64_in _ (by omega)]
  have hn:(((Qb2 32 s).length:Int) - 1).toNat - 1=max (Qb2 32 s).length 2 - 1 - 1 - 0:=by omega
  rw[hn,Q28 s _ hu _ 0 [] (by omega),Yhd]
  by_cases hall: ∀ j,0≤j→j<0+(max (Qb2 32 s).length 2 - 1 - 1 - 0)→(Qb2 61 (nth (Qb2 32 s) (j+1))).length=2
  ·exact(Q2z s hz _ 0 [] hall).symm
  ·have hex: ∃ j,0≤j∧j<0+(max (Qb2 32 s).length 2 - 1 - 1 - 0)∧(Qb2 61 (nth (Qb2 32 s) (j+1))).length≠2:=by
    apply Classical.byContradiction
    intro hno
    exact hall fun j a b=>Classical.byContradiction fun e=>hno ⟨j,a,b,e⟩
   rw[Qzw s _ 0 [] hex]
   obtain⟨j,_,hj,hne⟩:=hex
   exact Yah ⟨j,by omega,hne⟩
theorem Ybj {L sq f W:Int} (hL:0≤L) (hW:L=0→W=f):((!((decide (L=0))&&(decide (sq<f))))&&(!decide (sq=W)))=((!decide (sq=W))&&((decide (L>0))||(decide (sq>f)))):=by
 by_cases h:sq=W
 ·rw[decide_eq_true h]
  simp
 ·rw[decide_eq_false h,Bool.not_false,Bool.and_true,Bool.true_and]
  by_cases h0:L=0
  ·have:=hW h0
   rw[decide_eq_true h0,Bool.true_and,decide_eq_false (show ¬ L>0 by omega),Bool.false_or]
   by_cases h1:sq<f
   ·rw[decide_eq_true h1,decide_eq_false (by omega)]
    rfl
   ·rw[decide_eq_false h1,decide_eq_true (by omega)]
    rfl
  ·rw[decide_eq_false h0,Bool.false_and,decide_eq_true (show L>0 by omega)]
   rfl
theorem Yds {L sq f W:Int} (hL:0≤L) (hW:L=0→W=f) (h:((!decide (sq=W))&&((decide (L>0))||(decide (sq>f))))=false):(!((decide (L=0))&&(decide (sq<f))))=decide (sq=W):=by
 by_cases h1:sq=W
 ·rw[decide_eq_true h1]
  by_cases h0:L=0
  ·have:=hW h0
   rw[decide_eq_false (show ¬ sq<f by omega),Bool.and_false]
   rfl
  ·rw[decide_eq_false h0]
   rfl
 ·rw[decide_eq_false h1] at h ⊢
  rw[Bool.not_false,Bool.true_and,Bool.or_eq_false_iff] at h
  have ha:=of_decide_eq_false h.1
  have hb:=of_decide_eq_false h.2
  have h0:L=0:=by omega
  have:=hW h0
  rw[decide_eq_true h0,decide_eq_true (show sq<f by omega)]
  rfl
theorem Quz (p0:ByteArray) (p1:Int) (hf:1≤p1∧p1≤100000): ∀ n v s i,Qbj p0 p1 n v s i=Qcs p0 p1 n v s i:=by
 intro n
 induction n with
 | zero=>intro v s i;rfl
 | succ n ih =>
  intro v s i
  have hW : (v.length : Int) = 0 → i64.wrap (p1 + (v.length : Int)) = p1 := fun h => by
   rw[h,Int.add_zero,IntWalk.i64_in _ (by omega)]
  rw[Qbj,Qcs,Qqg,Qzp,Ybj (by omega) hW]
  cases hq:(!((Qa8 (nth (Qaq p0) i)).2.2))||((!decide (((Qa8 (nth (Qaq p0) i)).1)=(i64.wrap (p1+(v.length:Int)))))&&((decide ((v.length:Int)>0))||(decide (((Qa8 (nth (Qaq p0) i)).1)>p1)))) with
  | true=>rfl
  | false =>
   rw[cond_false,cond_false,Yds (by omega) hW (Bool.or_eq_false_iff.1 hq).2]
   exact ih _ _ _
theorem Qgq (p0:ByteArray) (p1:Int):Qac p0 p1=Qal p0 p1:=by
 unfold Qac Qal
 rw[Qph,Qqg]
 cases h:Qcm p1 1 100000 with
 | false=>rfl
 | true=>exact Quz p0 p1 (Qg5 h) _ _ _ _
theorem Qzn (p0:Disk) (v7:List Cell) (i:Nat) (K:List Cell→List Cell×Int): ∀ n v j,v.length+n≤9223372036854775806→Qee p0 v7 i K n v j=K (Qbe [] (nth ((Qac p0.Journal.Text (i64.wrap (((nth p0.Slots ((Qab p0).toNat)).Seq)+1))).1) i) n v j):=by
 intro n
 induction n with
 | zero=>intro v j _;rfl
 | succ n ih =>
  intro v j h
  rw[Qee,Qbe,Ydt _ _ _ (by omega)]
  have:=Qjy v (nth (nth ((Qac p0.Journal.Text (i64.wrap (((nth p0.Slots ((Qab p0).toNat)).Seq)+1))).1) i) j).Key (nth (nth ((Qac p0.Journal.Text (i64.wrap (((nth p0.Slots ((Qab p0).toNat)).Seq)+1))).1) i) j).Val
  exact ih _ _ (by omega)
theorem Quy (p0:Disk): ∀ n v i,v.length+4001*n≤9223372036854775806→Qdo p0 n v i=Qbx p0 n v i:=by
 intro n
 induction n with
 | zero=>intro v i _;rw[Qdo,Qbx,Qgq,Qhz]
 | succ n ih =>
  intro v i h
  have hk:=(Qg6 p0.Journal.Text (i64.wrap (((nth p0.Slots ((Qae p0).toNat)).Seq)+1))).2 i
  rw[Qdo,Qbx,Qzn _ _ _ _ _ _ _ (by rw[Qgq,Qhz];omega),Qgq,Qhz]
  have hal:=Qi1 v (nth ((Qal p0.Journal.Text (i64.wrap (((nth p0.Slots ((Qae p0).toNat)).Seq)+1))).1) i)
  have e:Qfx v (nth ((Qal p0.Journal.Text (i64.wrap (((nth p0.Slots ((Qae p0).toNat)).Seq)+1))).1) i)=Qbe [] (nth ((Qal p0.Journal.Text (i64.wrap (((nth p0.Slots ((Qae p0).toNat)).Seq)+1))).1) i) ((nth ((Qal p0.Journal.Text (i64.wrap (((nth p0.Slots ((Qae p0).toNat)).Seq)+1))).1) i).length - 0) v 0:=by
   unfold Qfx
   rw[nil_append,Q08 _ _ _ _ _ (by omega)]
  rw[←e]
  exact ih _ _ (by omega)
theorem Qi8 (p0:Disk):Qba p0=Qay p0:=by
 unfold Qba Qay
 rw[Qmu]
 cases h:Qdv p0 with
 | false=>rfl
 | true =>
  have hd:=Qjz h
  have hr:=(Qg6 p0.Journal.Text (i64.wrap (((nth p0.Slots ((Qae p0).toNat)).Seq)+1))).1
  rw[Bool.not_true,cond_false,cond_false,Quy _ _ _ _ (by rw[Q6q,Qgq,Qhz];omega),Qgq,Qhz]
  rfl
theorem Qux (p0 p1:List Cell): ∀ n i,Qc2 p0 p1 n i=Qd3 p0 p1 n i:=by
 intro n
 induction n with
 | zero=>intro i;rfl
 | succ n ih=>intro i;rw[Qc2,Qd3,ih]
theorem Qrg (p0 p1:List Cell):Qh7 p0 p1=Qhe p0 p1:=by
 unfold Qh7 Qis Qhe
 rw[Qux]
end
section
theorem Yix:FnOk Tryz.prog 251:=⟨_,Tryz.func251,rfl,by kernel_rfl⟩
def Qgb (p0:ByteArray) (p1:ByteArray):Bool:=(decide ((p0.size:Int)≥(p1.size:Int)))&&(decide ((cutS p0 0 p1.size)=p1))
theorem Qkc (p0:ByteArray) (p1:ByteArray):CTs 251 [.o (.c (.string p0)),.o (.c (.string p1))] [Re.c (.bool (Qgb p0 p1))]:=by
 refine en Tryz.func251 Tryz.ntmps251 fun w hG hgd=>?_
 have hM:=Qgb.eq_1 p0 p1
 refine ad 12 ?_
 refine Run.midO ⟨18,0,[(4,.v (.bool ((decide ((p0.size:Int)≥(p1.size:Int)))&&(decide ((cutS p0 0 p1.size)=p1)))))],[]⟩ ?_ ?_
 ·refine bc 10 (fun h1=>?_) (fun h1=>?_)
  ·
   refine ad 7 ?_
   refine op (cu 0 p1.size (hl:=rfl)) ?_
   refine ad 7 ?_
   exact Run.at [] [] (by first | exact su | (rw[h1];exact su)) (by decide)
  ·
   refine ad 9 ?_
   exact Run.at [] [] (by first | exact su | (rw[h1];exact su)) (by decide)
 exact rz (rs:=[.tmp 4]) (rzB hM)
end
section
def Qr3 (p0:ByteArray) (p1:Int) (p2:ByteArray):ByteArray:=(p0++(Qco p1))++p2
theorem Qwz {p0 p2:ByteArray} {p1:Int} (h:I64 p1):(Qr3 p0 p1 p2).size≤p0.size+20+p2.size:=by
 have:=Qkr h
 unfold Qr3
 rw[ByteArray.size_append,ByteArray.size_append]
 omega
theorem Qsa {a b:ByteArray} {n:Int} (h:I64 n) (hq:a.size+b.size≤1000):Dat.good (Qr3 a n b):=by
 have:=Qwz (p0:=a) (p2:=b) h
 show ByteArray.size _≤_
 unfold maxLen
 omega
end
section
theorem Yg6:FnOk Tryz.prog 98:=⟨_,Tryz.func98,rfl,by kernel_rfl⟩
theorem Yg5:FnOk Tryz.prog 99:=⟨_,Tryz.func99,rfl,by kernel_rfl⟩
end
section
theorem Ynj:FnOk Tryz.prog 50:=⟨_,Tryz.func50,rfl,by kernel_rfl⟩
theorem Yni:FnOk Tryz.prog 52:=⟨_,Tryz.func52,rfl,by kernel_rfl⟩
end
section
def Qp0 (p0:Kernel):Int:=(Qba (Qar p0.Disk 0)).2
def Qb8 (p0:List Step):(List Step):=(([]:List Step)++p0)
theorem Qcz (p0:List Step) (hb:p0.length≤1073741824):CTs 120 [.o (.sl Step instDatStep p0)] [Re.sl Step instDatStep (Qb8 p0)]:=by
 refine en Tryz.func120 Tryz.ntmps120 fun w hG hgd=>?_
 obtain⟨hg_p0,_⟩:=hgd
 have hl_p0:p0.length≤9223372036854775807:=hg_p0.1
 have hM:=Qb8.eq_1 p0
 refine ad 8 ?_
 refine ox nl fun nb1 hnb1=>?_
 refine ad 1 ?_
 refine cd (fun h2=>?_) (fun h2=>?_)
 ·
  obtain rfl:p0=[]:=hnb1 h2
  have hM:Qb8 []=[]:=rfl
  refine ad 4 ?_
  exact rz (rs:=[.tmp 2]) (congrArg (fun x=>[Re.sl Step instDatStep x]) hM)
 ·
  refine ad 3 ?_
  refine op (l0) ?_
  refine ad 1 ?_
  refine li 1 (d:=instDatStep) ([]:List Step) ?_
  refine op (aS (dα:=instDatStep) (e:=151) (by':=80) ([]:List Step) p0 [1] (hb:=by(try simp only[List.length_append,List.length_cons,List.length_nil]);first | omega | exact om) (hm:=by(try simp only[List.length_append,List.length_cons,List.length_nil]);first | omega | exact om)) ?_
  refine ad 2 ?_
  exact rz (rs:=[.tmp 2]) (congrArg (fun x=>[Re.sl Step instDatStep x]) hM)
def Qa0 (p0:List Answer):(List Answer):=(([]:List Answer)++p0)
theorem Qbf (p0:List Answer) (hb:p0.length≤1073741824):CTs 121 [.o (.sl Answer instDatAnswer p0)] [Re.sl Answer instDatAnswer (Qa0 p0)]:=by
 refine en Tryz.func121 Tryz.ntmps121 fun w hG hgd=>?_
 obtain⟨hg_p0,_⟩:=hgd
 have hl_p0:p0.length≤9223372036854775807:=hg_p0.1
 have hM:=Qa0.eq_1 p0
 refine ad 8 ?_
 refine ox nl fun nb1 hnb1=>?_
 refine ad 1 ?_
 refine cd (fun h2=>?_) (fun h2=>?_)
 ·
  obtain rfl:p0=[]:=hnb1 h2
  have hM:Qa0 []=[]:=rfl
  refine ad 4 ?_
  exact rz (rs:=[.tmp 2]) (congrArg (fun x=>[Re.sl Answer instDatAnswer x]) hM)
 ·
  refine ad 3 ?_
  refine op (l0) ?_
  refine ad 1 ?_
  refine li 1 (d:=instDatAnswer) ([]:List Answer) ?_
  refine op (aS (dα:=instDatAnswer) (e:=154) (by':=32) ([]:List Answer) p0 [1] (hb:=by(try simp only[List.length_append,List.length_cons,List.length_nil]);first | omega | exact om) (hm:=by(try simp only[List.length_append,List.length_cons,List.length_nil]);first | omega | exact om)) ?_
  refine ad 2 ?_
  exact rz (rs:=[.tmp 2]) (congrArg (fun x=>[Re.sl Answer instDatAnswer x]) hM)
end
section
open Go.RowKit Go.Shelf
theorem Q7h {W:World} {a:Addr} {v:Value} {o:Obj} (h:W.cell? a=some v):(W.alloc o).cell? a=some v:=by
 have hlt:a.block<W.heap.size:=by
  rcases Nat.lt_or_ge a.block W.heap.size with h1 | h1
  ·exact h1
  ·simp[World.cell?,Array.getElem?_eq_none h1] at h
 have e:(W.alloc o).heap[a.block]?=W.heap[a.block]?:=by first | exact heap_alloc_old W o hlt | exact heap_alloc_old W o _ hlt
 unfold World.cell? at h ⊢
 rw[e]
 exact h
theorem Q8u (A:Option Addr) (n c:Nat) (w:World):(binOp .eql 41 (.slice A n c) (.slice none 0 0)).run Tryz.prog w= .ok (.bool A.isNone) w:=by
 exact Lib.run_eql_slice_nil w _ _ A n c 0 0 Tryz.underlying41
theorem Yek:Qeh Tryz.prog 41 80 8 96=true:=by kernel_rfl
set_option maxHeartbeats 4000000 in
set_option maxRecDepth 100000 in
theorem Yej:Q86 Tryz.prog 119 8:=by
 intro w A len cap raws hl hs hlen
 have mixed:Tryz.prog.follows .mixedOrders=true:=by kernel_rfl
 have t35:=Tryz.underlying41;have a35:=Tryz.isAgg41;have z35:=Tryz.sizeOf41;have v35:=Tryz.zeroValue41;have u35:=run_underlying t35
 have t114:=Tryz.underlying80;have a114:=Tryz.isAgg80;have z114:=Tryz.sizeOf80;have v114:=Tryz.zeroValue80;have u114:=run_underlying t114
 have t4:=Tryz.underlying4;have a4:=Tryz.isAgg4;have u4:=run_underlying t4
 cases A with
 | none =>
  have hr:raws=[]:=by
   cases raws with
   | nil=>rfl
   | cons r rs =>
    obtain⟨S,c,e,hc⟩:=hs
    have hlen:=r.len
    cases hv:r.val with
    | nil=>rw[hv] at hlen;cases hlen
    | cons u us =>
     obtain⟨a,ha,_⟩:=hc 0 u (by unfold Qgj;rw[flatMap_cons,hv];rfl)
     injection e with e _ _
     rw[←e] at ha
     cases ha
  subst hr
  subst hl
  clear hs hlen
  go_enter Tryz.func119,Tryz.ntmps119
  go_wp2
  rw[Q8u]
  simp only[Result.andThen]
  rw[Oper.upon_value]
  go_wp2
  all_goals (go_ret;exact⟨⟨none,0,[]⟩,rfl,Below.refl _ _,.inl ⟨rfl,rfl,rfl,rfl⟩⟩)
 | some ad =>
  have hw1:@SlO (Raw 8) (Qsm 8 (by decide)) (w.alloc (.cells #[] 80)) (.slice (some ⟨w.heap.size,0,none⟩) 0 0) [] [w.heap.size]:=
   (@Qhj (Raw 8) (Qsm 8 (by decide)) _ [] _ _).2 (.inr ⟨w.heap.size,0, #[],80,[],rfl,heap_alloc_new w _,Nat.le_refl _,Nat.zero_le _,by simp,rfl,⟨rfl,fun i x h=>by cases h⟩⟩)
  have hsrc:Src (w.alloc (.cells #[] 80)) (.slice (some ad) len cap) raws.length (Qgj raws):=by
   obtain⟨S,c,e,hc⟩:=hs
   refine⟨S,c,by rw[hl];exact e,fun j u hj=>?_⟩
   obtain⟨a,ha,hcell⟩:=hc j u hj
   exact⟨a,ha,Q7h hcell⟩
  obtain⟨v',w',F',hrun,r1,r2,r3,r4,r5,r6,r7,r8⟩:=@Qt2 Tryz.prog (Raw 8) (Qsm 8 (by decide)) (w.alloc (.cells #[] 80)) 41 80 41 8 96 _ Yek rfl Tryz.zeroValue80 rfl _ _ [] raws _ hw1 (by simp) _ _ hsrc (Qpw raws) (Qwb raws) (Q8b (by decide) _ raws) (by rw[Ql7];exact List.nodup_nil) (fun b hb=>by rw[Ql7] at hb;cases hb) (by simp only[length_nil];omega) (by simp only[length_nil];unfold maxLen;omega)
  rw[nil_append] at r1
  have hbel:Below w.heap.size w w':=by
   refine⟨r3,r4,r5,?_,fun b hb=>?_⟩
   ·have:(w.alloc (.cells #[] 80)).heap.size=w.heap.size+1:=World.size_alloc _ _
    omega
   ·rw[r7 b (by rw[World.size_alloc];omega) (fun h=>by rw[mem_singleton.1 h] at hb;omega)]
    first | exact heap_alloc_old w _ hb | exact heap_alloc_old w _ _ hb
  have hF : ∀ b ∈ F', w.heap.size ≤ b := fun b hb => by
   rcases r8 b hb with h | h | h
   ·rw[mem_singleton.1 h];exact Nat.le_refl _
   ·rw[Ql7] at h;cases h
   ·rw[World.size_alloc] at h;omega
  obtain⟨l,hv,hC⟩:=Ybl (by decide) r1 hbel hF
  clear hs hsrc hw1 r1 r2 r3 r4 r5 r6 r7 r8 hbel hF
  go_enter Tryz.func119,Tryz.ntmps119
  go_wp2
  rw[Q8u]
  simp only[Result.andThen]
  rw[Oper.upon_value]
  go_wp2_with (at_builtin;refine Lib.wpList_append_run _ rfl _ _ _ _ rfl _ _ rfl rfl _ _ hrun ?_)
  all_goals (go_ret;exact⟨l,rfl,hC⟩)
end
section
theorem Ynh:FnOk Tryz.prog 59:=⟨_,Tryz.func59,rfl,by kernel_rfl⟩
theorem Yk5:FnOk Tryz.prog 119:=⟨_,Tryz.func119,rfl,by kernel_rfl⟩
theorem Qq3:FnOk Tryz.prog 120:=⟨_,Tryz.func120,rfl,by kernel_rfl⟩
theorem Qm8:FnOk Tryz.prog 121:=⟨_,Tryz.func121,rfl,by kernel_rfl⟩
def Qio (p0:Entry):Entry:=(Entry.mk p0.Seq p0.Kind p0.Tx (([]:List Step)++p0.Steps) (([]:List Answer)++p0.Answers) p0.Began p0.Ended p0.Laid)
theorem Qyy (p0:Entry) (hs:Dat.small 1048576 p0):CTs 59 [.o (.st Entry _ inferInstance p0)] [Re.st Entry _ inferInstance (Qio p0)]:=by
 refine en Tryz.func59 Tryz.ntmps59 fun w hG hgd=>?_
 obtain⟨hg_p0,_⟩:=hgd
 have hM:=Qio.eq_1 p0
 have hs2:p0.Steps.length≤1048576:=hs.2.2.2.1.1
 have hs3:p0.Answers.length≤1048576:=hs.2.2.2.2.1.1
 refine ad 7 ?_
 refine op (l0) ?_
 refine ad 2 ?_
 refine li 4 (d:=instDatStep) ([]:List Step) ?_
 refine op (aS (dα:=instDatStep) (e:=151) (by':=80) ([]:List Step) p0.Steps [4] (hb:=by(try simp only[List.length_append,List.length_cons,List.length_nil]);first | omega | exact om) (hm:=by(try simp only[List.length_append,List.length_cons,List.length_nil]);first | omega | exact om)) ?_
 refine ad 5 ?_
 refine op (l0) ?_
 refine ad 2 ?_
 refine li 6 (d:=instDatAnswer) ([]:List Answer) ?_
 refine op (aS (dα:=instDatAnswer) (e:=154) (by':=32) ([]:List Answer) p0.Answers [6] (hb:=by(try simp only[List.length_append,List.length_cons,List.length_nil]);first | omega | exact om) (hm:=by(try simp only[List.length_append,List.length_cons,List.length_nil]);first | omega | exact om)) ?_
 refine ad 8 ?_
 refine gd 7 fun hg1=>?_
 refine gd 5 fun hg2=>?_
 refine gd 0 fun hg3=>?_
 refine gd 1 fun hg4=>?_
 have hg5:Dat.good (Entry.mk p0.Seq p0.Kind p0.Tx (([]:List Step)++p0.Steps) (([]:List Answer)++p0.Answers) p0.Began p0.Ended p0.Laid:Entry):=⟨hg_p0.1,hg_p0.2.1,hg_p0.2.2.1,hg2,hg1,hg_p0.2.2.2.2.2.1,hg_p0.2.2.2.2.2.2.1,hg_p0.2.2.2.2.2.2.2⟩
 exact rz (rs:=[.cell 2 80]) (congrArg (fun x=>[Re.st Entry _ inferInstance x]) hM)
def Qdh (p0:List Entry):Nat→Nat→(List Entry)
 | 0,i=>p0
 | n+1,i=>Qdh p0 n (i+1)
def Qh0 (p0:List Entry):(List Entry):=Qdh p0 (p0.length - 0) 0
theorem Qtq (p0:List Entry) (hs:Dat.small 1048576 p0):CTs 61 [.o (.sl Entry instDatEntry p0)] [Re.sl Entry instDatEntry (Qh0 p0)]:=by
 refine CT.ofP Ydk Tryz.func61 rfl Tryz.ntmps61 rfl fun w hG p hgd hfa=>?_
 show Run (cx Tryz.f61 (Bs.old w hG) (Old w) w (Keep.refl _ _) (fun _ h=>h) (fun _ h=>h)) _ ⟨34,1,[(0,.sl 0 p0.length)],[(0,.ros Entry instDatEntry p0),(0,.pin (p 0))]⟩ _
 have hrd0:=Yh2 (p:=p) (m:=1) (k:=0) (hfa (0,.ros Entry instDatEntry p0) (by first | exact List.mem_cons_self | exact mem_cons_of_mem _ List.mem_cons_self)) (by decide)
 obtain⟨hg_p0,_⟩:=hgd
 have hl_p0:p0.length≤9223372036854775807:=hg_p0.1
 have hM:=Qh0.eq_1 p0
 have hs1:p0.length≤1048576:=hs.1
 refine ad 7 ?_
 refine op (xc (p 0) Yej Yk5 hrd0 (by omega)) ?_
 refine ad 10 ?_
 refine Run.cvA 1 (MixP (Old w) w p0 0 3) (fun _ _ h=>MixP.flat rfl rfl (MixP.flat rfl rfl (MixP.flat rfl rfl (h)))) ?_
 refine Run.loopM (ι:=Nat) (fun s=>Qdh p0 (p0.length - s) s) (fun s=>⟨34,1,[(3,.sl 0 p0.length),(8,.v (.int .i64 (p0.length:Int))),(9,.v (.int .i64 (s:Int)))],[(0,.any (MixP (Old w) w p0 s 3))]⟩) (fun s=>s≤p0.length) (fun s=>p0.length - s) 0 [1] [0] hM lv0 su (by decide) ?_
 rintro i hv hE
 try dsimp only at hE
 have hi:=hv
 try dsimp only at hi
 refine ad 5 ?_
 refine cd (fun h1=>?_) (fun h1=>?_)
 ·
  have h1l:i<p0.length:=dtl h1
  have hM:=hE.trans ((congrArg (fun n=>Qdh p0 n i) (sb1 h1l)).trans (Qdh.eq_2 _ _ _))
  have hs2:(nth p0 i).Steps.length≤1048576:=(Qcv hs (by omega)).2.2.2.1.1
  have hs3:(nth p0 i).Answers.length≤1048576:=(Qcv hs (by omega)).2.2.2.2.1.1
  refine ad 8 ?_
  refine Run.mid ⟨34,1,[(3,.sl 0 p0.length),(8,.v (.int .i64 (p0.length:Int))),(9,.v (.int .i64 (i:Int)))],[(0,.any (MixP (Old w) w p0 i 5))]⟩ ?_ ?_
  ·
   refine ds 22 [] fun _ _ _ _ _ hb=>?_
   refine tk [0,1,2,3,4,5,10,11] ?_
   refine o2 6 12 ?_ ?_
   ·
    refine on1 6 [] (xi (xs:=p0) i om) ?_
    refine tk [7] ?_
    refine o2 8 12 ?_ ?_
    ·
     refine on1 8 [] (xl (xs:=p0) (i:=i) (k:=3) i 3 Entry.Steps (nth p0 i) (Qgd om) (by unfold mst;simp)) ?_
     refine o2 9 12 ?_ ?_
     ·
      refine ong1 9 [] (clg (Qcz ((nth p0 i).Steps) lv2) Qq3) fun hgq=>?_
      obtain⟨hg2,_⟩:=hgq
      refine on 12 [] (xi (xs:=p0) i om) ?_
      refine tk [13] ?_
      refine on 14 [] (xl (xs:=p0) (i:=i) (k:=3) i 4 Entry.Answers (nth p0 i) (Qgd om) (by unfold mst;simp)) ?_
      refine ong 15 [] (clg (Qbf ((nth p0 i).Answers) lv2) Qm8) fun hgq=>?_
      obtain⟨hg3,_⟩:=hgq
      refine on 16 [] (xi (xs:=p0) i om) ?_
      refine tk [17] ?_
      refine on 18 [] (xs' (xs:=p0) (zs:=(Qb8 ((nth p0 i).Steps))) Entry.Steps (nth p0 i) (Qgd om) (by first | rfl | exact nil_append _)) ?_
      refine on 19 [] (xi (xs:=p0) i om) ?_
      refine tk [20] ?_
      refine on 21 [] (xs' (xs:=p0) (zs:=(Qa0 ((nth p0 i).Answers))) Entry.Answers (nth p0 i) (Qgd om) (by first | rfl | exact nil_append _)) ?_
      refine dn hb ?_
      exact Run.at [6] [0] su (by decide)
     ·
      refine on1 12 [] (xi (xs:=p0) i om) ?_
      refine tk [13] ?_
      refine o2 9 14 ?_ ?_
      ·
       refine ong1 9 [] (clg (Qcz ((nth p0 i).Steps) lv2) Qq3) fun hgq=>?_
       obtain⟨hg4,_⟩:=hgq
       refine on 14 [] (xl (xs:=p0) (i:=i) (k:=3) i 4 Entry.Answers (nth p0 i) (Qgd om) (by unfold mst;simp)) ?_
       refine ong 15 [] (clg (Qbf ((nth p0 i).Answers) lv2) Qm8) fun hgq=>?_
       obtain⟨hg5,_⟩:=hgq
       refine on 16 [] (xi (xs:=p0) i om) ?_
       refine tk [17] ?_
       refine on 18 [] (xs' (xs:=p0) (zs:=(Qb8 ((nth p0 i).Steps))) Entry.Steps (nth p0 i) (Qgd om) (by first | rfl | exact nil_append _)) ?_
       refine on 19 [] (xi (xs:=p0) i om) ?_
       refine tk [20] ?_
       refine on 21 [] (xs' (xs:=p0) (zs:=(Qa0 ((nth p0 i).Answers))) Entry.Answers (nth p0 i) (Qgd om) (by first | rfl | exact nil_append _)) ?_
       refine dn hb ?_
       exact Run.at [6] [0] su (by decide)
      ·
       refine on1 14 [] (xl (xs:=p0) (i:=i) (k:=3) i 4 Entry.Answers (nth p0 i) (Qgd om) (by unfold mst;simp)) ?_
       refine ong 9 [] (clg (Qcz ((nth p0 i).Steps) lv2) Qq3) fun hgq=>?_
       obtain⟨hg6,_⟩:=hgq
       refine ong 15 [] (clg (Qbf ((nth p0 i).Answers) lv2) Qm8) fun hgq=>?_
       obtain⟨hg7,_⟩:=hgq
       refine on 16 [] (xi (xs:=p0) i om) ?_
       refine tk [17] ?_
       refine on 18 [] (xs' (xs:=p0) (zs:=(Qb8 ((nth p0 i).Steps))) Entry.Steps (nth p0 i) (Qgd om) (by first | rfl | exact nil_append _)) ?_
       refine on 19 [] (xi (xs:=p0) i om) ?_
       refine tk [20] ?_
       refine on 21 [] (xs' (xs:=p0) (zs:=(Qa0 ((nth p0 i).Answers))) Entry.Answers (nth p0 i) (Qgd om) (by first | rfl | exact nil_append _)) ?_
       refine dn hb ?_
       exact Run.at [6] [0] su (by decide)
    ·
     refine on1 12 [] (xi (xs:=p0) i om) ?_
     refine tk [13] ?_
     refine o2 8 14 ?_ ?_
     ·
      refine on1 8 [] (xl (xs:=p0) (i:=i) (k:=3) i 3 Entry.Steps (nth p0 i) (Qgd om) (by unfold mst;simp)) ?_
      refine o2 9 14 ?_ ?_
      ·
       refine ong1 9 [] (clg (Qcz ((nth p0 i).Steps) lv2) Qq3) fun hgq=>?_
       obtain⟨hg8,_⟩:=hgq
       refine on 14 [] (xl (xs:=p0) (i:=i) (k:=3) i 4 Entry.Answers (nth p0 i) (Qgd om) (by unfold mst;simp)) ?_
       refine ong 15 [] (clg (Qbf ((nth p0 i).Answers) lv2) Qm8) fun hgq=>?_
       obtain⟨hg9,_⟩:=hgq
       refine on 16 [] (xi (xs:=p0) i om) ?_
       refine tk [17] ?_
       refine on 18 [] (xs' (xs:=p0) (zs:=(Qb8 ((nth p0 i).Steps))) Entry.Steps (nth p0 i) (Qgd om) (by first | rfl | exact nil_append _)) ?_
       refine on 19 [] (xi (xs:=p0) i om) ?_
       refine tk [20] ?_
       refine on 21 [] (xs' (xs:=p0) (zs:=(Qa0 ((nth p0 i).Answers))) Entry.Answers (nth p0 i) (Qgd om) (by first | rfl | exact nil_append _)) ?_
       refine dn hb ?_
       exact Run.at [6] [0] su (by decide)
      ·
       refine on1 14 [] (xl (xs:=p0) (i:=i) (k:=3) i 4 Entry.Answers (nth p0 i) (Qgd om) (by unfold mst;simp)) ?_
       refine ong 9 [] (clg (Qcz ((nth p0 i).Steps) lv2) Qq3) fun hgq=>?_
       obtain⟨hg10,_⟩:=hgq
       refine ong 15 [] (clg (Qbf ((nth p0 i).Answers) lv2) Qm8) fun hgq=>?_
       obtain⟨hg11,_⟩:=hgq
       refine on 16 [] (xi (xs:=p0) i om) ?_
       refine tk [17] ?_
       refine on 18 [] (xs' (xs:=p0) (zs:=(Qb8 ((nth p0 i).Steps))) Entry.Steps (nth p0 i) (Qgd om) (by first | rfl | exact nil_append _)) ?_
       refine on 19 [] (xi (xs:=p0) i om) ?_
       refine tk [20] ?_
       refine on 21 [] (xs' (xs:=p0) (zs:=(Qa0 ((nth p0 i).Answers))) Entry.Answers (nth p0 i) (Qgd om) (by first | rfl | exact nil_append _)) ?_
       refine dn hb ?_
       exact Run.at [6] [0] su (by decide)
     ·
      refine on1 14 [] (xl (xs:=p0) (i:=i) (k:=3) i 4 Entry.Answers (nth p0 i) (Qgd om) (by unfold mst;simp)) ?_
      refine on 8 [] (xl (xs:=p0) (i:=i) (k:=3) i 3 Entry.Steps (nth p0 i) (Qgd om) (by unfold mst;simp)) ?_
      refine ong 9 [] (clg (Qcz ((nth p0 i).Steps) lv2) Qq3) fun hgq=>?_
      obtain⟨hg12,_⟩:=hgq
      refine ong 15 [] (clg (Qbf ((nth p0 i).Answers) lv2) Qm8) fun hgq=>?_
      obtain⟨hg13,_⟩:=hgq
      refine on 16 [] (xi (xs:=p0) i om) ?_
      refine tk [17] ?_
      refine on 18 [] (xs' (xs:=p0) (zs:=(Qb8 ((nth p0 i).Steps))) Entry.Steps (nth p0 i) (Qgd om) (by first | rfl | exact nil_append _)) ?_
      refine on 19 [] (xi (xs:=p0) i om) ?_
      refine tk [20] ?_
      refine on 21 [] (xs' (xs:=p0) (zs:=(Qa0 ((nth p0 i).Answers))) Entry.Answers (nth p0 i) (Qgd om) (by first | rfl | exact nil_append _)) ?_
      refine dn hb ?_
      exact Run.at [6] [0] su (by decide)
   ·
    refine on1 12 [] (xi (xs:=p0) i om) ?_
    refine tk [13] ?_
    refine o2 6 14 ?_ ?_
    ·
     refine on1 6 [] (xi (xs:=p0) i om) ?_
     refine tk [7] ?_
     refine o2 8 14 ?_ ?_
     ·
      refine on1 8 [] (xl (xs:=p0) (i:=i) (k:=3) i 3 Entry.Steps (nth p0 i) (Qgd om) (by unfold mst;simp)) ?_
      refine o2 9 14 ?_ ?_
      ·
       refine ong1 9 [] (clg (Qcz ((nth p0 i).Steps) lv2) Qq3) fun hgq=>?_
       obtain⟨hg14,_⟩:=hgq
       refine on 14 [] (xl (xs:=p0) (i:=i) (k:=3) i 4 Entry.Answers (nth p0 i) (Qgd om) (by unfold mst;simp)) ?_
       refine ong 15 [] (clg (Qbf ((nth p0 i).Answers) lv2) Qm8) fun hgq=>?_
       obtain⟨hg15,_⟩:=hgq
       refine on 16 [] (xi (xs:=p0) i om) ?_
       refine tk [17] ?_
       refine on 18 [] (xs' (xs:=p0) (zs:=(Qb8 ((nth p0 i).Steps))) Entry.Steps (nth p0 i) (Qgd om) (by first | rfl | exact nil_append _)) ?_
       refine on 19 [] (xi (xs:=p0) i om) ?_
       refine tk [20] ?_
       refine on 21 [] (xs' (xs:=p0) (zs:=(Qa0 ((nth p0 i).Answers))) Entry.Answers (nth p0 i) (Qgd om) (by first | rfl | exact nil_append _)) ?_
       refine dn hb ?_
       exact Run.at [6] [0] su (by decide)
      ·
       refine on1 14 [] (xl (xs:=p0) (i:=i) (k:=3) i 4 Entry.Answers (nth p0 i) (Qgd om) (by unfold mst;simp)) ?_
       refine ong 9 [] (clg (Qcz ((nth p0 i).Steps) lv2) Qq3) fun hgq=>?_
       obtain⟨hg16,_⟩:=hgq
       refine ong 15 [] (clg (Qbf ((nth p0 i).Answers) lv2) Qm8) fun hgq=>?_
       obtain⟨hg17,_⟩:=hgq
       refine on 16 [] (xi (xs:=p0) i om) ?_
       refine tk [17] ?_
       refine on 18 [] (xs' (xs:=p0) (zs:=(Qb8 ((nth p0 i).Steps))) Entry.Steps (nth p0 i) (Qgd om) (by first | rfl | exact nil_append _)) ?_
       refine on 19 [] (xi (xs:=p0) i om) ?_
       refine tk [20] ?_
       refine on 21 [] (xs' (xs:=p0) (zs:=(Qa0 ((nth p0 i).Answers))) Entry.Answers (nth p0 i) (Qgd om) (by first | rfl | exact nil_append _)) ?_
       refine dn hb ?_
       exact Run.at [6] [0] su (by decide)
     ·
      refine on1 14 [] (xl (xs:=p0) (i:=i) (k:=3) i 4 Entry.Answers (nth p0 i) (Qgd om) (by unfold mst;simp)) ?_
      refine on 8 [] (xl (xs:=p0) (i:=i) (k:=3) i 3 Entry.Steps (nth p0 i) (Qgd om) (by unfold mst;simp)) ?_
      refine ong 9 [] (clg (Qcz ((nth p0 i).Steps) lv2) Qq3) fun hgq=>?_
      obtain⟨hg18,_⟩:=hgq
      refine ong 15 [] (clg (Qbf ((nth p0 i).Answers) lv2) Qm8) fun hgq=>?_
      obtain⟨hg19,_⟩:=hgq
      refine on 16 [] (xi (xs:=p0) i om) ?_
      refine tk [17] ?_
      refine on 18 [] (xs' (xs:=p0) (zs:=(Qb8 ((nth p0 i).Steps))) Entry.Steps (nth p0 i) (Qgd om) (by first | rfl | exact nil_append _)) ?_
      refine on 19 [] (xi (xs:=p0) i om) ?_
      refine tk [20] ?_
      refine on 21 [] (xs' (xs:=p0) (zs:=(Qa0 ((nth p0 i).Answers))) Entry.Answers (nth p0 i) (Qgd om) (by first | rfl | exact nil_append _)) ?_
      refine dn hb ?_
      exact Run.at [6] [0] su (by decide)
    ·
     refine on1 14 [] (xl (xs:=p0) (i:=i) (k:=3) i 4 Entry.Answers (nth p0 i) (Qgd om) (by unfold mst;simp)) ?_
     refine on 6 [] (xi (xs:=p0) i om) ?_
     refine tk [7] ?_
     refine on 8 [] (xl (xs:=p0) (i:=i) (k:=3) i 3 Entry.Steps (nth p0 i) (Qgd om) (by unfold mst;simp)) ?_
     refine ong 9 [] (clg (Qcz ((nth p0 i).Steps) lv2) Qq3) fun hgq=>?_
     obtain⟨hg20,_⟩:=hgq
     refine ong 15 [] (clg (Qbf ((nth p0 i).Answers) lv2) Qm8) fun hgq=>?_
     obtain⟨hg21,_⟩:=hgq
     refine on 16 [] (xi (xs:=p0) i om) ?_
     refine tk [17] ?_
     refine on 18 [] (xs' (xs:=p0) (zs:=(Qb8 ((nth p0 i).Steps))) Entry.Steps (nth p0 i) (Qgd om) (by first | rfl | exact nil_append _)) ?_
     refine on 19 [] (xi (xs:=p0) i om) ?_
     refine tk [20] ?_
     refine on 21 [] (xs' (xs:=p0) (zs:=(Qa0 ((nth p0 i).Answers))) Entry.Answers (nth p0 i) (Qgd om) (by first | rfl | exact nil_append _)) ?_
     refine dn hb ?_
     exact Run.at [6] [0] su (by decide)
  refine ad 3 ?_
  rw[Qb3 (i:=i) om]
  refine ad 2 ?_
  refine Run.cvA 0 (MixP (Old w) w p0 (i+1) 3) (fun _ _ h=>MixP.flat rfl rfl (MixP.flat rfl rfl (MixP.flat rfl rfl (MixP.next (MixP.flat rfl rfl (MixP.flat rfl rfl (MixP.flat rfl rfl (h)))))))) ?_
  exact Run.again (i+1) [0] [0] ⟨by first | omega | exact trivial | (dsimp only;omega) | (refine⟨by omega,?_⟩;simp_all;try omega),hM⟩ rfl lv1 su (by decide)
 ·
  have h1l: ¬ (i<p0.length):=dfl h1
  have hM:=hE.trans ((congrArg (fun n=>Qdh p0 n i) (sb0 h1l)).trans (Qdh.eq_1 _ _))
  refine ad 6 ?_
  refine Run.cvO (dα:=instDatEntry) (P:=MixP (Old w) w p0 i 3) 0 p0 (fun _ _ h=>MixP.done' (by omega) h) ?_
  exact rz (rs:=[.tmp 2]) (congrArg (fun x=>[Re.sl Entry instDatEntry x]) hM)
end
section
theorem Yk8:FnOk Tryz.prog 116:=⟨_,Tryz.func116,rfl,by kernel_rfl⟩
theorem Yk7:FnOk Tryz.prog 117:=⟨_,Tryz.func117,rfl,by kernel_rfl⟩
theorem Yk6:FnOk Tryz.prog 118:=⟨_,Tryz.func118,rfl,by kernel_rfl⟩
def Qmh (p0:Entry) (c0:Int):Bool:=p0.Laid&&(decide (p0.Seq>c0))
theorem Q33 (p0:Entry) (c0:Int):CTs 117 [.o (.st Entry _ inferInstance p0),.o (.rp Int instDatInt inferInstance c0)] [Re.c (.bool (Qmh p0 c0))]:=by
 refine en Tryz.func117 Tryz.ntmps117 fun w hG hgd=>?_
 obtain⟨hg_p0,hg_c0,_⟩:=hgd
 have hM:=Qmh.eq_1 p0 c0
 refine ad 10 ?_
 refine ag 5 ?_
 refine ad 2 ?_
 exact rz (rs:=[.tmp 3]) (rzB hM)
def Qaz (p0:List Entry) (p1_0:Int):Nat→Nat→Int
 | 0,i=>(-1)
 | n+1,i=>bif Qmh (nth p0 i) p1_0 then(i:Int) else(Qaz p0 p1_0 n (i+1))
def Qch (p0:List Entry) (p1_0:Int):Int:=Qaz p0 p1_0 (p0.length - 0) 0
theorem Qoe (p0:List Entry) (p1_0:Int) (hk: -9223372036854775808≤p1_0∧p1_0≤9223372036854775807):CTs 116 [.o (.sl Entry instDatEntry p0),.fn 117 [.rp Int instDatInt inferInstance p1_0]] [Re.c (.int .i64 (Qch p0 p1_0))]:=by
 refine en Tryz.func116 Tryz.ntmps116 fun w hG hgd=>?_
 obtain⟨hg_p0,_⟩:=hgd
 have hl_p0:p0.length≤9223372036854775807:=hg_p0.1
 have hM:=Qch.eq_1 p0 p1_0
 obtain⟨hk1,hk2⟩:=hk
 refine ad 12 ?_
 refine Run.loopM (ι:=Nat) (fun s=>Qaz p0 p1_0 (p0.length - s) s) (fun s=>⟨19,2,[(0,.sl 0 p0.length),(1,.fn 117 [.pt 1 0]),(7,.v (.int .i64 (p0.length:Int))),(8,.v (.int .i64 (s:Int)))],[(0,.ros Entry instDatEntry p0),(1,.roc [.v (.int .i64 p1_0)])]⟩) (fun s=>s≤p0.length) (fun s=>p0.length - s) 0 [0,1] [0,1] hM lv0 su (by decide) ?_
 rintro i hv hE
 try dsimp only at hE
 have hi:=hv
 try dsimp only at hi
 refine ad 5 ?_
 refine cd (fun h1=>?_) (fun h1=>?_)
 ·
  have h1l:i<p0.length:=dtl h1
  have hM:=hE.trans ((congrArg (fun n=>Qaz p0 p1_0 n i) (sb1 h1l)).trans (Qaz.eq_2 _ _ _ _))
  refine ad 13 ?_
  have hg3:=Qai (k:=i) hg_p0 om
  refine op (ix (xs:=p0) i om) ?_
  refine ad 1 ?_
  have hg4:Dat.good (nth p0 i:Entry):=hg3
  refine op (cl (Q33 (nth p0 i) p1_0) Yk7) ?_
  refine ad 1 ?_
  refine cd (fun h5=>?_) (fun h5=>?_)
  ·
   have hM:=hM.trans (bt h5)
   refine ad 5 ?_
   exact rz (rs:=[.tmp 4]) (rzI hM)
  ·
   have hM:=hM.trans (bf h5)
   refine ad 4 ?_
   rw[Qb3 (i:=i) om]
   refine ad 2 ?_
   exact Run.again (i+1) [0,1] [3,4] ⟨by first | omega | exact trivial | (dsimp only;omega) | (refine⟨by omega,?_⟩;simp_all;try omega),hM⟩ rfl lv1 su (by decide)
 ·
  have h1l: ¬ (i<p0.length):=dfl h1
  have hM:=hE.trans ((congrArg (fun n=>Qaz p0 p1_0 n i) (sb0 h1l)).trans (Qaz.eq_1 _ _ _))
  refine ad 5 ?_
  exact rz (rs:=[.tmp 4]) (rzI hM)
theorem Qlq (p0:List Entry) (k:Int): ∀ n i,i+n=p0.length→ -1≤Qaz p0 k n i∧Qaz p0 k n i<p0.length:=by
 intro n
 induction n with
 | zero=>intro i _;rw[Qaz];omega
 | succ n ih =>
  intro i h
  rw[Qaz]
  cases Qmh (nth p0 i) k with
  | false=>exact ih (i+1) (by omega)
  | true=>show -1≤(i:Int)∧(i:Int)<p0.length;omega
theorem Qnf (p0:List Entry) (k:Int): -1≤Qch p0 k∧Qch p0 k<p0.length:=Qlq p0 k _ 0 (by omega)
def Qhm (p0:List Entry):(List Entry):=p0
theorem Qr8 (p0:List Entry):CTMs 118 0 1 [(0,.own Entry instDatEntry p0)] [] [.sl 0 p0.length] [(0,.own Entry instDatEntry (Qhm p0))] 1 [.sl 0 ((Qhm p0).length)] True:=by
 refine enM Tryz.func118 Tryz.ntmps118 fun S w p hG hb hg=>?_
 refine Run.cg (σ':=⟨9,1,[(0,.sl 0 p0.length)],[(0,.own Entry instDatEntry p0)]⟩) rfl ?_
 refine gd 0 fun hg_p0=>?_
 have hl_p0:p0.length≤9223372036854775807:=hg_p0.1
 have hM:=Qhm.eq_1 p0
 refine ad 11 ?_
 refine op (cOc (xs:=p0)) ?_
 refine ad 2 ?_
 exact rzM (rs:=[.tmp 2]) [1] [0] (hg1:=trivial) (hG1:=congrArg (fun x=>(True:Prop)) hM) (congrArg (fun x=>([(0,.own Entry instDatEntry x)]:List (Nat×En))) hM) (congrArg (fun x=>([.sl 0 x.length]:List V)) hM)
def Qj4 (p0:List Entry) (p1:Int):(List Entry):=bif decide ((Qch p0 p1)<0) then p0 else(Qhm (List.take ((Qch p0 p1).toNat) p0))
theorem Q7n (p0:List Entry) (p1:Int) (hk: -9223372036854775808≤p1∧p1≤9223372036854775807):CTMs 60 0 1 [(0,.own Entry instDatEntry p0)] [] [.sl 0 p0.length,.v (.int .i64 p1)] [(0,.own Entry instDatEntry (Qj4 p0 p1))] 1 [.sl 0 ((Qj4 p0 p1).length)] True:=by
 refine enM Tryz.func60 Tryz.ntmps60 fun S w p hG hb hg=>?_
 refine Run.cg (σ':=⟨16,1,[(0,.sl 0 p0.length),(1,.v (.int .i64 p1))],[(0,.own Entry instDatEntry p0)]⟩) rfl ?_
 refine gd 0 fun hg_p0=>?_
 have hl_p0:p0.length≤9223372036854775807:=hg_p0.1
 have hM:=Qj4.eq_1 p0 p1
 have hin:=Qnf p0 p1
 refine ad 9 ?_
 refine op (cl (Qoe p0 p1 lv5) Yk8) ?_
 refine ad 8 ?_
 refine cd (fun h1=>?_) (fun h1=>?_)
 ·
  have hM:=hM.trans (bt h1)
  refine ad 5 ?_
  exact rzM (rs:=[.tmp 4]) [0] [1] (hg1:=trivial) (hG1:=congrArg (fun x=>(True:Prop)) hM) (congrArg (fun x=>([(0,.own Entry instDatEntry x)]:List (Nat×En))) hM) (congrArg (fun x=>([.sl 0 x.length]:List V)) hM)
 ·
  have hM:=hM.trans (bf h1)
  have hne:=of_decide_eq_false h1
  refine ad 5 ?_
  refine op (cO (xs:=p0) ((Qch p0 p1).toNat) (by first | omega | exact om | (simp only[List.length_append,List.length_take,List.length_replicate,List.length_set];omega)) (hl:=by first | rfl | (simp only[List.length_append,List.length_take,List.length_replicate,List.length_set];omega)) (hi:=om)) ?_
  refine og (cm [2] [] [0] [] [1] (Qr8 (List.take ((Qch p0 p1).toNat) p0)) Yk6) fun _=>?_
  refine ad 2 ?_
  exact rzM (rs:=[.tmp 4]) [3] [0] (hg1:=trivial) (hG1:=congrArg (fun x=>(True:Prop)) hM) (congrArg (fun x=>([(0,.own Entry instDatEntry x)]:List (Nat×En))) hM) (congrArg (fun x=>([.sl 0 x.length]:List V)) hM)
end
section
theorem Ql2 (p0:Disk): ∀ n v i,∃ z,(Qbx p0 n v i).2=i64.wrap z:=by
 intro n
 induction n with
 | zero=>intro v i;exact⟨_,rfl⟩
 | succ n ih=>intro v i;rw[Qbx];exact ih _ _
theorem Qyk (k:Kernel): -9223372036854775808≤Qp0 k∧Qp0 k≤9223372036854775807:=by
 unfold Qp0
 rw[Qi8]
 unfold Qay
 cases Qdv (Qar k.Disk 0) with
 | false=>exact(show(-9223372036854775808:Int)≤0∧(0:Int)≤9223372036854775807 from⟨by decide,by decide⟩)
 | true =>
  obtain⟨z,hz⟩:=Ql2 (Qar k.Disk 0) _ _ 0
  have h:=Qk0 z
  unfold I64 at h
  rw[Bool.not_true,cond_false,hz]
  omega
end
section
theorem Yng:FnOk Tryz.prog 60:=⟨_,Tryz.func60,rfl,by kernel_rfl⟩
theorem Ynf:FnOk Tryz.prog 61:=⟨_,Tryz.func61,rfl,by kernel_rfl⟩
end
section
def KSm (k:Kernel):Prop:=k.Store.length≤1073741824∧Dat.small 1048576 k.Txs∧Dat.small 1048576 k.Disk∧Dat.small 1048576 k.History∧k.Seen.length≤1048576
theorem Ygd {k:Kernel} (hs:Dat.small 1048576 k):KSm k:=⟨Nat.le_trans hs.1.1 (by decide),hs.2.1,hs.2.2.1,hs.2.2.2.2.2.2.1,hs.2.2.2.2.2.2.2.1.1⟩
end
section
section
variable {α:Type}
def elW (x:α) (u:Nat→Option Addr×Nat×Nat):List (Fk α)→Nat→List V
 | [],_=>[]
 | .sl _ _ _::fs,k=> .v (.slice (u k).1 (u k).2.1 (u k).2.2)::elW x u fs (k+1)
 | f::fs,k=>fkV x f::elW x u fs k
theorem Qoa {x:α} {u u':Nat→Option Addr×Nat×Nat}: ∀ {fk:List (Fk α)} {k:Nat},(∀ j,k≤j→u j=u' j)→elW x u fk k=elW x u' fk k
 | [],_,_=>rfl
 | .sl _ _ _::fs,k,h=>by rw[elW,elW,h k (Nat.le_refl _),Qoa fun j hj=>h j (by omega)]
 | .int _::fs,k,h=>by simp only[elW];rw[Qoa h]
 | .byte _::fs,k,h=>by simp only[elW];rw[Qoa h]
 | .bool _::fs,k,h=>by simp only[elW];rw[Qoa h]
 | .str _::fs,k,h=>by simp only[elW];rw[Qoa h]
theorem Q2o {θ:List Loc} {w:World} {x:α}: ∀ {fk:List (Fk α)} {cs:List Value} {F:List Nat} (k:Nat),OwL w x fk cs F→ ∃ u,conL θ (elW x u fk k)=some cs
 | [],_,_,_,h=>⟨fun _=>(none,0,0),by obtain⟨rfl,_⟩:=h;rfl⟩
 | f :: fs, _, _, k, ⟨v, r, G, H, e1, _, h1, h2⟩ => by
  subst e1
  cases f with
  | sl β d g =>
   obtain⟨u,hu⟩:=Q2o (θ:=θ) (k+1) h2
   have key : ∀ u0 : Option Addr × Nat × Nat, v = .slice u0.1 u0.2.1 u0.2.2 → ∃ u, conL θ (elW x u (.sl β d g :: fs) k) = some (v :: r) := fun u0 e => by
    refine⟨fun j=>if j=k then u0 else u j,?_⟩
    have e2:elW x (fun j=>if j=k then u0 else u j) fs (k+1)=elW x u fs (k+1):=Qoa fun j hj=>if_neg (by omega)
    simp only[elW,conL,V.con,e2,hu,if_true,e]
   rcases h1 with ⟨e1,_⟩ | ⟨g1,cap,arr,T,Fs,e1,_⟩
   ·exact key (none,0,0) e1
   ·exact key (some ⟨g1,0,none⟩,(g x).length,cap) e1
  | int g=>obtain⟨u,hu⟩:=Q2o (θ:=θ) k h2;exact⟨u,by simp only[elW,conL,Qj7 (f:= .int g) rfl h1,hu]⟩
  | byte g=>obtain⟨u,hu⟩:=Q2o (θ:=θ) k h2;exact⟨u,by simp only[elW,conL,Qj7 (f:= .byte g) rfl h1,hu]⟩
  | bool g=>obtain⟨u,hu⟩:=Q2o (θ:=θ) k h2;exact⟨u,by simp only[elW,conL,Qj7 (f:= .bool g) rfl h1,hu]⟩
  | str g=>obtain⟨u,hu⟩:=Q2o (θ:=θ) k h2;exact⟨u,by simp only[elW,conL,Qj7 (f:= .str g) rfl h1,hu]⟩
end
section
variable {c:Cx} {σ:St} {all:Array Oper} {ty:TypeId} {pos:String} {after:Array Edge} {d:Nat}
def OpSn (c:Cx) (σ:St) (all:Array Oper) (o:Oper) (σ':(Nat→Option Addr×Nat×Nat)→St):Prop:= ∀ θ a w,R c θ σ a w→ ∀ (K:Act→World→Prop) (Q:Exit→Act→World→Prop),(∀ u η a' w',R c (θ++η) (σ' u) a' w'→K a' w')→if Region.wanted o (yielded all a.tmps)=true then Oper.wp c.P o a w K Q else K (a.put o.dst undef) w
theorem Run.opn {σ':(Nat→Option Addr×Nat×Nat)→St} {res:List Re} {o:Oper} {r:List Oper} {k:List It} (ho:OpSn c σ all o σ') (h: ∀ u,Run c res (σ' u) (.ops r all::k)):Run c res σ (.ops (o::r) all::k):=by
 intro θ a w hR
 rw[Qpy]
 refine wpList_step fun K hK=>ho θ a w hR K _ fun u η a' w' hR'=>hK _ _ ?_
 have:=h u _ a' w' hR'
 rwa [Qpy] at this
theorem OpSn.ldW {α:Type} {dα:Dat α} [s:@Str α dα] [Inhabited α] {t:Nat} {x:Operand} {r off:Nat} {xs:List α} (j:Nat) (hj:j<xs.length) (hx:ev σ.ρ x=some (.pt r off)) (hoff:off=j*Dat.sz α) (hr:lkE σ.E r=some (.own α dα xs)) (ht:Qil c.P t (Dat.sz α)=true) (hd:Nat.blt d σ.n=true):
  OpSn c σ all ⟨some d,.load t x,ty,pos,after,none⟩ (fun u=>put d (.ag (elW (nth xs j) u s.fk 0)) σ):=by
 intro θ a w h K Q hK
 rw[if_pos (by simp[Region.wanted])]
 subst hoff
 obtain⟨S,w1,hh⟩:=h.heap
 obtain⟨l,g,cs,G,hl,hA,hc,hlen,ho⟩:=hh.elem hr hj
 obtain⟨u,hu⟩:=Q2o (θ:=θ) 0 ho
 obtain⟨l',A',h1',h2',hp⟩:=Qqz (h.env.con hx)
 rw[hl] at h1';cases h1'
 rw[hA] at h2';cases h2'
 have hx':ev? (selfρ a) x=some (.pointer (some (((⟨g,0,none⟩:Addr).add (j*Dat.sz α)).add 0))):=by rw[h.env.ev1 hx,hp,Addr.add_zero']
 have hyy:=Qu5 (P:=c.P) (ty:=ty) h.env.env hx' hc hlen ht
 unfold Oper.wp
 rw[hyy]
 exact hK u [] _ _ (h.put hd (v:= .ag (elW (nth xs j) u s.fk 0)) (by simp only[V.con,hu];rfl)).app0
end
section
variable {fn:Func} {Bz:Bs} {S1:Nat→Prop} {w1:World} {hk1:Keep Bz.S0 Bz.w w1} {hs1: ∀ b,Bz.S0 b→S1 b} {hd1: ∀ b,S1 b→b<w1.heap.size} {res:List Re} {σ:St} {k:List It} {all:Array Oper} {ty:TypeId} {pos:String} {after:Array Edge} {d:Nat}
theorem lW {α:Type} {dα:Dat α} [s:@Str α dα] [Inhabited α] {t r off:Nat} {x:Operand} {xs:List α} (j:Nat) (cs:(Nat→Option Addr×Nat×Nat)→List V) (hj:j<xs.length) (hx:ev σ.ρ x=some (.pt r off):=by exact Dq0) (hr:lkE σ.E r=some (.own α dα xs):=by exact Dq0) (hoff:off=j*Dat.sz α:=by rfl) (hcs:(fun u=>elW (nth xs j) u s.fk 0)=cs:=by rfl) (ht:Qil Tryz.prog t (Dat.sz α)=true:=by kernel_rfl) (hd:Nat.blt d σ.n=true:=by rfl):
  OpSn (cx fn Bz S1 w1 hk1 hs1 hd1) σ all ⟨some d,.load t x,ty,pos,after,none⟩ (fun u=>put d (.ag (cs u)) σ):=by subst hcs;exact OpSn.ldW j hj hx hoff hr ht hd
theorem oW {o:Oper} {r:List Oper} {cs:(Nat→Option Addr×Nat×Nat)→List V} (ho:OpSn (cx fn Bz S1 w1 hk1 hs1 hd1) σ all o (fun u=>put d (.ag (cs u)) σ)) (h: ∀ u:Nat→Option Addr×Nat×Nat,Run (cx fn Bz S1 w1 hk1 hs1 hd1) res (put d (.ag (cs u)) σ) (.ops r all::k)):Run (cx fn Bz S1 w1 hk1 hs1 hd1) res σ (.ops (o::r) all::k):=Run.opn ho h
end
end
section
section
variable {c:Cx} {σ:St} {all:Array Oper} {ty:TypeId} {pos:String} {after:Array Edge} {d:Nat}
theorem OpS.oidxG {α:Type} {dα:Dat α} {t e by' r len:Nat} {x y:Operand} {i:Int} {k j:Nat} {want B:Bool} {xs:List α} (hB:gB σ.ρ all j want=some B) (hx:evG σ.ρ x=some (.sl r len)) (hy:evG σ.ρ y=some (.v (.int .i64 i))) (hside:B=true→Qf8 B True σ.ρ [x,y]) (hp:lkE σ.E r=some (.own α dα xs)) (hl:len=xs.length) (ht:c.ti t= .sl e (Dat.sz α) by') (hd:Nat.blt d σ.n=true) (hi:B=true→i=k) (hk:k<xs.length):
  OpS c σ all ⟨some d,.indexAddr t x y,ty,pos,after,some (j,want)⟩ (put d (.gd B (.pt r (k*Dat.sz α))) σ):=by
 intro θ a w h K Q hK
 have hw:=Q53 h (o:=⟨some d,.indexAddr t x y,ty,pos,after,some (j,want)⟩) rfl hB
 rw[hw]
 subst hl
 obtain⟨S,w1,hh⟩:=h.heap
 obtain⟨l,hl,hown⟩:=hh.own hp
 obtain⟨b,hA⟩: ∃ b,l.A=some ⟨b,0,none⟩:=by
  rcases hown with ⟨h1,h2,_⟩ | ⟨g,cap,arr,T,Fs,h1,_⟩
  ·rw[h2] at hk;exact absurd hk (by simp)
  ·injection h1 with h1 _ _
   exact⟨g,h1⟩
 have hti:=c.tiok t
 rw[ht] at hti
 simp only[TI.chk,Bool.and_eq_true] at hti
 have fin: ∀ u,(V.gd B (.pt r (k*Dat.sz α))).con θ=some u→K (a.put (some d) u) w:=fun u hu=>hK [] _ _ (h.put hd hu).app0
 cases B with
 | false =>
  rw[if_neg (by simp)]
  exact fin _ rfl
 | true =>
  rw[if_pos rfl]
  have hi:=hi rfl
  subst hi
  have h1:=Qho h.env rfl (hside rfl) x (by simp) _ hx
  have h2:=Qho h.env rfl (hside rfl) y (by simp) _ hy
  have hc:=h1.1
  simp only[V.con,hl,Option.some.injEq] at hc
  have hx':ev? (selfρ a) x=_:=h1.2
  rw[←hc,hA] at hx'
  have hy':ev? (selfρ a) y=some (.int .i64 (k:Int)):=by rw[h2.2,←h2.1];rfl
  have hyy:=Qkf (P:=c.P) (w:=w) (ty:=ty) h.env.env hx' hy' (by omega) (by omega) hti.2
  unfold Oper.wp
  rw[hyy]
  refine fin _ ?_
  obtain⟨A,cap,F⟩:=l
  simp only at hA
  subst hA
  simp only[V.con,hl,Addr.add_zero',Int.toNat_natCast]
theorem OpS.ldFG {α:Type} {dα:Dat α} [s:@Str α dα] [Inhabited α] {t:Nat} {x:Operand} {r off k f j:Nat} {want B:Bool} {xs:List α} {fl:Fk α} (hB:gB σ.ρ all j want=some B) (hk:k<xs.length) (hx:evG σ.ρ x=some (.pt r off)) (hside:B=true→Qf8 B True σ.ρ [x]) (hoff:off=k*Dat.sz α+f) (hr:lkE σ.E r=some (.own α dα xs)) (hf:s.fk[f]?=some fl) (hfl:fl.isFlat=true) (ht:Qlc c.P t=true) (hd:Nat.blt d σ.n=true):
  OpS c σ all ⟨some d,.load t x,ty,pos,after,some (j,want)⟩ (put d (.gd B (fkV (nth xs k) fl)) σ):=by
 intro θ a w h K Q hK
 have hw:=Q53 h (o:=⟨some d,.load t x,ty,pos,after,some (j,want)⟩) rfl hB
 rw[hw]
 subst hoff
 obtain⟨S,w1,hh⟩:=h.heap
 obtain⟨l,g,cs,G,hl,hA,hc,_,ho⟩:=hh.elem hr hk
 obtain⟨v,G',hv,how⟩:=Yc7 ho hf
 have fin: ∀ u,(V.gd B (fkV (nth xs k) fl)).con θ=some u→K (a.put (some d) u) w:=fun u hu=>hK [] _ _ (h.put hd hu).app0
 cases B with
 | false =>
  rw[if_neg (by simp)]
  exact fin _ rfl
 | true =>
  rw[if_pos rfl]
  have h1:=Qho h.env rfl (hside rfl) x (by simp) _ hx
  obtain⟨l',A',h1',h2',hp⟩:=Qqz h1.1
  rw[hl] at h1';cases h1'
  rw[hA] at h2';cases h2'
  have hx':ev? (selfρ a) x=some (.pointer (some (((⟨g,0,none⟩:Addr).add (k*Dat.sz α)).add f))):=by rw[h1.2,hp,Qns]
  have hyy:=Qnt (P:=c.P) (ty:=ty) h.env.env hx' hc hv ht
  unfold Oper.wp
  rw[hyy]
  exact fin _ (Qj7 hfl how)
theorem OpS.field {t f o fd sz:Nat} {x:Operand} {cs:List V} {v:V} (hx:ev σ.ρ x=some (.ag cs)) (hv:cs[o]?=some v) (hf:Qa6 c.P t f o fd sz=true) (h1:Qlc c.P fd=true) (hd:Nat.blt d σ.n=true):
  OpS c σ all ⟨some d,.field t x f,ty,pos,after,none⟩ (put d v σ):=
 OpS.of fun θ a w h K Q hK => by
  have hc:=h.env.con hx
  simp only[V.con,Option.map_eq_some_iff] at hc
  obtain⟨us,hus,hp⟩:=hc
  obtain⟨u,hu,hcu⟩:=Qql hus hv
  obtain⟨fs,fdd,hs,hg,ho,ht,_⟩:=Qq5 hf
  have ha:(isAgg fdd.type).run c.P w= .ok false w:=by rw[ht];exact(Qp5 h1 w).1
  have hrun:(execOp a.eval ⟨some d,.field t x f,ty,pos,after,none⟩).run c.P w= .ok (.value u) w:=by
   simp[execOp,←hp,Instr.field,run_underlying hs,hg,Go.part,ha,asAgg,ho,hu]
  unfold Oper.wp
  rw[hrun,Oper.upon_value]
  exact hK [] _ _ (h.put hd hcu).app0
end
section
variable {fn:Func} {Bz:Bs} {S1:Nat→Prop} {w1:World} {hk1:Keep Bz.S0 Bz.w w1} {hs1: ∀ b,Bz.S0 b→S1 b} {hd1: ∀ b,S1 b→b<w1.heap.size} {σ:St} {all:Array Oper} {ty:TypeId} {pos:String} {after:Array Edge} {d:Nat}
theorem oiG {α:Type} {dα:Dat α} {t e by' r len j:Nat} {x y:Operand} {i:Int} {want B:Bool} {xs:List α} (k:Nat) (hk:k<xs.length) (hB:gB σ.ρ all j want=some B:=by exact Dq0) (hx:evG σ.ρ x=some (.sl r len):=by exact Dq0) (hy:evG σ.ρ y=some (.v (.int .i64 i)):=by exact Dq0)
  (hside:B=true→Qf8 B True σ.ρ [x,y]:=by intro h;first | exact trivial | (dsimp only[Qf8,sdV,ev,lk,cond,Nat.beq,V.side,List.toList_toArray];(repeat' apply And.intro)<;>first | exact trivial | exact h | exact fun h=>h | exact(Bool.and_eq_true_iff.1 h).1 | exact(Bool.and_eq_true_iff.1 h).2 | exact fun h=>(Bool.and_eq_true_iff.1 h).1 | exact fun h=>(Bool.and_eq_true_iff.1 h).2 | exact fun h=>(Bool.and_eq_true_iff.1 (Bool.and_eq_true_iff.1 h).1).1 | (intro h;simp_all)))
  (hp:lkE σ.E r=some (.own α dα xs):=by exact Dq0) (hl:len=xs.length:=by first | rfl | simp only[List.length_set] | exact om) (hi:B=true→i=k:=by intro _;rfl) (ht:ti t= .sl e (Dat.sz α) by':=by rfl) (hd:Nat.blt d σ.n=true:=by rfl):
  OpS (cx fn Bz S1 w1 hk1 hs1 hd1) σ all ⟨some d,.indexAddr t x y,ty,pos,after,some (j,want)⟩ (put d (.gd B (.pt r (k*Dat.sz α))) σ):=OpS.oidxG hB hx hy hside hp hl ht hd hi hk
theorem lfG {α:Type} {dα:Dat α} [s:@Str α dα] [Inhabited α] {t r off j:Nat} {x:Operand} {want B:Bool} {xs:List α} {fl:Fk α} {v:V} (k f:Nat) (hk:k<xs.length) (hB:gB σ.ρ all j want=some B:=by exact Dq0) (hx:evG σ.ρ x=some (.pt r off):=by exact Dq0) (hside:B=true→Qf8 B True σ.ρ [x]:=by intro h;first | exact trivial | (dsimp only[Qf8,sdV,ev,lk,cond,Nat.beq,V.side,List.toList_toArray];(repeat' apply And.intro)<;>first | exact trivial | exact h | exact fun h=>h | exact(Bool.and_eq_true_iff.1 h).1 | exact(Bool.and_eq_true_iff.1 h).2 | exact fun h=>(Bool.and_eq_true_iff.1 h).1 | exact fun h=>(Bool.and_eq_true_iff.1 h).2 | exact fun h=>(Bool.and_eq_true_iff.1 (Bool.and_eq_true_iff.1 h).1).1 | (intro h;simp_all)))
  (hr:lkE σ.E r=some (.own α dα xs):=by exact Dq0) (hoff:off=k*Dat.sz α+f:=by rfl) (hf:s.fk[f]?=some fl:=by rfl) (hfl:fl.isFlat=true:=by rfl) (hv:fkV (nth xs k) fl=v:=by dsimp only[fkV]<;>rfl) (ht:Qlc Tryz.prog t=true:=by kernel_rfl) (hd:Nat.blt d σ.n=true:=by rfl):
  OpS (cx fn Bz S1 w1 hk1 hs1 hd1) σ all ⟨some d,.load t x,ty,pos,after,some (j,want)⟩ (put d (.gd B v) σ):=hv▸OpS.ldFG hB hk hx hside hoff hr hf hfl ht hd
theorem fd {t f fdt sz:Nat} {x:Operand} {cs:List V} {v:V} (o:Nat) (hx:ev σ.ρ x=some (.ag cs):=by exact Dq0) (hv:cs[o]?=some v:=by rfl) (hf:Qa6 Tryz.prog t f o fdt sz=true) (h1:Qlc Tryz.prog fdt=true:=by kernel_rfl) (hd:Nat.blt d σ.n=true:=by rfl):
  OpS (cx fn Bz S1 w1 hk1 hs1 hd1) σ all ⟨some d,.field t x f,ty,pos,after,none⟩ (put d v σ):=OpS.field hx hv hf h1 hd
theorem onS {K:Act→World→Prop} {E0 M:List (Nat×En)} {m0:Nat} {ops:Array Oper} {listed:Array Bool} {σ1 σ2:St} (i:Nat) (is:List Nat) {n n':Nat} (ho:OpS (cx fn Bz S1 w1 hk1 hs1 hd1) σ ops (opAt ops.toList i) σ1) (h:RunD (cx fn Bz S1 w1 hk1 hs1 hd1) K E0 m0 ops n M (listed.setIfInBounds i true) σ2) (hn:n'=n+1:=by rfl) (hi:nthO ops.toList i=some (opAt ops.toList i):=by rfl) (hs:σ1=σ2:=by dsimp only[Qcp,Qle,Qe6,setV,fwE,En.fw,V.fw,fwL,nthG,pickE,Qqx,nthE,Nat.pred,Qdt,Qf1,Qf0,Qdm,rnR,rnE,V.rn,rnL,En.rn,Qhd,memN,V.names.namesL,V.names,Qey,Qdl,put,putE,setE,Qkk,Qgg,Qh1,opn,nsl,id,cond,Nat.beq,Nat.reduceAdd,Nat.add_zero,Nat.zero_add,List.cons_append,List.nil_append,List.append_nil,List.append,Qoz,List.take,List.drop,List.take_succ_cons,List.take_zero,List.take_nil,List.drop_succ_cons,List.drop_zero,List.drop_nil,V.cells,Nat.blt,Nat.ble,List.length_cons,List.length_nil,Str.fk]) (hp:is.map (nthE σ2.E)=E0.map some:=by rfl) (hr:Region.ready .any ops listed=[i]:=by kernel_rfl) (hd:is.Nodup:=by decide):RunD (cx fn Bz S1 w1 hk1 hs1 hd1) K E0 m0 ops n' M listed σ:=by subst hs;subst hn;exact RunD.only i is hr hi ho hp hd h
end
section
variable {fn:Func} {Bz:Bs} {S1:Nat→Prop} {w1:World} {hk1:Keep Bz.S0 Bz.w w1} {hs1: ∀ b,Bz.S0 b→S1 b} {hd1: ∀ b,S1 b→b<w1.heap.size} {K:Act→World→Prop} {E0:List (Nat×En)} {m0:Nat} {ops:Array Oper} {n:Nat} {M:List (Nat×En)} {listed:Array Bool} {σ:St}
theorem Qfv {P:Prop} (nn n2:Nat) (is2:List Nat) (σ0:St) {σ2:St} (e:σ0=σ2) (h:P→RunD (cx fn Bz S1 w1 hk1 hs1 hd1) K E0 m0 ops n2 M (Ql6 (Array.replicate nn false) is2) σ2) (hk:(P→RunD (cx fn Bz S1 w1 hk1 hs1 hd1) K E0 m0 ops n2 M (Ql6 (Array.replicate nn false) is2) σ2)→RunD (cx fn Bz S1 w1 hk1 hs1 hd1) K E0 m0 ops n M listed σ):RunD (cx fn Bz S1 w1 hk1 hs1 hd1) K E0 m0 ops n M listed σ:=hk h
end
end
end Go.Proofs.YtppialklomgajaaGreatDoor.Fw
