/-
  The texts N1, NP, Sy2, U1, U2, U3, UH, U0, BI, UP, U4, BB, BC, Am26, Sy8, UR, U5, B8, U6, PU, U7, PW of this proof, one behind the other: what each proves stands at its head. No condition.
-/
import Derived.Lib.ShelfFacts
import Derived.Lib.Overlaps
import Derived.Lib.AppendZerosOnto
import Derived.Shelf.RegionOpenPlain
import Derived.WalkKit
import Derived.Lib.SliceRun
import Derived.Laws.Externs
import Derived.Laws.IdiomCopy
import Derived.KernelRfl
import Derived.Lib.UnsafeStr
import Derived.Lib.Builder
import Derived.Lib.FrozenHead
import Derived.Lib.AppendZeros
import Derived.Test.YtppialklomgajaaGreatDoorSTA
import Derived.Test.YtppialklomgajaaGreatDoorSTB
import Derived.Test.YtppialklomgajaaGreatDoorSTC
set_option linter.unusedVariables false
set_option linter.unusedSimpArgs false
set_option maxRecDepth 100000
namespace Go.Proofs.YtppialklomgajaaGreatDoor.Fw
section
open Go.RowKit
theorem Qxk : FnOk Tryz.prog 158 := ⟨_, Tryz.func158, rfl, by kernel_rfl⟩
theorem Qxj : FnOk Tryz.prog 174 := ⟨_, Tryz.func174, rfl, by kernel_rfl⟩
theorem Ykj : FnOk Tryz.prog 175 := ⟨_, Tryz.func175, rfl, by kernel_rfl⟩
theorem Ycs : FnOk Tryz.prog 182 := ⟨_, Tryz.func182, rfl, by kernel_rfl⟩
theorem Ynb : FnOk Tryz.prog 226 := ⟨_, Tryz.func226, rfl, by kernel_rfl⟩
theorem Ykb : FnOk Tryz.prog 227 := ⟨_, Tryz.func227, rfl, by kernel_rfl⟩
theorem Ym8 : FnOk Tryz.prog 243 := ⟨_, Tryz.func243, rfl, by kernel_rfl⟩
def Qav (p0 : ByteArray) : Int × Bool := bif ((!((atoi p0).2)) || (!(Qbz ((atoi p0).1) 0 1000000000))) || (!decide ((Qbo ((atoi p0).1)) = p0)) then (0, false) else ((atoi p0).1, true)
theorem Qjt (p0 : ByteArray) (hq : p0.size ≤ 281474976710656) : CTs 218 [.o (.c (.string p0))] [Re.c (.int .i64 ((Qav p0).1)), Re.c (.bool ((Qav p0).2))] := by
 refine en Tryz.func218 Tryz.ntmps218 fun w hG hgd => ?_
 have hM := Qav.eq_1 p0
 refine ad 8 ?_
 refine ce (Yms p0 (by first | assumption | exact om)) Ym8 fun u1 hu1 => ?_
 refine ad 10 ?_
 refine op (er hu1) ?_
 refine ad 1 ?_
 refine ag 1 ?_
 refine op (cG (hct := fun hB => (Qfv ((atoi p0).1) 0 1000000000)) (hfn := Qxk)) ?_
 refine ag 2 ?_
 refine ad 1 ?_
 refine ag 1 ?_
 refine op (cG (hct := fun hB => (Qh0 ((atoi p0).1) (Yjp _))) (hfn := Ycs)) ?_
 refine ag 3 ?_
 refine ad 1 ?_
 refine cd (fun h2 => ?_) (fun h2 => ?_)
 ·
  have hM := hM.trans (bt h2)
  refine ad 5 ?_
  exact rz (rs := [.tmp 2, .tmp 3]) (congrArg (fun x => [Re.c (.int .i64 x.1), Re.c (.bool x.2)]) hM)
 ·
  have hM := hM.trans (bf h2)
  have th2_1 := Qfw (by have hq := (Bool.or_eq_false_iff.1 (Bool.or_eq_false_iff.1 h2).1).2; simpa using hq)
  refine ad 7 ?_
  exact rz (rs := [.tmp 2, .tmp 3]) (congrArg (fun x => [Re.c (.int .i64 x.1), Re.c (.bool x.2)]) hM)
def Qbv (p0 : ByteArray) : Nat → Int → Nat → Int × Bool
 | 0, v4, i => bif (decide (v4 > 1000000000)) || (!decide ((Qbn v4) = p0)) then (0, false) else (v4, true)
 | n + 1, v4, i => bif (decide (((Qak p0 i).toNat : Int) < 48)) || (decide (((Qak p0 i).toNat : Int) > 57)) then (0, false) else (Qbv p0 n (IntKind.i64.wrap ((IntKind.i64.wrap ((IntKind.i64.wrap (10 * v4)) + (IntKind.i64.wrap ((Qak p0 i).toNat : Int)))) - 48)) (i + 1))
def Qan (p0 : ByteArray) : Int × Bool := bif decide ((p0.size : Int) > 10) then (0, false) else (Qbv p0 (p0.size - 0) 0 0)
theorem Qjs (p0 : ByteArray) (hz_p0 : p0.size ≤ 9223372036854775807) : CTs 173 [.o (.c (.string p0))] [Re.c (.int .i64 ((Qan p0).1)), Re.c (.bool ((Qan p0).2))] := by
 refine en Tryz.func173 Tryz.ntmps173 fun w hG hgd => ?_
 have hM := Qan.eq_1 p0
 refine ad 12 ?_
 refine cd (fun h1 => ?_) (fun h1 => ?_)
 ·
  have hM := hM.trans (bt h1)
  refine ad 5 ?_
  exact rz (rs := [.tmp 2, .tmp 3]) (congrArg (fun x => [Re.c (.int .i64 x.1), Re.c (.bool x.2)]) hM)
 ·
  have hM := hM.trans (bf h1)
  refine ad 11 ?_
  refine Run.loopM (ι := Int × Nat) (fun s => Qbv p0 (p0.size - s.2) s.1 s.2) (fun s => ⟨42, 0, [(0, .v (.string p0)), (4, .v (.int .i64 s.1)), (5, .v (.int .i64 (s.2 : Int)))], []⟩) (fun s => s.2 ≤ p0.size ∧ I64 s.1) (fun s => p0.size - s.2) (0, 0) [] [] hM (by exact ⟨by (try dsimp only); first | omega | exact trivial, (gi 0)⟩) su (by decide) ?_
  rintro ⟨v4, i⟩ hv hE
  try dsimp only at hE
  obtain ⟨hi, hg_v4⟩ := hv
  try dsimp only at hi hg_v4
  refine ad 8 ?_
  refine cd (fun h2 => ?_) (fun h2 => ?_)
  ·
   have h2l : i < p0.size := by have := of_decide_eq_true h2; omega
   have hM := hE.trans ((congrArg (fun n => Qbv p0 n v4 i) (show p0.size - i = (p0.size - (i + 1)) + 1 by omega)).trans (Qbv.eq_2 _ _ _ _))
   refine ad 8 ?_
   refine op (sx (s := p0) i om) ?_
   refine ad 2 ?_
   refine ag 2 ?_
   refine op (sG (s := p0) i (hk := fun hB => by (try simp at hB); omega)) ?_
   refine ag 2 ?_
   refine ad 1 ?_
   refine cd (fun h3 => ?_) (fun h3 => ?_)
   ·
    have hM := hM.trans (bt h3)
    refine ad 5 ?_
    exact rz (rs := [.tmp 2, .tmp 3]) (congrArg (fun x => [Re.c (.int .i64 x.1), Re.c (.bool x.2)]) hM)
   ·
    have hM := hM.trans (bf h3)
    refine ad 6 ?_
    refine op (sx (s := p0) i om) ?_
    refine ad 9 ?_
    rw [Qc9 (i := i) (by first | omega | exact om)]
    refine ad 2 ?_
    exact Run.again (IntKind.i64.wrap ((IntKind.i64.wrap ((IntKind.i64.wrap (10 * v4)) + (IntKind.i64.wrap ((Qak p0 i).toNat : Int)))) - 48), (i + 1)) [] [] ⟨by exact ⟨by (try dsimp only); first | omega | exact trivial, (Qk1 _)⟩, hM⟩ rfl (by show _ - _ < _ - _; (try dsimp only); omega) su (by decide)
  ·
   have h2l : ¬ (i < p0.size) := by have := of_decide_eq_false h2; omega
   have hM := hE.trans ((congrArg (fun n => Qbv p0 n v4 i) (show p0.size - i = 0 by omega)).trans (Qbv.eq_1 _ _ _))
   refine ad 7 ?_
   refine ag 1 ?_
   refine op (cG (hct := fun hB => (Qfi v4 hg_v4)) (hfn := Qxj)) ?_
   refine ag 3 ?_
   refine ad 1 ?_
   refine cd (fun h4 => ?_) (fun h4 => ?_)
   ·
    have hM := hM.trans (bt h4)
    refine ad 5 ?_
    exact rz (rs := [.tmp 2, .tmp 3]) (congrArg (fun x => [Re.c (.int .i64 x.1), Re.c (.bool x.2)]) hM)
   ·
    have hM := hM.trans (bf h4)
    refine ad 7 ?_
    exact rz (rs := [.tmp 2, .tmp 3]) (congrArg (fun x => [Re.c (.int .i64 x.1), Re.c (.bool x.2)]) hM)
def Qck (p0 : ByteArray) : ByteArray × Bool := bif ((!((Qf3 p0).2)) || (decide ((((Qf3 p0).1).length : Int) > 20000))) || (!decide ((Qid ((Qf3 p0).1)) = p0)) then (⟨#[]⟩, false) else (bstr ((Qf3 p0).1), true)
theorem Ql2 (p0 : ByteArray) (hq : p0.size ≤ 281474976710656) : CTs 180 [.o (.c (.string p0))] [Re.c (.string ((Qck p0).1)), Re.c (.bool ((Qck p0).2))] := by
 refine en Tryz.func180 Tryz.ntmps180 fun w hG hgd => ?_
 have hM := Qck.eq_1 p0
 refine ad 8 ?_
 refine ce (Yi6 p0 (by first | assumption | exact om)) Ynb fun u1 hu1 => ?_
 refine ad 10 ?_
 refine op (er hu1) ?_
 refine ad 1 ?_
 refine ag 4 ?_
 refine ad 1 ?_
 refine ag 1 ?_
 refine op (cG (hct := fun hB => (Yad ((Qf3 p0).1) (by first | (rw [Qbf]; exact om) | (simp at hB; omega)))) (hfn := Ykb)) ?_
 refine ag 3 ?_
 refine ad 1 ?_
 refine cd (fun h2 => ?_) (fun h2 => ?_)
 ·
  have hM := hM.trans (bt h2)
  refine ad 5 ?_
  exact rz (rs := [.tmp 2, .tmp 3]) (congrArg (fun x => [Re.c (.string x.1), Re.c (.bool x.2)]) hM)
 ·
  have hM := hM.trans (bf h2)
  refine ad 4 ?_
  refine op (ts ((Qf3 p0).1)) ?_
  refine ad 3 ?_
  exact rz (rs := [.tmp 2, .tmp 3]) (congrArg (fun x => [Re.c (.string x.1), Re.c (.bool x.2)]) hM)
theorem Qjc (p0 : ByteArray) : (Qck p0).1.size ≤ maxLen := by
 unfold Qck
 cases hc : (((!((Qf3 p0).2)) || (decide ((((Qf3 p0).1).length : Int) > 20000))) || (!decide ((Qid ((Qf3 p0).1)) = p0))) with
 | true => exact Nat.zero_le _
 | false =>
  have h1 := (Bool.or_eq_false_iff.1 (Bool.or_eq_false_iff.1 hc).1).2
  have h2 : (Qf3 p0).1.length ≤ 20000 := by simp at h1; omega
  show ((Qf3 p0).1.toArray).size ≤ maxLen
  rw [List.size_toArray]
  unfold maxLen
  omega
def Qam (p0 : UInt8) : Int := bif (decide ((p0.toNat : Int) ≥ 48)) && (decide ((p0.toNat : Int) ≤ 57)) then (IntKind.i64.wrap ((IntKind.i64.wrap (p0.toNat : Int)) - 48)) else (bif (decide ((p0.toNat : Int) ≥ 97)) && (decide ((p0.toNat : Int) ≤ 102)) then (IntKind.i64.wrap ((IntKind.i64.wrap ((IntKind.i64.wrap (p0.toNat : Int)) - 97)) + 10)) else (-1))
theorem Qly (p0 : UInt8) : CTs 175 [.o (.c (.int .u8 p0.toNat))] [Re.c (.int .i64 (Qam p0))] := by
 refine en Tryz.func175 Tryz.ntmps175 fun w hG hgd => ?_
 have hM := Qam.eq_1 p0
 refine ad 10 ?_
 refine ag 3 ?_
 refine ad 1 ?_
 refine cd (fun h1 => ?_) (fun h1 => ?_)
 ·
  have hM := hM.trans (bt h1)
  refine ad 7 ?_
  exact rz (rs := [.tmp 2]) (congrArg (fun x => [Re.c (.int .i64 x)]) hM)
 ·
  have hM := hM.trans (bf h1)
  refine ad 7 ?_
  refine ag 3 ?_
  refine ad 1 ?_
  refine cd (fun h2 => ?_) (fun h2 => ?_)
  ·
   have hM := hM.trans (bt h2)
   refine ad 8 ?_
   exact rz (rs := [.tmp 2]) (congrArg (fun x => [Re.c (.int .i64 x)]) hM)
  ·
   have hM := hM.trans (bf h2)
   refine ad 5 ?_
   exact rz (rs := [.tmp 2]) (congrArg (fun x => [Re.c (.int .i64 x)]) hM)
def Qcn (p0 : ByteArray) (k_1 : (List UInt8) → (ByteArray × Bool)) : Nat → (List UInt8) → Nat → ByteArray × Bool
 | 0, v4_1, i_1 => k_1 v4_1
 | n_1 + 1, v4_1, i_1 => bif decide ((i_1 : Int) < (p0.size : Int)) then (bif (decide ((Qam (Qak p0 i_1)) < 0)) || (decide ((Qam (Qak p0 (i_1 + 1))) < 0)) then (⟨#[]⟩, false) else (Qcn p0 k_1 n_1 (v4_1 ++ [u8of (IntKind.i64.wrap ((IntKind.i64.wrap (16 * (Qam (Qak p0 i_1)))) + (Qam (Qak p0 (i_1 + 1)))))]) (i_1 + 2))) else (k_1 v4_1)
theorem Qwy (p0 : ByteArray) (k_1 : (List UInt8) → (ByteArray × Bool)) (fu : Nat) (v4_1 : List UInt8) (i_1 : Nat) (h : (decide ((i_1 : Int) < (p0.size : Int))) = false) : Qcn p0 k_1 fu v4_1 i_1 = k_1 v4_1 := by
 cases fu with
 | zero => rfl
 | succ n => exact (bf h)
def Qcr (p0 : ByteArray) : ByteArray × Bool := bif (decide ((p0.size : Int) > 40000)) || (!decide ((Int.tmod (p0.size : Int) 2) = 0)) then (⟨#[]⟩, false) else (Qcn p0 (fun e => (bstr e, true)) (p0.size - 0) ([] : List UInt8) 0)
theorem Qlz (p0 : ByteArray) : CTs 106 [.o (.c (.string p0))] [Re.c (.string ((Qcr p0).1)), Re.c (.bool ((Qcr p0).2))] := by
 refine en Tryz.func106 Tryz.ntmps106 fun w hG hgd => ?_
 have hM := Qcr.eq_1 p0
 refine ad 12 ?_
 refine ag 2 ?_
 refine op (rG) ?_
 refine ag 2 ?_
 refine ad 1 ?_
 refine cd (fun h1 => ?_) (fun h1 => ?_)
 ·
  have hM := hM.trans (bt h1)
  refine ad 5 ?_
  exact rz (rs := [.tmp 2, .tmp 3]) (congrArg (fun x => [Re.c (.string x.1), Re.c (.bool x.2)]) hM)
 ·
  have hM := hM.trans (bf h1)
  refine ad 3 ?_
  refine op (l0) ?_
  refine ad 8 ?_
  have he : p0.size % 2 = 0 := Yhs (Bool.or_eq_false_iff.1 h1).2
  have hsz : p0.size ≤ 40000 := by have := (Bool.or_eq_false_iff.1 h1).1; simp at this; omega
  refine li 0 (d := instDatUInt8) ([] : List UInt8) ?_
  refine Run.loopkM (ι := Nat × (List UInt8) × Nat) (κ := (List UInt8)) (fun k s => Qcn p0 k s.1 s.2.1 s.2.2) (fun s => ⟨49, 1, [(0, .v (.string p0)), (4, .sl 0 s.2.1.length), (5, .v (.int .i64 (s.2.2 : Int)))], [(0, .own UInt8 instDatUInt8 s.2.1)]⟩) (fun s => p0.size - s.2.2 ≤ s.1 ∧ s.2.2 % 2 = 0 ∧ s.2.2 ≤ p0.size ∧ s.2.1.length ≤ s.2.2) (fun s => s.1) (fun e => ⟨49, 1, [(4, .sl 0 e.length)], [(0, .own UInt8 instDatUInt8 e)]⟩) (fun e => True) (p0.size - 0, ([] : List UInt8), 0) [0] [0] hM (by refine ⟨by (try dsimp only); omega, rfl, by (try dsimp only); omega, by simp⟩) su (by decide) ?_ ?_
  ·
   rintro ev4_1 hv hM
   try dsimp only at hM hv ⊢
   refine ad 3 ?_
   refine op (ts ev4_1) ?_
   refine ad 3 ?_
   exact rz (rs := [.tmp 2, .tmp 3]) (congrArg (fun x => [Re.c (.string x.1), Re.c (.bool x.2)]) hM)
  ·
   intro k_1 hk_1
   rintro ⟨fu_1, v4_1, i_1⟩ hv_1 hE
   try dsimp only at hE
   obtain ⟨hi_1, hv_1_0, hv_1_1, hv_1_2⟩ := hv_1
   try dsimp only at hi_1 hv_1_0 hv_1_1 hv_1_2
   refine ad 8 ?_
   refine cd (fun h2 => ?_) (fun h2 => ?_)
   ·
    obtain ⟨n_1, rfl⟩ : ∃ n, fu_1 = n + 1 := ⟨fu_1 - 1, by have := h2; have := om (p := 0 < p0.size - i_1); omega⟩
    have hM := hE.trans ((Qcn.eq_2 _ _ _ _ _).trans (bt h2))
    refine ad 7 ?_
    refine op (sx (s := p0) i_1 om) ?_
    refine op (cl (Qly (Qak p0 i_1)) Ykj) ?_
    refine ad 7 ?_
    rw [Qc9 (i := i_1) (by first | omega | exact om)]
    refine op (sx (s := p0) (i_1 + 1) om) ?_
    refine op (cl (Qly (Qak p0 (i_1 + 1))) Ykj) ?_
    refine ad 8 ?_
    refine ag 3 ?_
    refine ad 1 ?_
    refine cd (fun h3 => ?_) (fun h3 => ?_)
    ·
     have hM := hM.trans (bt h3)
     refine ad 5 ?_
     exact rz (rs := [.tmp 2, .tmp 3]) (congrArg (fun x => [Re.c (.string x.1), Re.c (.bool x.2)]) hM)
    ·
     have hM := hM.trans (bf h3)
     refine ad 9 ?_
     refine op (ap [u8of (IntKind.i64.wrap ((IntKind.i64.wrap (16 * (Qam (Qak p0 i_1)))) + (Qam (Qak p0 (i_1 + 1)))))] (hg := gdt) (hb := by simp only [List.length_cons, List.length_nil]; first | omega | exact om)) ?_
     refine ad 6 ?_
     rw [Ymf (i := i_1) (by first | omega | exact om)]
     refine ad 2 ?_
     exact Run.again (n_1, (v4_1 ++ [u8of (IntKind.i64.wrap ((IntKind.i64.wrap (16 * (Qam (Qak p0 i_1)))) + (Qam (Qak p0 (i_1 + 1)))))]), (i_1 + 2)) [2] [1] ⟨by refine ⟨by (try dsimp only); omega, by (try dsimp only); omega, by (try dsimp only); first | omega | exact om, by simp only [List.length_append, List.length_cons, List.length_nil]; omega⟩, hM⟩ rfl (by exact Nat.lt_succ_self _) su (by decide)
   ·
    have hM := hE.trans (Qwy p0 k_1 fu_1 v4_1 i_1 h2)
    refine ad 1 ?_
    exact Run.exitkM hk_1 v4_1 [0] [0] hM (by trivial) su (by decide)
theorem Qpc (p0 : ByteArray) : ∀ fu v i, ((Qcn p0 (fun e => (bstr e, true)) fu v i).1).size ≤ v.length + fu := by
 intro fu
 induction fu with
 | zero =>
  intro v i
  show (v.toArray).size ≤ _
  rw [List.size_toArray]
  omega
 | succ n ih =>
  intro v i
  rw [Qcn]
  cases (decide ((i : Int) < (p0.size : Int)))
  ·show (v.toArray).size ≤ _
   rw [List.size_toArray]
   omega
  ·show (bif _ then _ else _ : ByteArray × Bool).1.size ≤ _
   cases (decide ((Qam (Qak p0 i)) < 0)) || (decide ((Qam (Qak p0 (i + 1))) < 0))
   ·refine Nat.le_trans (ih _ _) ?_
    simp only [List.length_append, List.length_cons, List.length_nil]
    omega
   ·exact Nat.zero_le _
theorem Qi0 (p0 : ByteArray) : (Qcr p0).1.size ≤ maxLen := by
 unfold Qcr
 cases hc : (decide ((p0.size : Int) > 40000)) || (!decide (Int.tmod (p0.size : Int) 2 = 0)) with
 | true => exact Nat.zero_le _
 | false =>
  have h1 := (Bool.or_eq_false_iff.1 hc).1
  have h2 : p0.size ≤ 40000 := by simp at h1; omega
  have := Qpc p0 (p0.size - 0) [] 0
  rw [List.length_nil] at this
  show ((Qcn p0 (fun e => (bstr e, true)) (p0.size - 0) [] 0).1).size ≤ maxLen
  unfold maxLen
  omega
def Qbx (p0 : List ByteArray) (p1 : List ByteArray) : Nat → Nat → Bool
 | 0, i => true
 | n + 1, i => bif !decide ((nth p0 i) = (nth p1 i)) then false else (Qbx p0 p1 n (i + 1))
def Qeg (p0 : List ByteArray) (p1 : List ByteArray) : Bool := bif !decide ((p0.length : Int) = (p1.length : Int)) then false else (Qbx p0 p1 (p0.length - 0) 0)
theorem Ql1 (p0 : List ByteArray) (p1 : List ByteArray) : CTs 99 [.o (.sl ByteArray instDatByteArray p0), .o (.sl ByteArray instDatByteArray p1)] [Re.c (.bool (Qeg p0 p1))] := by
 refine en Tryz.func99 Tryz.ntmps99 fun w hG hgd => ?_
 obtain ⟨hg_p0, hg_p1, _⟩ := hgd
 have hl_p0 : p0.length ≤ 9223372036854775807 := hg_p0.1
 have hl_p1 : p1.length ≤ 9223372036854775807 := hg_p1.1
 have hM := Qeg.eq_1 p0 p1
 refine ad 13 ?_
 refine cd (fun h1 => ?_) (fun h1 => ?_)
 ·
  have hM := hM.trans (bt h1)
  refine ad 4 ?_
  exact rz (rs := [.tmp 4]) (congrArg (fun x => [Re.c (.bool x)]) hM)
 ·
  have hM := hM.trans (bf h1)
  refine ad 9 ?_
  refine Run.loopM (ι := Nat) (fun s => Qbx p0 p1 (p0.length - s) s) (fun s => ⟨26, 2, [(0, .sl 0 p0.length), (1, .sl 1 p1.length), (12, .v (.int .i64 (p0.length : Int))), (13, .v (.int .i64 (s : Int)))], [(0, .ros ByteArray instDatByteArray p0), (1, .ros ByteArray instDatByteArray p1)]⟩) (fun s => s ≤ p0.length) (fun s => p0.length - s) 0 [0, 1] [0, 1] hM (by first | exact ⟨by omega, by simp⟩ | omega | simp | (dsimp only; omega)) su (by decide) ?_
  rintro i hv hE
  try dsimp only at hE
  have hi := hv
  try dsimp only at hi
  refine ad 5 ?_
  refine cd (fun h2 => ?_) (fun h2 => ?_)
  ·
   have h2l : i < p0.length := by have := of_decide_eq_true h2; omega
   have hM := hE.trans ((congrArg (fun n => Qbx p0 p1 n i) (show p0.length - i = (p0.length - (i + 1)) + 1 by omega)).trans (Qbx.eq_2 _ _ _ _))
   refine ad 9 ?_
   refine dr 9 fun _ _ _ _ _ hb => ?_
   refine tk [0, 1] ?_
   have hg3 := Qar (k := i) hg_p0 om
   refine tx 2 (dx (xs := p0) i om) ?_
   refine tk [3, 4, 5] ?_
   have hg4 := Qar (k := i) hg_p1 om
   refine tx 6 (dx (xs := p1) i om) ?_
   refine tk [7, 8] ?_
   refine dn hb ?_
   refine cd (fun h5 => ?_) (fun h5 => ?_)
   ·
    have hM := hM.trans (bt h5)
    refine ad 4 ?_
    exact rz (rs := [.tmp 4]) (congrArg (fun x => [Re.c (.bool x)]) hM)
   ·
    have hM := hM.trans (bf h5)
    refine ad 4 ?_
    rw [Qc9 (i := i) (by first | omega | exact om)]
    refine ad 2 ?_
    exact Run.again (i + 1) [0, 1] [2, 3] ⟨by first | omega | exact trivial | (dsimp only; omega) | (refine ⟨by omega, ?_⟩; simp_all; try omega), hM⟩ rfl (by show _ - _ < _ - _; (try dsimp only); omega) su (by decide)
  ·
   have h2l : ¬ (i < p0.length) := by have := of_decide_eq_false h2; omega
   have hM := hE.trans ((congrArg (fun n => Qbx p0 p1 n i) (show p0.length - i = 0 by omega)).trans (Qbx.eq_1 _ _ _))
   refine ad 5 ?_
   exact rz (rs := [.tmp 4]) (congrArg (fun x => [Re.c (.bool x)]) hM)
def Qdt (p0 : List ByteArray) (p1 : List ByteArray) : Nat → Nat → Bool
 | 0, i => true
 | n + 1, i => bif !decide ((nth p0 i) = (nth p1 i)) then false else (Qdt p0 p1 n (i + 1))
def Qgx (p0 : List ByteArray) (p1 : List ByteArray) : Bool := bif !decide ((p0.length : Int) = (p1.length : Int)) then false else (Qdt p0 p1 (p0.length - 0) 0)
theorem Qy5 (p0 : List ByteArray) (p1 : List ByteArray) : CTs 98 [.o (.sl ByteArray instDatByteArray p0), .o (.sl ByteArray instDatByteArray p1)] [Re.c (.bool (Qgx p0 p1))] := by
 refine en Tryz.func98 Tryz.ntmps98 fun w hG hgd => ?_
 obtain ⟨hg_p0, hg_p1, _⟩ := hgd
 have hl_p0 : p0.length ≤ 9223372036854775807 := hg_p0.1
 have hl_p1 : p1.length ≤ 9223372036854775807 := hg_p1.1
 have hM := Qgx.eq_1 p0 p1
 refine ad 13 ?_
 refine cd (fun h1 => ?_) (fun h1 => ?_)
 ·
  have hM := hM.trans (bt h1)
  refine ad 4 ?_
  exact rz (rs := [.tmp 4]) (congrArg (fun x => [Re.c (.bool x)]) hM)
 ·
  have hM := hM.trans (bf h1)
  refine ad 7 ?_
  refine Run.loopM (ι := Nat) (fun s => Qdt p0 p1 (p0.length - s) s) (fun s => ⟨26, 2, [(0, .sl 0 p0.length), (1, .sl 1 p1.length), (5, .v (.int .i64 (s : Int)))], [(0, .ros ByteArray instDatByteArray p0), (1, .ros ByteArray instDatByteArray p1)]⟩) (fun s => s ≤ p0.length) (fun s => p0.length - s) 0 [0, 1] [0, 1] hM (by first | exact ⟨by omega, by simp⟩ | omega | simp | (dsimp only; omega)) su (by decide) ?_
  rintro i hv hE
  try dsimp only at hE
  have hi := hv
  try dsimp only at hi
  refine ad 8 ?_
  refine cd (fun h2 => ?_) (fun h2 => ?_)
  ·
   have h2l : i < p0.length := by have := of_decide_eq_true h2; omega
   have hM := hE.trans ((congrArg (fun n => Qdt p0 p1 n i) (show p0.length - i = (p0.length - (i + 1)) + 1 by omega)).trans (Qdt.eq_2 _ _ _ _))
   refine ad 4 ?_
   refine dr 9 fun _ _ _ _ _ hb => ?_
   refine tk [0, 1] ?_
   have hg3 := Qar (k := i) hg_p0 om
   refine tx 2 (dx (xs := p0) i om) ?_
   refine tk [3, 4, 5] ?_
   have hg4 := Qar (k := i) hg_p1 om
   refine tx 6 (dx (xs := p1) i om) ?_
   refine tk [7, 8] ?_
   refine dn hb ?_
   refine cd (fun h5 => ?_) (fun h5 => ?_)
   ·
    have hM := hM.trans (bt h5)
    refine ad 4 ?_
    exact rz (rs := [.tmp 4]) (congrArg (fun x => [Re.c (.bool x)]) hM)
   ·
    have hM := hM.trans (bf h5)
    refine ad 5 ?_
    rw [Qc9 (i := i) (by first | omega | exact om)]
    refine ad 2 ?_
    exact Run.again (i + 1) [0, 1] [2, 3] ⟨by first | omega | exact trivial | (dsimp only; omega) | (refine ⟨by omega, ?_⟩; simp_all; try omega), hM⟩ rfl (by show _ - _ < _ - _; (try dsimp only); omega) su (by decide)
  ·
   have h2l : ¬ (i < p0.length) := by have := of_decide_eq_false h2; omega
   have hM := hE.trans ((congrArg (fun n => Qdt p0 p1 n i) (show p0.length - i = 0 by omega)).trans (Qdt.eq_1 _ _ _))
   refine ad 5 ?_
   exact rz (rs := [.tmp 4]) (congrArg (fun x => [Re.c (.bool x)]) hM)
end
section
open Go.RowKit
theorem Q93 {s : ByteArray} {i : Nat} (h : i < (Qax s).length) : (Qax s)[i] = Qak s i := by
  have h' : i < s.data.size := by rw [Qbf] at h; exact h
  unfold Qak
  rw [Array.getD_eq_getD_getElem?, Array.getElem?_eq_getElem h']
  simp [Qax]
theorem Qkt (xs : List UInt8) : (Qid xs).size = 2 * xs.length := by
  show ((Lib.Hx.encode xs).toArray).size = _
  rw [List.size_toArray, Lib.Hx.encode_length]
theorem Qxp (p0 : ByteArray) {i : Nat} (hi : i < p0.size) : (Qax p0).drop i = Qak p0 i :: (Qax p0).drop (i + 1) := by
  have h : i < (Qax p0).length := by rw [Qbf]; exact hi
  rw [List.drop_eq_getElem_cons h, Q93 h]
theorem Qxr : ∀ (l m : List UInt8) (a : Nat), Lib.decFrom a (l ++ m) = (Lib.decFrom a l).bind fun n => Lib.decFrom n m
  | [], m, a => by simp [Lib.decFrom]
  | b :: l, m, a => by
    simp only [List.cons_append, Lib.decFrom]
    cases Lib.digitVal b with
    | none => rfl
    | some d => exact Qxr l m _
theorem Qmu {d : Nat} (h : d < 10) : Lib.digitVal (UInt8.ofNat (48 + d)) = some d := by
  have key : ∀ n : Fin 10, Lib.digitVal (UInt8.ofNat (48 + n.val)) = some n.val := by decide +kernel
  exact key ⟨d, h⟩
theorem Qy0 : ∀ u : Nat, Lib.decFrom 0 (Lib.decDigits u) = some u := by
  intro u
  induction u using Nat.strongRecOn with
  | _ u ih =>
    rw [Lib.decDigits]
    split
    · rename_i h
      simp only [Lib.decFrom, Qmu h]
      simp
    · rename_i h
      rw [Qxr, ih (u / 10) (by omega)]
      simp only [Option.bind_some, Lib.decFrom, Qmu (show u % 10 < 10 by omega)]
      congr 1
      omega
theorem Yfy : ∀ (k u : Nat), u < 10 ^ (k + 1) → Lib.nDigits u ≤ k + 1 := by
  intro k
  induction k with
  | zero => intro u h; rw [Lib.nDigits_small (by omega)]; omega
  | succ k ih =>
    intro u h
    by_cases h10 : u < 10
    · rw [Lib.nDigits_small h10]; omega
    · rw [Lib.nDigits_big h10]
      have := ih (u / 10) (by rw [Nat.pow_succ] at h; omega)
      omega
theorem Q6e (u : Nat) : Qax (Qbo (u : Int)) = Lib.decDigits u := by
  show ((Lib.itoa (u : Int)).toArray).toList = _
  rw [List.toList_toArray, Lib.itoa_nonneg]
theorem Yji {u : Nat} (h : u ≤ 1000000000) : (Qbo (u : Int)).size ≤ 10 := by
  rw [← Qbf, Q6e, Lib.decDigits_length]
  exact Yfy 9 u (by omega)
theorem Ybz (p0 : ByteArray) {i : Nat} (hi : i < p0.size) : (Qax p0).drop i = Qak p0 i :: (Qax p0).drop (i + 1) := Qxp p0 hi
def finD (p0 : ByteArray) (m : Nat) : Int × Bool := bif (decide ((m : Int) > 1000000000)) || (!decide ((Qbo (m : Int)) = p0)) then (0, false) else ((m : Int), true)
theorem Ybc (p0 : ByteArray) (hs : p0.size ≤ 10) : ∀ n i (v : Nat), i + n = p0.size → v < 10 ^ i → Qbv p0 n (v : Int) i = match Lib.decFrom v ((Qax p0).drop i) with
    | some m => finD p0 m
    | none => (0, false) := by
  intro n
  induction n with
  | zero =>
    intro i v h hv
    have hp : 10 ^ i ≤ 10 ^ 10 := Nat.pow_le_pow_right (by omega) (by omega)
    rw [List.drop_eq_nil_of_le (by rw [Qbf]; omega)]
    show Qbv p0 0 (v : Int) i = finD p0 v
    rw [Qbv, Qg8 (p0 := (v : Int)) (by unfold I64; omega)]
    rfl
  | succ n ih =>
    intro i v h hv
    have hlt : i < p0.size := by omega
    have hp : 10 ^ i ≤ 10 ^ 9 := Nat.pow_le_pow_right (by omega) (by omega)
    rw [Qbv, Ybz p0 hlt, Lib.decFrom]
    have hb := (Qak p0 i).toNat_lt
    by_cases hd : 48 ≤ (Qak p0 i).toNat ∧ (Qak p0 i).toNat ≤ 57
    · rw [decide_eq_false (show ¬ ((Qak p0 i).toNat : Int) < 48 by omega), decide_eq_false (show ¬ ((Qak p0 i).toNat : Int) > 57 by omega)]
      have hdv : Lib.digitVal (Qak p0 i) = some ((Qak p0 i).toNat - 48) := by
        have key : ∀ k : Fin 256, 48 ≤ k.val → k.val ≤ 57 → Lib.digitVal (UInt8.ofNat k.val) = some (k.val - 48) := by decide +kernel
        have := key ⟨(Qak p0 i).toNat, hb⟩ hd.1 hd.2
        simpa using this
      rw [hdv]
      simp only [Bool.or_self, cond_false]
      rw [IntWalk.i64_in (10 * (v : Int)) (by omega), IntWalk.i64_in ((Qak p0 i).toNat : Int) (by omega), IntWalk.i64_in (10 * (v : Int) + ((Qak p0 i).toNat : Int)) (by omega), IntWalk.i64_in (10 * (v : Int) + ((Qak p0 i).toNat : Int) - 48) (by omega)]
      have e : (10 * (v : Int) + ((Qak p0 i).toNat : Int) - 48) = ((v * 10 + ((Qak p0 i).toNat - 48) : Nat) : Int) := by omega
      rw [e]
      exact ih (i + 1) _ (by omega) (by rw [Nat.pow_succ]; omega)
    · have hdv : Lib.digitVal (Qak p0 i) = none := by
        have key : ∀ k : Fin 256, ¬ (48 ≤ k.val ∧ k.val ≤ 57) → Lib.digitVal (UInt8.ofNat k.val) = none := by decide +kernel
        have := key ⟨(Qak p0 i).toNat, hb⟩ hd
        simpa using this
      rw [hdv]
      have : ((decide (((Qak p0 i).toNat : Int) < 48)) || (decide (((Qak p0 i).toNat : Int) > 57))) = true := by
        rcases Nat.lt_or_ge (Qak p0 i).toNat 48 with h1 | h1
        · rw [decide_eq_true (show ((Qak p0 i).toNat : Int) < 48 by omega)]
          rfl
        · rw [decide_eq_true (show ((Qak p0 i).toNat : Int) > 57 by omega), Bool.or_true]
      rw [this]
      rfl
theorem Yip (p0 : ByteArray) (hs : p0.size ≤ 10) : Qan p0 = match Lib.decFrom 0 (Qax p0) with
    | some m => finD p0 m
    | none => (0, false) := by
  unfold Qan
  rw [decide_eq_false (show ¬ (p0.size : Int) > 10 by omega)]
  exact Ybc p0 hs (p0.size - 0) 0 0 (by omega) (by decide)
def finI (p0 : ByteArray) (n : Int) : Int × Bool := bif (!(Qbz n 0 1000000000)) || (!decide ((Qbo n) = p0)) then (0, false) else (n, true)
theorem Yjb (p0 : ByteArray) : Qav p0 = bif (atoi p0).2 then finI p0 (atoi p0).1 else (0, false) := by
  unfold Qav finI
  cases (atoi p0).2 with
  | true => simp only [Bool.not_true, Bool.false_or, cond_true]
  | false => simp only [Bool.not_false, Bool.true_or, cond_true, cond_false]
theorem Yjf (p0 : ByteArray) (m : Nat) : finI p0 (m : Int) = finD p0 m := by
  unfold finI finD
  by_cases h : m ≤ 1000000000
  · have h1 : Qbz (m : Int) 0 1000000000 = true := by
      unfold Qbz
      simp
      omega
    rw [h1, decide_eq_false (show ¬ (m : Int) > 1000000000 by omega)]
    rfl
  · have h1 : Qbz (m : Int) 0 1000000000 = false := by
      cases hw : Qbz (m : Int) 0 1000000000 with
      | false => rfl
      | true => exact absurd (Qfw hw) (by omega)
    rw [h1, decide_eq_true (show (m : Int) > 1000000000 by omega)]
    rfl
theorem Q6a (p0 : ByteArray) (n : Int) (h : ∀ m : Nat, m ≤ 1000000000 → Qbo (m : Int) ≠ p0) : finI p0 n = (0, false) := by
  unfold finI
  cases hw : Qbz n 0 1000000000 with
  | false => rfl
  | true =>
    have hb := Qfw hw
    obtain ⟨m, rfl⟩ : ∃ m : Nat, n = (m : Int) := ⟨n.toNat, by omega⟩
    rw [decide_eq_false (h m (by omega))]
    rfl
theorem Qio (p0 : ByteArray) : Qav p0 = Qan p0 := by
  rw [Yjb]
  by_cases hs : p0.size ≤ 10
  · rw [Yip p0 hs]
    have hl : (Qax p0).length ≤ 18 := by rw [Qbf]; omega
    have ha : Lib.atoiAll p0.data.toList = Lib.NumEnd.ofOption (Lib.atoi p0.data.toList) := Lib.atoiAll_short _ hl
    have hno : Lib.decFrom 0 (Qax p0) = none → ∀ m : Nat, m ≤ 1000000000 → Qbo (m : Int) ≠ p0 := fun hn m _ e => by
      rw [← e, Q6e, Qy0] at hn
      cases hn
    unfold atoi
    rw [ha]
    show (bif (match Lib.NumEnd.ofOption (Lib.atoi (Qax p0)) with | .ok v => (v, true) | .range => (Lib.atoiSat p0.data.toList, false) | _ => (0, false)).2 then finI p0 (match Lib.NumEnd.ofOption (Lib.atoi (Qax p0)) with | .ok v => (v, true) | .range => (Lib.atoiSat p0.data.toList, false) | _ => (0, false)).1 else (0, false)) = _
    cases hc : Qax p0 with
    | nil =>
      show (0, false) = finD p0 0
      have : Qbo ((0 : Nat) : Int) ≠ p0 := fun e => by
        rw [← e, Q6e, Lib.decDigits_one (by omega)] at hc
        cases hc
      unfold finD
      rw [decide_eq_false this]
      rfl
    | cons b r =>
      rw [hc] at hno
      by_cases h45 : b = 45
      · subst h45
        have hn : Lib.decFrom 0 (45 :: r) = none := rfl
        rw [hn]
        have hf := fun n => Q6a p0 n (hno hn)
        simp only [hf]
        exact Bool.cond_self _ _
      · by_cases h43 : b = 43
        · subst h43
          have hn : Lib.decFrom 0 (43 :: r) = none := rfl
          rw [hn]
          have hf := fun n => Q6a p0 n (hno hn)
          simp only [hf]
          exact Bool.cond_self _ _
        · have e : Lib.atoi (b :: r) = (Lib.decFrom 0 (b :: r)).map fun (m : Nat) => (m : Int) := by
            show (if (b == 45) = true then (Lib.decNat r).map (fun (m : Nat) => -(m : Int)) else if (b == 43) = true then (Lib.decNat r).map (fun (m : Nat) => (m : Int)) else (Lib.decNat (b :: r)).map (fun (m : Nat) => (m : Int))) = _
            rw [if_neg (by simpa using h45), if_neg (by simpa using h43)]
            rfl
          rw [e]
          cases Lib.decFrom 0 (b :: r) with
          | none => rfl
          | some m => exact Yjf p0 m
  · have hsp : Qan p0 = (0, false) := by
      unfold Qan
      rw [decide_eq_true (show (p0.size : Int) > 10 by omega)]
      rfl
    rw [hsp]
    have hf := fun n => Q6a p0 n fun m hm e => hs (by rw [← e]; exact Yji hm)
    rw [hf]
    exact Bool.cond_self _ _
theorem Q7j {d : Nat} (h : d < 16) : Qam (Lib.Hx.digit d) = (d : Int) := by
  have key : ∀ n : Fin 16, Qam (Lib.Hx.digit n.val) = (n.val : Int) := by decide +kernel
  exact key ⟨d, h⟩
theorem Ycc (b : UInt8) (h : 0 ≤ Qam b) : (Qam b).toNat < 16 ∧ Lib.Hx.digit (Qam b).toNat = b := by
  have key : ∀ n : Fin 256, 0 ≤ Qam (UInt8.ofNat n.val) → (Qam (UInt8.ofNat n.val)).toNat < 16 ∧ Lib.Hx.digit (Qam (UInt8.ofNat n.val)).toNat = UInt8.ofNat n.val := by decide +kernel
  have e : UInt8.ofNat b.toNat = b := by simp
  have := key ⟨b.toNat, b.toNat_lt⟩
  simp only [e] at this
  exact this h
theorem Yl3 {h l : Nat} (hh : h < 16) (hl : l < 16) : u8of (IntKind.i64.wrap ((IntKind.i64.wrap (16 * (h : Int))) + (l : Int))) = UInt8.ofNat (16 * h + l) := by
  have key : ∀ a b : Fin 16, u8of (IntKind.i64.wrap ((IntKind.i64.wrap (16 * (a.val : Int))) + (b.val : Int))) = UInt8.ofNat (16 * a.val + b.val) := by decide +kernel
  exact key ⟨h, hh⟩ ⟨l, hl⟩
theorem Qkq (xs : List UInt8) : Qax (Qid xs) = Lib.Hx.encode xs := by
  show ((Lib.Hx.encode xs).toArray).toList = _
  rw [List.toList_toArray]
def kU (e : List UInt8) : ByteArray × Bool := (bstr e, true)
theorem Q5g (p0 : ByteArray) : ∀ (raw : List UInt8) (i : Nat) (v : List UInt8) (fu : Nat), i + 2 * raw.length = p0.size → raw.length ≤ fu → (Qax p0).drop i = Lib.Hx.encode raw → Qcn p0 kU fu v i = (bstr (v ++ raw), true) := by
  intro raw
  induction raw with
  | nil =>
    intro i v fu h1 h2 h3
    have hi : decide ((i : Int) < (p0.size : Int)) = false := decide_eq_false (by simp only [List.length_nil] at h1; omega)
    rw [List.append_nil]
    cases fu with
    | zero => rfl
    | succ n => rw [Qcn, hi]; rfl
  | cons x r ih =>
    intro i v fu h1 h2 h3
    rw [List.length_cons] at h1 h2
    obtain ⟨f, rfl⟩ : ∃ f, fu = f + 1 := ⟨fu - 1, by omega⟩
    have hl1 : i < p0.size := by omega
    have hl2 : i + 1 < p0.size := by omega
    rw [Qxp p0 hl1, Qxp p0 hl2, Lib.Hx.encode_cons] at h3
    injection h3 with e1 h3
    injection h3 with e2 e3
    have hx := x.toNat_lt
    rw [Qcn, decide_eq_true (show (i : Int) < (p0.size : Int) by omega), e1, e2, Q7j (by omega), Q7j (by omega), decide_eq_false (show ¬ ((x.toNat / 16 : Nat) : Int) < 0 by omega), decide_eq_false (show ¬ ((x.toNat % 16 : Nat) : Int) < 0 by omega), Yl3 (by omega) (by omega), show 16 * (x.toNat / 16) + x.toNat % 16 = x.toNat by omega]
    simp only [Bool.or_self, cond_true, cond_false]
    rw [ih (i + 2) _ f (by omega) (by omega) e3, show UInt8.ofNat x.toNat = x by simp, List.append_assoc]
    rfl
theorem Yfu (p0 : ByteArray) (he : p0.size % 2 = 0) : ∀ (fu i : Nat) (v : List UInt8), i % 2 = 0 → i ≤ p0.size → p0.size - i ≤ fu →
    Qcn p0 kU fu v i = (⟨#[]⟩, false) ∨ ∃ raw : List UInt8, (Qax p0).drop i = Lib.Hx.encode raw ∧ i + 2 * raw.length = p0.size := by
  intro fu
  induction fu with
  | zero =>
    intro i v h1 h2 h3
    exact .inr ⟨[], List.drop_eq_nil_of_le (by rw [Qbf]; omega), by simp only [List.length_nil]; omega⟩
  | succ f ih =>
    intro i v h1 h2 h3
    by_cases hi : i < p0.size
    · have hl2 : i + 1 < p0.size := by omega
      rw [Qcn, decide_eq_true (show (i : Int) < (p0.size : Int) by omega)]
      by_cases hv : Qam (Qak p0 i) < 0
      · rw [decide_eq_true hv]
        exact .inl rfl
      · by_cases hw : Qam (Qak p0 (i + 1)) < 0
        · rw [decide_eq_true hw, Bool.or_true]
          exact .inl rfl
        · rw [decide_eq_false hv, decide_eq_false hw]
          simp only [Bool.or_self, cond_true, cond_false]
          obtain ⟨a1, a2⟩ := Ycc (Qak p0 i) (by omega)
          obtain ⟨b1, b2⟩ := Ycc (Qak p0 (i + 1)) (by omega)
          rcases ih (i + 2) (v ++ [u8of (IntKind.i64.wrap ((IntKind.i64.wrap (16 * (Qam (Qak p0 i)))) + (Qam (Qak p0 (i + 1)))))]) (by omega) (by omega) (by omega) with h | ⟨raw, hr, hs⟩
          · exact .inl h
          · refine .inr ⟨UInt8.ofNat (16 * (Qam (Qak p0 i)).toNat + (Qam (Qak p0 (i + 1))).toNat) :: raw, ?_, by rw [List.length_cons]; omega⟩
            have ex : (UInt8.ofNat (16 * (Qam (Qak p0 i)).toNat + (Qam (Qak p0 (i + 1))).toNat)).toNat = 16 * (Qam (Qak p0 i)).toNat + (Qam (Qak p0 (i + 1))).toNat := by
              have h := UInt8.toNat_ofNat' (n := 16 * (Qam (Qak p0 i)).toNat + (Qam (Qak p0 (i + 1))).toNat)
              rw [h]
              omega
            rw [Qxp p0 hi, Qxp p0 hl2, Lib.Hx.encode_cons, ex, hr]
            rw [show (16 * (Qam (Qak p0 i)).toNat + (Qam (Qak p0 (i + 1))).toNat) / 16 = (Qam (Qak p0 i)).toNat by omega, show (16 * (Qam (Qak p0 i)).toNat + (Qam (Qak p0 (i + 1))).toNat) % 16 = (Qam (Qak p0 (i + 1))).toNat by omega, a2, b2]
    · exact .inr ⟨[], List.drop_eq_nil_of_le (by rw [Qbf]; omega), by simp only [List.length_nil]; omega⟩
theorem Ybr (raw : List UInt8) : Qf3 (Qid raw) = (raw, true) := by
  unfold Qf3
  rw [show (Qid raw).data.toList = Lib.Hx.encode raw from Qkq raw, Lib.Hx.decode_encode]
theorem Qxg (raw : List UInt8) (h : raw.length ≤ 20000) : Qck (Qid raw) = (bstr raw, true) := by
  unfold Qck
  rw [Ybr, decide_eq_false (show ¬ (((raw, true) : List UInt8 × Bool).1.length : Int) > 20000 by show ¬ (raw.length : Int) > 20000; omega), decide_eq_true (show Qid ((raw, true) : List UInt8 × Bool).1 = Qid raw from rfl)]
  rfl
theorem Qmt (p0 : ByteArray) (h : ∀ raw : List UInt8, raw.length ≤ 20000 → Qid raw ≠ p0) : Qck p0 = (⟨#[]⟩, false) := by
  unfold Qck
  by_cases hl : (Qf3 p0).1.length ≤ 20000
  · rw [decide_eq_false (h _ hl), Bool.not_false, Bool.or_true]
    rfl
  · rw [decide_eq_true (show ((Qf3 p0).1.length : Int) > 20000 by omega), Bool.or_true, Bool.true_or]
    rfl
theorem Yhe {p0 : ByteArray} {raw : List UInt8} (h : Qax p0 = Lib.Hx.encode raw) : Qid raw = p0 := by
  unfold Qid
  rw [← h]
  rfl
theorem Qp4 (p0 : ByteArray) : Qck p0 = Qcr p0 := by
  unfold Qcr
  cases hc : (decide ((p0.size : Int) > 40000)) || (!decide ((Int.tmod (p0.size : Int) 2) = 0)) with
  | true =>
    rw [Qmt p0 fun raw hl e => ?_]
    · rfl
    · have hs : p0.size = 2 * raw.length := by rw [← e, Qkt]
      rw [decide_eq_false (show ¬ (p0.size : Int) > 40000 by omega)] at hc
      have ht : Int.tmod (p0.size : Int) 2 = 0 := by
        rw [hs]
        show (((2 * raw.length) % 2 : Nat) : Int) = 0
        omega
      rw [decide_eq_true ht] at hc
      cases hc
  | false =>
    have h1 : p0.size ≤ 40000 := by
      have := (Bool.or_eq_false_iff.1 hc).1
      simp at this
      omega
    have he := Yhs (Bool.or_eq_false_iff.1 hc).2
    show Qck p0 = Qcn p0 kU (p0.size - 0) [] 0
    rcases Yfu p0 he (p0.size - 0) 0 [] rfl (Nat.zero_le _) (Nat.le_refl _) with h | ⟨raw, hr, hs⟩
    · rw [h]
      refine Qmt p0 fun raw hl e => ?_
      have hs : p0.size = 2 * raw.length := by rw [← e, Qkt]
      have := Q5g p0 raw 0 [] (p0.size - 0) (by omega) (by omega) (by rw [List.drop_zero, ← e, Qkq])
      rw [h] at this
      cases this
    · rw [List.drop_zero] at hr
      have e := Yhe hr
      rw [Q5g p0 raw 0 [] (p0.size - 0) (by omega) (by omega) (by rw [List.drop_zero]; exact hr), List.nil_append]
      conv => lhs; rw [← e]
      exact Qxg raw (by omega)
theorem Ygh (a b : List ByteArray) : Qeg a b = Qgx a b := by
  have key : ∀ n i, Qbx a b n i = Qdt a b n i := by
    intro n
    induction n with
    | zero => intro i; rfl
    | succ n ih => intro i; rw [Qbx, Qdt, ih]
  unfold Qeg Qgx
  rw [key]
end
section
open Go.RowKit
def Yh8 {α : Type} (σ : St) (d : Nat) (B : Bool) (x : α) (fk : List (Fk α)) : St := ⟨σ.n, σ.m + 1 + nsl fk, (d, .gd B (.pt σ.m 0)) :: σ.ρ, (σ.m, .roc (opn false x (σ.m + 1) fk).1) :: (opn false x (σ.m + 1) fk).2 ++ σ.E⟩
theorem OpS.idxG {c : Cx} {σ : St} {all : Array Oper} {ty : TypeId} {pos : String} {after : Array Edge} {d : Nat} {α : Type} {dα : Dat α} [s : Str α] [Inhabited α] {t e by' r len : Nat} {x y : Operand} {i : Int} {k j : Nat} {want B : Bool} {xs : List α} (hB : gB σ.ρ all j want = some B) (hx : evG σ.ρ x = some (.sl r len)) (hy : evG σ.ρ y = some (.v (.int .i64 i))) (hside : B = true → Qff B True σ.ρ [x, y]) (hp : lkE σ.E r = some (.ros α dα xs)) (hl : len = xs.length) (ht : c.ti t = .sl e (Dat.sz α) by') (hd : Nat.blt d σ.n = true) (hi : B = true → i = k) (hk : k < xs.length) :
    OpS c σ all ⟨some d, .indexAddr t x y, ty, pos, after, some (j, want)⟩ (Yh8 σ d B (nth xs k) s.fk) := by
  intro θ a w h K Q hK
  have hw := Yhh h (o := ⟨some d, .indexAddr t x y, ty, pos, after, some (j, want)⟩) rfl hB
  rw [hw]
  subst hl
  obtain ⟨S, w1, hh⟩ := h.heap
  obtain ⟨l, hl, hr⟩ := hh.ok _ (Qdv hp)
  simp only at hl
  obtain ⟨ad, cs, hA, _, hrd, hcs, hb⟩ := SlR.elem hr hk
  have hti := c.tiok t
  rw [ht] at hti
  simp only [TI.chk, Bool.and_eq_true] at hti
  let A' : Addr := (ad.add (k * Dat.sz α))
  let lc : Loc := ⟨some A', 0, []⟩
  obtain ⟨θ', hl', hc', he'⟩ := Qjx (θ := θ ++ [lc]) (s.op hrd)
  rw [List.length_append, List.length_singleton, h.len, List.append_assoc] at hc' he'
  have hg : (θ ++ ([lc] ++ θ'))[σ.m]? = some lc := by rw [← h.len]; exact Qec
  have fin : ∀ u, (V.gd B (.pt σ.m 0)).con (θ ++ ([lc] ++ θ')) = some u → K (a.put (some d) u) w := fun u hu => by
    refine hK ([lc] ++ θ') _ w ⟨?_, (h.env.ext (θ' := [lc] ++ θ')).put hd hu, S, w1, ?_⟩
    · rw [List.length_append, List.length_append, h.len, hl']
      show σ.m + (1 + nsl s.fk) = σ.m + 1 + nsl s.fk
      omega
    · have hfa : ∀ e ∈ (σ.m, En.roc (opn false (nth xs k) (σ.m + 1) s.fk).1) :: (opn false (nth xs k) (σ.m + 1) s.fk).2, e.2.ok S w1 (θ ++ ([lc] ++ θ')) e.1 ∧ ∀ θ r, e.2.ck θ r = ⟨[], fun _ => True⟩ := by
        intro e he
        rcases List.mem_cons.1 he with rfl | he
        · exact ⟨⟨lc, A', cs, hg, rfl, hc', by show S A'.block; simp only [A', Qji]; exact hb, hcs⟩, fun _ _ => rfl⟩
        · exact he' e he
      exact hh.facts hfa
  cases B with
  | true =>
    rw [if_pos rfl]
    have hi := hi rfl
    subst hi
    have h1 := Qgv h.env rfl (hside rfl) x (by simp) _ hx
    have h2 := Qgv h.env rfl (hside rfl) y (by simp) _ hy
    have hc := h1.1
    simp only [V.con, hl, Option.some.injEq] at hc
    have hx' : ev? (selfρ a) x = _ := h1.2
    rw [← hc, hA] at hx'
    have hy' : ev? (selfρ a) y = some (.int .i64 (k : Int)) := by rw [h2.2, ← h2.1]; rfl
    have hyy := Qiz (P := c.P) (w := w) (ty := ty) h.env.env hx' hy' (by omega) (by omega) hti.2
    unfold Oper.wp
    rw [hyy]
    refine fin _ ?_
    simp only [V.con, hg, lc, A', Int.toNat_natCast]
  | false =>
    rw [if_neg (by simp)]
    exact fin _ rfl
section
variable {fn : Func} {Bz : Bs} {S1 : Nat → Prop} {w1 : World} {hk1 : Keep Bz.S0 Bz.w w1} {hs1 : ∀ b, Bz.S0 b → S1 b} {hd1 : ∀ b, S1 b → b < w1.heap.size} {σ : St} {all : Array Oper} {ty : TypeId} {pos : String} {after : Array Edge} {d : Nat}
theorem iG {α : Type} {dα : Dat α} [s : Str α] [Inhabited α] {t e by' r len j : Nat} {x y : Operand} {i : Int} {want B : Bool} {xs : List α} (k : Nat) (hk : k < xs.length) (hB : gB σ.ρ all j want = some B := by dsimp only [ev, evs, evsG, Qa4, lk, lkE, cond, Nat.beq, evG, stO', V.strip, grd, grdO, nthO, gB, gBV, Nat.pred, wnt, List.toList_toArray, List.cons_append, List.nil_append, List.append_nil]) (hx : evG σ.ρ x = some (.sl r len) := by dsimp only [ev, evs, evsG, Qa4, lk, lkE, cond, Nat.beq, evG, stO', V.strip, grd, grdO, nthO, gB, gBV, Nat.pred, wnt, List.toList_toArray, List.cons_append, List.nil_append, List.append_nil]) (hy : evG σ.ρ y = some (.v (.int .i64 i)) := by dsimp only [ev, evs, evsG, Qa4, lk, lkE, cond, Nat.beq, evG, stO', V.strip, grd, grdO, nthO, gB, gBV, Nat.pred, wnt, List.toList_toArray, List.cons_append, List.nil_append, List.append_nil])
    (hside : B = true → Qff B True σ.ρ [x, y] := by intro h; first | exact trivial | (dsimp only [Qff, sdV, ev, lk, cond, Nat.beq, V.side, List.toList_toArray]; (repeat' apply And.intro) <;> first | exact trivial | exact h | exact fun h => h | exact (Bool.and_eq_true_iff.1 h).1 | exact (Bool.and_eq_true_iff.1 h).2 | exact fun h => (Bool.and_eq_true_iff.1 h).1 | exact fun h => (Bool.and_eq_true_iff.1 h).2 | exact fun h => (Bool.and_eq_true_iff.1 (Bool.and_eq_true_iff.1 h).1).1 | (intro h; simp_all)))
    (hp : lkE σ.E r = some (.ros α dα xs) := by dsimp only [ev, evs, evsG, Qa4, lk, lkE, cond, Nat.beq, evG, stO', V.strip, grd, grdO, nthO, gB, gBV, Nat.pred, wnt, List.toList_toArray, List.cons_append, List.nil_append, List.append_nil]) (hl : len = xs.length := by first | rfl | simp only [List.length_set]) (hi : B = true → i = k := by intro _; rfl) (ht : ti t = .sl e (Dat.sz α) by' := by rfl) (hd : Nat.blt d σ.n = true := by rfl) :
    OpS (cx fn Bz S1 w1 hk1 hs1 hd1) σ all ⟨some d, .indexAddr t x y, ty, pos, after, some (j, want)⟩ ⟨σ.n, σ.m + 1 + nsl s.fk, (d, .gd B (.pt σ.m 0)) :: σ.ρ, (σ.m, .roc (opn false (nth xs k) (σ.m + 1) s.fk).1) :: (opn false (nth xs k) (σ.m + 1) s.fk).2 ++ σ.E⟩ := OpS.idxG hB hx hy hside hp hl ht hd hi hk
theorem gO {op : Op} {j : Nat} {want B : Bool} {v : V} {p : Prop} (hB : gB σ.ρ all j want = some B := by dsimp only [ev, evs, evsG, Qa4, lk, lkE, cond, Nat.beq, evG, stO', V.strip, grd, grdO, nthO, gB, gBV, Nat.pred, wnt, List.toList_toArray, List.cons_append, List.nil_append, List.append_nil]) (hv : gOp ti zr σ.ρ σ.E B op True = some (v, p) := by dsimp only [ti_9, ti_3, ncV, szA, cvV, rnR, rnE, V.rn, rnL, En.rn, Qfn, memN, Qcq, an, stK, cdK, opK, gdK, nvK, Qow, Qnp, blK, bsK, stW, stV, ptK, litD, litC, pkV, wrV, binV, unV, ldV, faW, faV, agO, blV, exV, mfV, lenV, caV, Q6b, Qyz, stO', sdV, Qa4, grdO, gBV, gPw, gPk, gGo, gK, gK1, gK2, tkK, tk1, rvsV, rvV, Nat.reduceAdd, Nat.reduceSub, Nat.reduceMul, advN, adv1, stO, litV, Qv9, Qmp, pv, ev, evs, lk, lkE, setE, putE, put, cond, ldC, ldE, nthN, tuAt, bin, bi, bs, bb, ikq, TI.cells, V.cells, V.one, oneL, Qnt, grd, nthO, beqB, gB, wnt, gOp, adG, adG1, Qys, Qff, evG, V.side, V.strip, Qb7, Qcs, Qdq, Qce, Qh5, Qe3, Qf4, Qhq, Ql5, Qir, Qkk, ini, Qj5, opn, nsl, adD, Qk4, Str.fk, Nat.blt, Nat.succ_eq_add_one, Nat.ble, Nat.beq, Nat.pred, Nat.add_zero, Nat.zero_add, Nat.add_eq, List.toList_toArray, List.length, List.length_cons, List.length_nil, List.take, List.drop, List.append_nil, List.nil_append, List.cons_append, List.map, List.take_succ_cons, List.take_zero, List.take_nil, List.drop_succ_cons, List.drop_zero, List.drop_nil, List.size_toArray, List.getD, id, Op.operands, Call.operands, Value.cells, Array.size_empty])
    (hp : p := by (repeat' apply And.intro) <;> first | exact trivial | exact fun h => h | exact fun h => (Bool.and_eq_true_iff.1 h).1 | exact fun h => (Bool.and_eq_true_iff.1 h).2 | exact fun h => (Bool.and_eq_true_iff.1 (Bool.and_eq_true_iff.1 h).1).1 | (intro h; simp_all)) (hd : Nat.blt d σ.n = true := by rfl) :
    OpS (cx fn Bz S1 w1 hk1 hs1 hd1) σ all ⟨some d, op, ty, pos, after, some (j, want)⟩ (put d (.gd B v) σ) := OpS.g1 hB hv hp hd
end
end
section
open Go.RowKit
theorem Qxl : FnOk Tryz.prog 146 := ⟨_, Tryz.func146, rfl, by kernel_rfl⟩
theorem Yhm : FnOk Tryz.prog 163 := ⟨_, Tryz.func163, rfl, by kernel_rfl⟩
theorem Yhj : FnOk Tryz.prog 209 := ⟨_, Tryz.func209, rfl, by kernel_rfl⟩
def Qey (p0 : ByteArray) : Nat → Nat → Bool
 | 0, i => (Qbz (p0.size : Int) 1 40)
 | n + 1, i => bif ((decide (((Qak p0 i).toNat : Int) < 33)) || (decide (((Qak p0 i).toNat : Int) > 126))) || (decide (((Qak p0 i).toNat : Int) = 42)) then false else (Qey p0 n (i + 1))
def Qg6 (p0 : ByteArray) : Bool := Qey p0 (p0.size - 0) 0
theorem Ql3 (p0 : ByteArray) (hz_p0 : p0.size ≤ 9223372036854775807) : CTs 163 [.o (.c (.string p0))] [Re.c (.bool (Qg6 p0))] := by
 refine en Tryz.func163 Tryz.ntmps163 fun w hG hgd => ?_
 have hM := Qg6.eq_1 p0
 refine ad 12 ?_
 refine Run.loopM (ι := Nat) (fun s => Qey p0 (p0.size - s) s) (fun s => ⟨29, 0, [(0, .v (.string p0)), (5, .v (.int .i64 (p0.size : Int))), (6, .v (.int .i64 (s : Int)))], []⟩) (fun s => s ≤ p0.size) (fun s => p0.size - s) 0 [] [] hM (by first | exact ⟨by omega, by simp⟩ | omega | simp | (dsimp only; omega)) su (by decide) ?_
 rintro i hv hE
 try dsimp only at hE
 have hi := hv
 try dsimp only at hi
 refine ad 5 ?_
 refine cd (fun h1 => ?_) (fun h1 => ?_)
 ·
  have h1l : i < p0.size := by have := of_decide_eq_true h1; omega
  have hM := hE.trans ((congrArg (fun n => Qey p0 n i) (show p0.size - i = (p0.size - (i + 1)) + 1 by omega)).trans (Qey.eq_2 _ _ _))
  refine ad 12 ?_
  refine op (sx (s := p0) i om) ?_
  refine ad 2 ?_
  refine ag 2 ?_
  refine op (sG (s := p0) i (hk := fun hB => by (try simp at hB); omega)) ?_
  refine ag 2 ?_
  refine ad 1 ?_
  refine ag 2 ?_
  refine op (sG (s := p0) i (hk := fun hB => by (try simp at hB); omega)) ?_
  refine ag 2 ?_
  refine ad 1 ?_
  refine cd (fun h2 => ?_) (fun h2 => ?_)
  ·
   have hM := hM.trans (bt h2)
   refine ad 4 ?_
   exact rz (rs := [.tmp 2]) (congrArg (fun x => [Re.c (.bool x)]) hM)
  ·
   have hM := hM.trans (bf h2)
   refine ad 4 ?_
   rw [Qc9 (i := i) (by first | omega | exact om)]
   refine ad 2 ?_
   exact Run.again (i + 1) [] [] ⟨by first | omega | exact trivial | (dsimp only; omega) | (refine ⟨by omega, ?_⟩; simp_all; try omega), hM⟩ rfl (by show _ - _ < _ - _; (try dsimp only); omega) su (by decide)
 ·
  have h1l : ¬ (i < p0.size) := by have := of_decide_eq_false h1; omega
  have hM := hE.trans ((congrArg (fun n => Qey p0 n i) (show p0.size - i = 0 by omega)).trans (Qey.eq_1 _ _))
  refine ad 5 ?_
  refine op (cl (Qfv (p0.size : Int) 1 40) Qxk) ?_
  refine ad 2 ?_
  exact rz (rs := [.tmp 2]) (congrArg (fun x => [Re.c (.bool x)]) hM)
def Qeu (p0 : ByteArray) : Nat → Nat → Bool
 | 0, i => (Qb1 (p0.size : Int) 1 40)
 | n + 1, i => bif (!(Qb1 (IntKind.i64.wrap ((Qak p0 i).toNat : Int)) 33 126)) || (decide (((Qak p0 i).toNat : Int) = 42)) then false else (Qeu p0 n (i + 1))
def Qfl (p0 : ByteArray) : Bool := Qeu p0 (p0.size - 0) 0
theorem Ql0 (p0 : ByteArray) (hz_p0 : p0.size ≤ 9223372036854775807) : CTs 209 [.o (.c (.string p0))] [Re.c (.bool (Qfl p0))] := by
 refine en Tryz.func209 Tryz.ntmps209 fun w hG hgd => ?_
 have hM := Qfl.eq_1 p0
 refine ad 10 ?_
 refine Run.loopM (ι := Nat) (fun s => Qeu p0 (p0.size - s) s) (fun s => ⟨25, 0, [(0, .v (.string p0)), (3, .v (.int .i64 (s : Int)))], []⟩) (fun s => s ≤ p0.size) (fun s => p0.size - s) 0 [] [] hM (by first | exact ⟨by omega, by simp⟩ | omega | simp | (dsimp only; omega)) su (by decide) ?_
 rintro i hv hE
 try dsimp only at hE
 have hi := hv
 try dsimp only at hi
 refine ad 8 ?_
 refine cd (fun h1 => ?_) (fun h1 => ?_)
 ·
  have h1l : i < p0.size := by have := of_decide_eq_true h1; omega
  have hM := hE.trans ((congrArg (fun n => Qeu p0 n i) (show p0.size - i = (p0.size - (i + 1)) + 1 by omega)).trans (Qeu.eq_2 _ _ _))
  refine ad 7 ?_
  refine op (sx (s := p0) i om) ?_
  refine ad 1 ?_
  refine op (cl (Qgb (IntKind.i64.wrap ((Qak p0 i).toNat : Int)) 33 126) Qxl) ?_
  refine ad 2 ?_
  refine ag 2 ?_
  refine op (sG (s := p0) i (hk := fun hB => by (try simp at hB); omega)) ?_
  refine ag 2 ?_
  refine ad 1 ?_
  refine cd (fun h2 => ?_) (fun h2 => ?_)
  ·
   have hM := hM.trans (bt h2)
   refine ad 4 ?_
   exact rz (rs := [.tmp 2]) (congrArg (fun x => [Re.c (.bool x)]) hM)
  ·
   have hM := hM.trans (bf h2)
   have th2_0 := Qez (by have hq := (Bool.or_eq_false_iff.1 h2).1; simpa using hq)
   refine ad 5 ?_
   rw [Qc9 (i := i) (by first | omega | exact om)]
   refine ad 2 ?_
   exact Run.again (i + 1) [] [] ⟨by first | omega | exact trivial | (dsimp only; omega) | (refine ⟨by omega, ?_⟩; simp_all; try omega), hM⟩ rfl (by show _ - _ < _ - _; (try dsimp only); omega) su (by decide)
 ·
  have h1l : ¬ (i < p0.size) := by have := of_decide_eq_false h1; omega
  have hM := hE.trans ((congrArg (fun n => Qeu p0 n i) (show p0.size - i = 0 by omega)).trans (Qeu.eq_1 _ _))
  refine ad 5 ?_
  refine op (cl (Qgb (p0.size : Int) 1 40) Qxl) ?_
  refine ad 2 ?_
  exact rz (rs := [.tmp 2]) (congrArg (fun x => [Re.c (.bool x)]) hM)
def Qch (p0 : ByteArray) : Nat → Int → Nat → Int
 | 0, v3, i => v3
 | n + 1, v3, i => Qch p0 n (Int.tmod (IntKind.i64.wrap ((IntKind.i64.wrap (31 * v3)) + (IntKind.i64.wrap ((Qak p0 i).toNat : Int)))) 9973) (i + 1)
def Qfe (p0 : ByteArray) : Int := Qch p0 (p0.size - 0) 7 0
theorem Qzq (p0 : ByteArray) (hz_p0 : p0.size ≤ 9223372036854775807) : CTs 249 [.o (.c (.string p0))] [Re.c (.int .i64 (Qfe p0))] := by
 refine en Tryz.func249 Tryz.ntmps249 fun w hG hgd => ?_
 have hM := Qfe.eq_1 p0
 refine ad 16 ?_
 refine Run.loopM (ι := Int × Nat) (fun s => Qch p0 (p0.size - s.2) s.1 s.2) (fun s => ⟨20, 0, [(0, .v (.string p0)), (3, .v (.int .i64 s.1)), (6, .v (.int .i64 (p0.size : Int))), (7, .v (.int .i64 (s.2 : Int)))], []⟩) (fun s => s.2 ≤ p0.size) (fun s => p0.size - s.2) (7, 0) [] [] hM (by first | exact ⟨by omega, by simp⟩ | omega | simp | (dsimp only; omega)) su (by decide) ?_
 rintro ⟨v3, i⟩ hv hE
 try dsimp only at hE
 have hi := hv
 try dsimp only at hi
 refine ad 5 ?_
 refine cd (fun h1 => ?_) (fun h1 => ?_)
 ·
  have h1l : i < p0.size := by have := of_decide_eq_true h1; omega
  have hM := hE.trans ((congrArg (fun n => Qch p0 n v3 i) (show p0.size - i = (p0.size - (i + 1)) + 1 by omega)).trans (Qch.eq_2 _ _ _ _))
  refine ad 13 ?_
  refine op (sx (s := p0) i om) ?_
  refine ad 2 ?_
  refine op (rm) ?_
  refine ad 5 ?_
  rw [Qc9 (i := i) (by first | omega | exact om)]
  refine ad 2 ?_
  exact Run.again (Int.tmod (IntKind.i64.wrap ((IntKind.i64.wrap (31 * v3)) + (IntKind.i64.wrap ((Qak p0 i).toNat : Int)))) 9973, (i + 1)) [] [] ⟨by first | omega | exact trivial | (dsimp only; omega) | (refine ⟨by omega, ?_⟩; simp_all; try omega), hM⟩ rfl (by show _ - _ < _ - _; (try dsimp only); omega) su (by decide)
 ·
  have h1l : ¬ (i < p0.size) := by have := of_decide_eq_false h1; omega
  have hM := hE.trans ((congrArg (fun n => Qch p0 n v3 i) (show p0.size - i = 0 by omega)).trans (Qch.eq_1 _ _ _))
  refine ad 6 ?_
  exact rz (rs := [.tmp 2]) (congrArg (fun x => [Re.c (.int .i64 x)]) hM)
def Qdu (p0 : ByteArray) : Nat → Int → Nat → Int
 | 0, v3, i => v3
 | n + 1, v3, i => Qdu p0 n (Int.tmod (IntKind.i64.wrap ((IntKind.i64.wrap (31 * v3)) + (IntKind.i64.wrap ((Qak p0 i).toNat : Int)))) 9973) (i + 1)
def Qca (p0 : ByteArray) : Int := Qdu p0 (p0.size - 0) 7 0
theorem Qj1 (p0 : ByteArray) (hz_p0 : p0.size ≤ 9223372036854775807) : CTs 239 [.o (.c (.string p0))] [Re.c (.int .i64 (Qca p0))] := by
 refine en Tryz.func239 Tryz.ntmps239 fun w hG hgd => ?_
 have hM := Qca.eq_1 p0
 refine ad 14 ?_
 refine Run.loopM (ι := Int × Nat) (fun s => Qdu p0 (p0.size - s.2) s.1 s.2) (fun s => ⟨20, 0, [(0, .v (.string p0)), (3, .v (.int .i64 s.1)), (4, .v (.int .i64 (s.2 : Int)))], []⟩) (fun s => s.2 ≤ p0.size) (fun s => p0.size - s.2) (7, 0) [] [] hM (by first | exact ⟨by omega, by simp⟩ | omega | simp | (dsimp only; omega)) su (by decide) ?_
 rintro ⟨v3, i⟩ hv hE
 try dsimp only at hE
 have hi := hv
 try dsimp only at hi
 refine ad 8 ?_
 refine cd (fun h1 => ?_) (fun h1 => ?_)
 ·
  have h1l : i < p0.size := by have := of_decide_eq_true h1; omega
  have hM := hE.trans ((congrArg (fun n => Qdu p0 n v3 i) (show p0.size - i = (p0.size - (i + 1)) + 1 by omega)).trans (Qdu.eq_2 _ _ _ _))
  refine ad 8 ?_
  refine op (sx (s := p0) i om) ?_
  refine ad 2 ?_
  refine op (rm) ?_
  refine ad 6 ?_
  rw [Qc9 (i := i) (by first | omega | exact om)]
  refine ad 2 ?_
  exact Run.again (Int.tmod (IntKind.i64.wrap ((IntKind.i64.wrap (31 * v3)) + (IntKind.i64.wrap ((Qak p0 i).toNat : Int)))) 9973, (i + 1)) [] [] ⟨by first | omega | exact trivial | (dsimp only; omega) | (refine ⟨by omega, ?_⟩; simp_all; try omega), hM⟩ rfl (by show _ - _ < _ - _; (try dsimp only); omega) su (by decide)
 ·
  have h1l : ¬ (i < p0.size) := by have := of_decide_eq_false h1; omega
  have hM := hE.trans ((congrArg (fun n => Qdu p0 n v3 i) (show p0.size - i = 0 by omega)).trans (Qdu.eq_1 _ _ _))
  refine ad 6 ?_
  exact rz (rs := [.tmp 2]) (congrArg (fun x => [Re.c (.int .i64 x)]) hM)
def Qf2 (p0 : Journal) : Bool := (decide ((p0.Text.size : Int) ≤ 20000)) && (Qbz p0.Sure 0 (p0.Text.size : Int))
theorem Qld (p0 : Journal) : CTs 160 [.o (.st Journal _ inferInstance p0)] [Re.c (.bool (Qf2 p0))] := by
 refine en Tryz.func160 Tryz.ntmps160 fun w hG hgd => ?_
 obtain ⟨hg_p0, _⟩ := hgd
 have hM := Qf2.eq_1 p0
 refine ad 12 ?_
 refine ag 5 ?_
 refine op (cG (hct := fun hB => (Qfv p0.Sure 0 (p0.Text.size : Int))) (hfn := Qxk)) ?_
 refine ag 1 ?_
 refine ad 2 ?_
 exact rz (rs := [.tmp 2]) (congrArg (fun x => [Re.c (.bool x)]) hM)
def Qah (p0 : Journal) : Bool := (decide ((p0.Text.size : Int) ≤ 20000)) && (Qb1 p0.Sure 0 (p0.Text.size : Int))
theorem Qk9 (p0 : Journal) : CTs 148 [.o (.st Journal _ inferInstance p0)] [Re.c (.bool (Qah p0))] := by
 refine en Tryz.func148 Tryz.ntmps148 fun w hG hgd => ?_
 obtain ⟨hg_p0, _⟩ := hgd
 have hM := Qah.eq_1 p0
 refine ad 12 ?_
 refine ag 5 ?_
 refine op (cG (hct := fun hB => (Qgb p0.Sure 0 (p0.Text.size : Int))) (hfn := Qxl)) ?_
 refine ag 1 ?_
 refine ad 2 ?_
 exact rz (rs := [.tmp 2]) (congrArg (fun x => [Re.c (.bool x)]) hM)
def Qcc (p0 : List Cell) : Nat → Nat → Bool
 | 0, i => decide ((p0.length : Int) ≤ 900)
 | n + 1, i => bif ((!(Qg6 ((nth p0 i).Key))) || (!(Qbz (((nth p0 i).Val).size : Int) 1 60))) || ((decide ((i : Int) > 0)) && (ltB ((nth p0 i).Key) ((nth p0 ((IntKind.i64.wrap ((i : Int) - 1)).toNat)).Key) || decide (((nth p0 i).Key) = ((nth p0 ((IntKind.i64.wrap ((i : Int) - 1)).toNat)).Key)))) then false else (Qcc p0 n (i + 1))
def Qic (p0 : List Cell) : Bool := Qcc p0 (p0.length - 0) 0
theorem Qzo (p0 : List Cell) : CTs 159 [.o (.sl Cell instDatCell p0)] [Re.c (.bool (Qic p0))] := by
 refine en Tryz.func159 Tryz.ntmps159 fun w hG hgd => ?_
 obtain ⟨hg_p0, _⟩ := hgd
 have hl_p0 : p0.length ≤ 9223372036854775807 := hg_p0.1
 have hM := Qic.eq_1 p0
 refine ad 12 ?_
 refine Run.loopM (ι := Nat) (fun s => Qcc p0 (p0.length - s) s) (fun s => ⟨42, 1, [(0, .sl 0 p0.length), (5, .sl 0 p0.length), (6, .v (.int .i64 (p0.length : Int))), (7, .v (.int .i64 (s : Int)))], [(0, .ros Cell instDatCell p0)]⟩) (fun s => s ≤ p0.length) (fun s => p0.length - s) 0 [0] [0] hM (by first | exact ⟨by omega, by simp⟩ | omega | simp | (dsimp only; omega)) su (by decide) ?_
 rintro i hv hE
 try dsimp only at hE
 have hi := hv
 try dsimp only at hi
 refine ad 5 ?_
 refine cd (fun h1 => ?_) (fun h1 => ?_)
 ·
  have h1l : i < p0.length := by have := of_decide_eq_true h1; omega
  have hM := hE.trans ((congrArg (fun n => Qcc p0 n i) (show p0.length - i = (p0.length - (i + 1)) + 1 by omega)).trans (Qcc.eq_2 _ _ _))
  refine ad 6 ?_
  have hg3 := Qar (k := i) hg_p0 om
  refine op (ix (xs := p0) i om) ?_
  refine ad 6 ?_
  refine dr 26 fun _ _ _ _ _ hb => ?_
  refine tk [0, 1] ?_
  refine on 2 [0, 1, 2] (cl (Ql3 ((nth p0 i).Key) hg3.1) Yhm) ?_
  refine tk [3, 4, 5, 6, 7] ?_
  refine on 8 [0, 1, 2] (cG (hct := fun hB => (Qfv (((nth p0 i).Val).size : Int) 1 60)) (hfn := Qxk)) ?_
  refine tk [9, 10, 11, 12, 13, 14, 15, 16, 17, 18, 19] ?_
  refine on 20 [1, 2, 3] (iG (xs := p0) ((IntKind.i64.wrap ((i : Int) - 1)).toNat) om (hi := (fun hB => by (try simp at hB); rw [IntWalk.i64_in _ (by omega)]; omega))) ?_
  refine tk [21] ?_
  refine on 22 [1, 2, 3] (gO) ?_
  refine on 23 [1, 2, 3] (sQG) ?_
  refine tk [24, 25] ?_
  refine dn hb ?_
  refine cd (fun h4 => ?_) (fun h4 => ?_)
  ·
   have hM := hM.trans (bt h4)
   refine ad 4 ?_
   exact rz (rs := [.tmp 2]) (congrArg (fun x => [Re.c (.bool x)]) hM)
  ·
   have hM := hM.trans (bf h4)
   have th4_1 := Qfw (by have hq := (Bool.or_eq_false_iff.1 (Bool.or_eq_false_iff.1 h4).1).2; simpa using hq)
   refine ad 4 ?_
   rw [Qc9 (i := i) (by first | omega | exact om)]
   refine ad 2 ?_
   exact Run.again (i + 1) [0] [3] ⟨by first | omega | exact trivial | (dsimp only; omega) | (refine ⟨by omega, ?_⟩; simp_all; try omega), hM⟩ rfl (by show _ - _ < _ - _; (try dsimp only); omega) su (by decide)
 ·
  have h1l : ¬ (i < p0.length) := by have := of_decide_eq_false h1; omega
  have hM := hE.trans ((congrArg (fun n => Qcc p0 n i) (show p0.length - i = 0 by omega)).trans (Qcc.eq_1 _ _))
  refine ad 8 ?_
  exact rz (rs := [.tmp 2]) (congrArg (fun x => [Re.c (.bool x)]) hM)
def Qbt (p0 : List Cell) : Nat → Nat → Bool
 | 0, i => decide ((p0.length : Int) ≤ 900)
 | n + 1, i => bif ((!(Qfl ((nth p0 i).Key))) || (!(Qb1 (((nth p0 i).Val).size : Int) 1 60))) || ((decide ((i : Int) > 0)) && (!(ltB ((nth p0 ((IntKind.i64.wrap ((i : Int) - 1)).toNat)).Key) ((nth p0 i).Key)))) then false else (Qbt p0 n (i + 1))
def Qe0 (p0 : List Cell) : Bool := Qbt p0 (p0.length - 0) 0
theorem Qy6 (p0 : List Cell) : CTs 147 [.o (.sl Cell instDatCell p0)] [Re.c (.bool (Qe0 p0))] := by
 refine en Tryz.func147 Tryz.ntmps147 fun w hG hgd => ?_
 obtain ⟨hg_p0, _⟩ := hgd
 have hl_p0 : p0.length ≤ 9223372036854775807 := hg_p0.1
 have hM := Qe0.eq_1 p0
 refine ad 10 ?_
 refine Run.loopM (ι := Nat) (fun s => Qbt p0 (p0.length - s) s) (fun s => ⟨48, 1, [(0, .sl 0 p0.length), (3, .v (.int .i64 (s : Int)))], [(0, .ros Cell instDatCell p0)]⟩) (fun s => s ≤ p0.length) (fun s => p0.length - s) 0 [0] [0] hM (by first | exact ⟨by omega, by simp⟩ | omega | simp | (dsimp only; omega)) su (by decide) ?_
 rintro i hv hE
 try dsimp only at hE
 have hi := hv
 try dsimp only at hi
 refine ad 8 ?_
 refine cd (fun h1 => ?_) (fun h1 => ?_)
 ·
  have h1l : i < p0.length := by have := of_decide_eq_true h1; omega
  have hM := hE.trans ((congrArg (fun n => Qbt p0 n i) (show p0.length - i = (p0.length - (i + 1)) + 1 by omega)).trans (Qbt.eq_2 _ _ _))
  refine ad 4 ?_
  refine Run.mid ⟨48, 1, [(0, .sl 0 p0.length), (3, .v (.int .i64 (i : Int))), (44, .v (.bool (((!(Qfl ((nth p0 i).Key))) || (!(Qb1 (((nth p0 i).Val).size : Int) 1 60))) || ((decide ((i : Int) > 0)) && (!(ltB ((nth p0 ((IntKind.i64.wrap ((i : Int) - 1)).toNat)).Key) ((nth p0 i).Key)))))))], [(0, .ros Cell instDatCell p0)]⟩ ?_ ?_
  ·
   refine dr 35 fun _ _ _ _ _ hb => ?_
   refine tk [0, 1] ?_
   have hg2 := Qar (k := i) hg_p0 om
   refine tx 2 (dx (xs := p0) i om) ?_
   refine tk [3, 4] ?_
   refine on 5 [1] (cl (Ql0 ((nth p0 i).Key) hg2.1) Yhj) ?_
   refine tk [6, 7, 8, 9] ?_
   refine on 10 [2] (iG (xs := p0) i om) ?_
   refine tk [11] ?_
   refine on 12 [2] (gO) ?_
   refine tk [13] ?_
   refine on 14 [2] (cG (hct := fun hB => (Qgb (((nth p0 i).Val).size : Int) 1 60)) (hfn := Qxl)) ?_
   refine tk [15, 16, 17, 18, 19, 20, 21, 22, 23, 27, 28] ?_
   refine o2 24 29 ?_ ?_
   ·
    refine on1 24 [3] (iG (xs := p0) ((IntKind.i64.wrap ((i : Int) - 1)).toNat) om (hi := (fun hB => by (try simp at hB); rw [IntWalk.i64_in _ (by omega)]; omega))) ?_
    refine tk [25] ?_
    refine o2 26 29 ?_ ?_
    ·
     refine on1 26 [3] (gO) ?_
     refine on 29 [4] (iG (xs := p0) i om) ?_
     refine tk [30] ?_
     refine on 31 [4] (gO) ?_
     refine on 32 [4] (sQG) ?_
     refine tk [33, 34] ?_
     refine dn hb ?_
     exact Run.at [0] [4] su (by decide)
    ·
     refine on1 29 [4] (iG (xs := p0) i om) ?_
     refine tk [30] ?_
     refine o2 26 31 ?_ ?_
     ·
      refine on1 26 [4] (gO) ?_
      refine on 31 [4] (gO) ?_
      refine on 32 [4] (sQG) ?_
      refine tk [33, 34] ?_
      refine dn hb ?_
      exact Run.at [0] [4] su (by decide)
     ·
      refine on1 31 [4] (gO) ?_
      refine on 26 [4] (gO) ?_
      refine on 32 [4] (sQG) ?_
      refine tk [33, 34] ?_
      refine dn hb ?_
      exact Run.at [0] [4] su (by decide)
   ·
    refine on1 29 [3] (iG (xs := p0) i om) ?_
    refine tk [30] ?_
    refine o2 24 31 ?_ ?_
    ·
     refine on1 24 [4] (iG (xs := p0) ((IntKind.i64.wrap ((i : Int) - 1)).toNat) om (hi := (fun hB => by (try simp at hB); rw [IntWalk.i64_in _ (by omega)]; omega))) ?_
     refine tk [25] ?_
     refine o2 26 31 ?_ ?_
     ·
      refine on1 26 [4] (gO) ?_
      refine on 31 [4] (gO) ?_
      refine on 32 [4] (sQG) ?_
      refine tk [33, 34] ?_
      refine dn hb ?_
      exact Run.at [0] [4] su (by decide)
     ·
      refine on1 31 [4] (gO) ?_
      refine on 26 [4] (gO) ?_
      refine on 32 [4] (sQG) ?_
      refine tk [33, 34] ?_
      refine dn hb ?_
      exact Run.at [0] [4] su (by decide)
    ·
     refine on1 31 [3] (gO) ?_
     refine on 24 [4] (iG (xs := p0) ((IntKind.i64.wrap ((i : Int) - 1)).toNat) om (hi := (fun hB => by (try simp at hB); rw [IntWalk.i64_in _ (by omega)]; omega))) ?_
     refine tk [25] ?_
     refine on 26 [4] (gO) ?_
     refine on 32 [4] (sQG) ?_
     refine tk [33, 34] ?_
     refine dn hb ?_
     exact Run.at [0] [4] su (by decide)
  refine cd (fun h3 => ?_) (fun h3 => ?_)
  ·
   have hM := hM.trans (bt h3)
   refine ad 4 ?_
   exact rz (rs := [.tmp 2]) (congrArg (fun x => [Re.c (.bool x)]) hM)
  ·
   have hM := hM.trans (bf h3)
   have th3_1 := Qez (by have hq := (Bool.or_eq_false_iff.1 (Bool.or_eq_false_iff.1 h3).1).2; simpa using hq)
   refine ad 5 ?_
   rw [Qc9 (i := i) (by first | omega | exact om)]
   refine ad 2 ?_
   exact Run.again (i + 1) [0] [0] ⟨by first | omega | exact trivial | (dsimp only; omega) | (refine ⟨by omega, ?_⟩; simp_all; try omega), hM⟩ rfl (by show _ - _ < _ - _; (try dsimp only); omega) su (by decide)
 ·
  have h1l : ¬ (i < p0.length) := by have := of_decide_eq_false h1; omega
  have hM := hE.trans ((congrArg (fun n => Qbt p0 n i) (show p0.length - i = 0 by omega)).trans (Qbt.eq_1 _ _))
  refine ad 8 ?_
  exact rz (rs := [.tmp 2]) (congrArg (fun x => [Re.c (.bool x)]) hM)
end
section
open Go.RowKit
theorem Ylr : FnOk Tryz.prog 80 := ⟨_, Tryz.func80, rfl, by kernel_rfl⟩
theorem Yn9 : FnOk Tryz.prog 147 := ⟨_, Tryz.func147, rfl, by kernel_rfl⟩
theorem Yko : FnOk Tryz.prog 148 := ⟨_, Tryz.func148, rfl, by kernel_rfl⟩
theorem Yn0 : FnOk Tryz.prog 159 := ⟨_, Tryz.func159, rfl, by kernel_rfl⟩
theorem Ykm : FnOk Tryz.prog 160 := ⟨_, Tryz.func160, rfl, by kernel_rfl⟩
def Qdi (p0 : Disk) : Nat → Int → Nat → Int
 | 0, v3, i => v3
 | n + 1, v3, i => Qdi p0 n (bif (((nth p0.Slots i).Whole) && ((decide (v3 < 0)) || (decide (((nth p0.Slots i).Seq) > ((nth p0.Slots v3.toNat).Seq))))) then (i : Int) else v3) (i + 1)
def Qaa (p0 : Disk) : Int := Qdi p0 (p0.Slots.length - 0) (-1) 0
theorem Ql4 (p0 : Disk) : CTs 89 [.o (.st Disk _ inferInstance p0)] [Re.c (.int .i64 (Qaa p0))] := by
 refine en Tryz.func89 Tryz.ntmps89 fun w hG hgd => ?_
 obtain ⟨hg_p0, _⟩ := hgd
 have hM := Qaa.eq_1 p0
 have hsl : p0.Slots.length ≤ 9223372036854775807 := hg_p0.1.1
 refine ad 18 ?_
 refine Run.loopM (ι := Int × Nat) (fun s => Qdi p0 (p0.Slots.length - s.2) s.1 s.2) (fun s => ⟨34, 2, [(1, .pt 0 0), (3, .v (.int .i64 s.1)), (7, .sl 1 p0.Slots.length), (8, .v (.int .i64 (p0.Slots.length : Int))), (9, .v (.int .i64 (s.2 : Int)))], [(0, .var [.sl 1 p0.Slots.length, .v (.string p0.Journal.Text), .v (.int .i64 p0.Journal.Sure)] 40), (1, .ros Slot instDatSlot p0.Slots)]⟩) (fun s => s.2 ≤ p0.Slots.length ∧ -1 ≤ s.1 ∧ s.1 < (s.2 : Int)) (fun s => p0.Slots.length - s.2) ((-1), 0) [1, 0] [0, 1] hM (by exact ⟨by (try dsimp only); omega, by (try dsimp only); omega, by (try dsimp only); omega⟩) su (by decide) ?_
 rintro ⟨v3, i⟩ hv hE
 try dsimp only at hE
 obtain ⟨hi, hv0, hv1⟩ := hv
 try dsimp only at hi hv0 hv1
 refine ad 5 ?_
 refine cd (fun h1 => ?_) (fun h1 => ?_)
 ·
  have h1l : i < p0.Slots.length := by have := of_decide_eq_true h1; omega
  have hM := hE.trans ((congrArg (fun n => Qdi p0 n v3 i) (show p0.Slots.length - i = (p0.Slots.length - (i + 1)) + 1 by omega)).trans (Qdi.eq_2 _ _ _ _))
  refine ad 6 ?_
  refine op (ix (xs := p0.Slots) i om) ?_
  refine ad 6 ?_
  refine dr 17 fun _ _ _ _ _ hb => ?_
  refine tk [0, 1, 2, 3, 4, 5, 6, 7, 8, 9, 10] ?_
  refine on 11 [2, 3, 4, 5, 6] (iG (xs := p0.Slots) v3.toNat om (hi := fun _ => om)) ?_
  refine tk [12] ?_
  refine on 13 [2, 3, 4, 5, 6] (gO) ?_
  refine tk [14, 15, 16] ?_
  refine dn hb ?_
  refine Run.mid ⟨34, 2, [(1, .pt 0 0), (3, .v (.int .i64 (bif (((nth p0.Slots i).Whole) && ((decide (v3 < 0)) || (decide (((nth p0.Slots i).Seq) > ((nth p0.Slots v3.toNat).Seq))))) then (i : Int) else v3))), (7, .sl 1 p0.Slots.length), (8, .v (.int .i64 (p0.Slots.length : Int))), (9, .v (.int .i64 (i : Int)))], [(0, .var [.sl 1 p0.Slots.length, .v (.string p0.Journal.Text), .v (.int .i64 p0.Journal.Sure)] 40), (1, .ros Slot instDatSlot p0.Slots)]⟩ ?_ ?_
  ·refine cd (fun h3 => ?_) (fun h3 => ?_)
   ·
    refine ad 4 ?_
    exact Run.at [0, 1] [5, 6] (by first | exact su | (rw [h3]; exact su)) (by decide)
   ·
    refine ad 1 ?_
    exact Run.at [0, 1] [5, 6] (by first | exact su | (rw [h3]; exact su)) (by decide)
  refine ad 3 ?_
  rw [Qc9 (i := i) (by first | omega | exact om)]
  refine ad 2 ?_
  exact Run.again (bif (((nth p0.Slots i).Whole) && ((decide (v3 < 0)) || (decide (((nth p0.Slots i).Seq) > ((nth p0.Slots v3.toNat).Seq))))) then (i : Int) else v3, (i + 1)) [0, 1] [0, 1] ⟨by exact ⟨by (try dsimp only); omega, by (try dsimp only); ((try simp only [Bool.cond_eq_ite]); (repeat' split) <;> omega), by (try dsimp only); ((try simp only [Bool.cond_eq_ite]); (repeat' split) <;> omega)⟩, hM⟩ rfl (by show _ - _ < _ - _; (try dsimp only); omega) su (by decide)
 ·
  have h1l : ¬ (i < p0.Slots.length) := by have := of_decide_eq_false h1; omega
  have hM := hE.trans ((congrArg (fun n => Qdi p0 n v3 i) (show p0.Slots.length - i = 0 by omega)).trans (Qdi.eq_1 _ _ _))
  refine ad 6 ?_
  exact rz (rs := [.tmp 2]) (congrArg (fun x => [Re.c (.int .i64 x)]) hM)
def Qbr (p0 : Disk) : Nat → Int → Nat → Int
 | 0, v3, i => v3
 | n + 1, v3, i => Qbr p0 n (bif (((nth p0.Slots i).Whole) && ((decide (v3 < 0)) || (decide (((nth p0.Slots i).Seq) > ((nth p0.Slots v3.toNat).Seq))))) then (i : Int) else v3) (i + 1)
def Qae (p0 : Disk) : Int := Qbr p0 (p0.Slots.length - 0) (-1) 0
theorem Qjg (p0 : Disk) : CTs 80 [.o (.st Disk _ inferInstance p0)] [Re.c (.int .i64 (Qae p0))] := by
 refine en Tryz.func80 Tryz.ntmps80 fun w hG hgd => ?_
 obtain ⟨hg_p0, _⟩ := hgd
 have hM := Qae.eq_1 p0
 have hsl : p0.Slots.length ≤ 9223372036854775807 := hg_p0.1.1
 refine ad 15 ?_
 refine Run.loopM (ι := Int × Nat) (fun s => Qbr p0 (p0.Slots.length - s.2) s.1 s.2) (fun s => ⟨39, 2, [(1, .pt 0 0), (3, .v (.int .i64 s.1)), (4, .v (.int .i64 (s.2 : Int)))], [(0, .var [.sl 1 p0.Slots.length, .v (.string p0.Journal.Text), .v (.int .i64 p0.Journal.Sure)] 40), (1, .ros Slot instDatSlot p0.Slots)]⟩) (fun s => s.2 ≤ p0.Slots.length ∧ -1 ≤ s.1 ∧ s.1 < (s.2 : Int)) (fun s => p0.Slots.length - s.2) ((-1), 0) [1, 0] [0, 1] hM (by exact ⟨by (try dsimp only); omega, by (try dsimp only); omega, by (try dsimp only); omega⟩) su (by decide) ?_
 rintro ⟨v3, i⟩ hv hE
 try dsimp only at hE
 obtain ⟨hi, hv0, hv1⟩ := hv
 try dsimp only at hi hv0 hv1
 refine ad 9 ?_
 refine cd (fun h1 => ?_) (fun h1 => ?_)
 ·
  have h1l : i < p0.Slots.length := by have := of_decide_eq_true h1; omega
  have hM := hE.trans ((congrArg (fun n => Qbr p0 n v3 i) (show p0.Slots.length - i = (p0.Slots.length - (i + 1)) + 1 by omega)).trans (Qbr.eq_2 _ _ _ _))
  refine ad 4 ?_
  refine Run.mid ⟨39, 2, [(1, .pt 0 0), (3, .v (.int .i64 v3)), (4, .v (.int .i64 (i : Int))), (36, .v (.bool (((nth p0.Slots i).Whole) && ((decide (v3 < 0)) || (decide (((nth p0.Slots i).Seq) > ((nth p0.Slots v3.toNat).Seq)))))))], [(0, .var [.sl 1 p0.Slots.length, .v (.string p0.Journal.Text), .v (.int .i64 p0.Journal.Sure)] 40), (1, .ros Slot instDatSlot p0.Slots)]⟩ ?_ ?_
  ·
   refine dr 25 fun _ _ _ _ _ hb => ?_
   refine tk [0, 1, 2] ?_
   refine tx 3 (dx (xs := p0.Slots) i om) ?_
   refine tk [4, 5, 6, 7, 8, 9, 10, 11, 12, 16, 17, 18] ?_
   refine o2 13 19 ?_ ?_
   ·
    refine on1 13 [4, 5] (iG (xs := p0.Slots) i om) ?_
    refine tk [14] ?_
    refine o2 15 19 ?_ ?_
    ·
     refine on1 15 [4, 5] (gO) ?_
     refine on 19 [6, 7] (iG (xs := p0.Slots) v3.toNat om (hi := fun _ => om)) ?_
     refine tk [20] ?_
     refine on 21 [6, 7] (gO) ?_
     refine tk [22, 23, 24] ?_
     refine dn hb ?_
     exact Run.at [0, 1] [6, 7] su (by decide)
    ·
     refine on1 19 [6, 7] (iG (xs := p0.Slots) v3.toNat om (hi := fun _ => om)) ?_
     refine tk [20] ?_
     refine o2 15 21 ?_ ?_
     ·
      refine on1 15 [6, 7] (gO) ?_
      refine on 21 [6, 7] (gO) ?_
      refine tk [22, 23, 24] ?_
      refine dn hb ?_
      exact Run.at [0, 1] [6, 7] su (by decide)
     ·
      refine on1 21 [6, 7] (gO) ?_
      refine on 15 [6, 7] (gO) ?_
      refine tk [22, 23, 24] ?_
      refine dn hb ?_
      exact Run.at [0, 1] [6, 7] su (by decide)
   ·
    refine on1 19 [4, 5] (iG (xs := p0.Slots) v3.toNat om (hi := fun _ => om)) ?_
    refine tk [20] ?_
    refine o2 13 21 ?_ ?_
    ·
     refine on1 13 [6, 7] (iG (xs := p0.Slots) i om) ?_
     refine tk [14] ?_
     refine o2 15 21 ?_ ?_
     ·
      refine on1 15 [6, 7] (gO) ?_
      refine on 21 [6, 7] (gO) ?_
      refine tk [22, 23, 24] ?_
      refine dn hb ?_
      exact Run.at [0, 1] [6, 7] su (by decide)
     ·
      refine on1 21 [6, 7] (gO) ?_
      refine on 15 [6, 7] (gO) ?_
      refine tk [22, 23, 24] ?_
      refine dn hb ?_
      exact Run.at [0, 1] [6, 7] su (by decide)
    ·
     refine on1 21 [4, 5] (gO) ?_
     refine on 13 [6, 7] (iG (xs := p0.Slots) i om) ?_
     refine tk [14] ?_
     refine on 15 [6, 7] (gO) ?_
     refine tk [22, 23, 24] ?_
     refine dn hb ?_
     exact Run.at [0, 1] [6, 7] su (by decide)
  refine Run.mid ⟨39, 2, [(1, .pt 0 0), (3, .v (.int .i64 (bif (((nth p0.Slots i).Whole) && ((decide (v3 < 0)) || (decide (((nth p0.Slots i).Seq) > ((nth p0.Slots v3.toNat).Seq))))) then (i : Int) else v3))), (4, .v (.int .i64 (i : Int)))], [(0, .var [.sl 1 p0.Slots.length, .v (.string p0.Journal.Text), .v (.int .i64 p0.Journal.Sure)] 40), (1, .ros Slot instDatSlot p0.Slots)]⟩ ?_ ?_
  ·refine cd (fun h2 => ?_) (fun h2 => ?_)
   ·
    refine ad 4 ?_
    exact Run.at [0, 1] [0, 1] (by first | exact su | (rw [h2]; exact su)) (by decide)
   ·
    refine ad 1 ?_
    exact Run.at [0, 1] [0, 1] (by first | exact su | (rw [h2]; exact su)) (by decide)
  refine ad 4 ?_
  rw [Qc9 (i := i) (by first | omega | exact om)]
  refine ad 2 ?_
  exact Run.again (bif (((nth p0.Slots i).Whole) && ((decide (v3 < 0)) || (decide (((nth p0.Slots i).Seq) > ((nth p0.Slots v3.toNat).Seq))))) then (i : Int) else v3, (i + 1)) [0, 1] [0, 1] ⟨by exact ⟨by (try dsimp only); omega, by (try dsimp only); ((try simp only [Bool.cond_eq_ite]); (repeat' split) <;> omega), by (try dsimp only); ((try simp only [Bool.cond_eq_ite]); (repeat' split) <;> omega)⟩, hM⟩ rfl (by show _ - _ < _ - _; (try dsimp only); omega) su (by decide)
 ·
  have h1l : ¬ (i < p0.Slots.length) := by have := of_decide_eq_false h1; omega
  have hM := hE.trans ((congrArg (fun n => Qbr p0 n v3 i) (show p0.Slots.length - i = 0 by omega)).trans (Qbr.eq_1 _ _ _))
  refine ad 6 ?_
  exact rz (rs := [.tmp 2]) (congrArg (fun x => [Re.c (.int .i64 x)]) hM)
def Qep (p0 : Disk) : Nat → Nat → Bool
 | 0, i => (Qf2 p0.Journal)
 | n + 1, i => bif ((nth p0.Slots i).Whole) && ((!(Qbz ((nth p0.Slots i).Seq) 0 99999)) || (!(Qic ((nth p0.Slots i).Cells)))) then false else (Qep p0 n (i + 1))
def Qgu (p0 : Disk) : Bool := bif (!decide ((p0.Slots.length : Int) = 2)) || ((!((nth p0.Slots 0).Whole)) && (!((nth p0.Slots 1).Whole))) then false else (Qep p0 (p0.Slots.length - 0) 0)
theorem Qo6 (p0 : Disk) : CTs 88 [.o (.st Disk _ inferInstance p0)] [Re.c (.bool (Qgu p0))] := by
 refine en Tryz.func88 Tryz.ntmps88 fun w hG hgd => ?_
 obtain ⟨hg_p0, _⟩ := hgd
 have hM := Qgu.eq_1 p0
 have hsl : p0.Slots.length ≤ 9223372036854775807 := hg_p0.1.1
 refine ad 13 ?_
 refine Run.midO ⟨50, 2, [(1, .pt 0 0), (24, .v (.bool ((!decide ((p0.Slots.length : Int) = 2)) || ((!((nth p0.Slots 0).Whole)) && (!((nth p0.Slots 1).Whole))))))], [(0, .var [.sl 1 p0.Slots.length, .v (.string p0.Journal.Text), .v (.int .i64 p0.Journal.Sure)] 40), (1, .ros Slot instDatSlot p0.Slots)]⟩ ?_ ?_
 ·refine bc 9 (fun h1 => ?_) (fun h1 => ?_)
  ·
   refine adu 16 ?_
   exact Run.at [1, 0] [0, 1] (by first | exact su | (rw [h1]; exact su)) (by decide)
  ·
   refine ad 5 ?_
   refine op (ix (xs := p0.Slots) 0 om) ?_
   refine ad 8 ?_
   refine Run.midO ⟨50, 2, [(1, .pt 0 0), (24, .v (.bool ((!((nth p0.Slots 0).Whole)) && (!((nth p0.Slots 1).Whole)))))], [(0, .var [.sl 1 p0.Slots.length, .v (.string p0.Journal.Text), .v (.int .i64 p0.Journal.Sure)] 40), (1, .ros Slot instDatSlot p0.Slots)]⟩ ?_ ?_
   ·refine bc 16 (fun h3 => ?_) (fun h3 => ?_)
    ·
     refine ad 5 ?_
     refine op (ix (xs := p0.Slots) 1 om) ?_
     refine ad 10 ?_
     exact Run.at [1, 0] [4, 5] (by first | exact su | (rw [h3]; exact su)) (by decide)
    ·
     refine ad 10 ?_
     exact Run.at [1, 0] [2, 3] (by first | exact su | (rw [h3]; exact su)) (by decide)
   exact Run.at [0, 1] [0, 1] (by first | exact su | (rw [h1]; exact su)) (by decide)
 refine cd (fun h5 => ?_) (fun h5 => ?_)
 ·
  have hM := hM.trans (bt h5)
  refine ad 4 ?_
  exact rz (rs := [.tmp 2]) (congrArg (fun x => [Re.c (.bool x)]) hM)
 ·
  have hM := hM.trans (bf h5)
  refine ad 10 ?_
  refine Run.loopM (ι := Nat) (fun s => Qep p0 (p0.Slots.length - s) s) (fun s => ⟨50, 2, [(1, .pt 0 0), (26, .sl 1 p0.Slots.length), (27, .v (.int .i64 (p0.Slots.length : Int))), (28, .v (.int .i64 (s : Int)))], [(0, .var [.sl 1 p0.Slots.length, .v (.string p0.Journal.Text), .v (.int .i64 p0.Journal.Sure)] 40), (1, .ros Slot instDatSlot p0.Slots)]⟩) (fun s => s ≤ p0.Slots.length) (fun s => p0.Slots.length - s) 0 [0, 1] [0, 1] hM (by first | exact ⟨by omega, by simp⟩ | omega | simp | (dsimp only; omega)) su (by decide) ?_
  rintro i hv hE
  try dsimp only at hE
  have hi := hv
  try dsimp only at hi
  refine ad 5 ?_
  refine cd (fun h6 => ?_) (fun h6 => ?_)
  ·
   have h6l : i < p0.Slots.length := by have := of_decide_eq_true h6; omega
   have hM := hE.trans ((congrArg (fun n => Qep p0 n i) (show p0.Slots.length - i = (p0.Slots.length - (i + 1)) + 1 by omega)).trans (Qep.eq_2 _ _ _))
   refine ad 5 ?_
   refine op (ix (xs := p0.Slots) i om) ?_
   refine ad 9 ?_
   refine ag 2 ?_
   refine op (cG (hct := fun hB => (Qfv ((nth p0.Slots i).Seq) 0 99999)) (hfn := Qxk)) ?_
   refine ag 4 ?_
   refine op (cG (hct := fun hB => (Qzo ((nth p0.Slots i).Cells))) (hfn := Yn0)) ?_
   refine ag 3 ?_
   refine ad 1 ?_
   refine cd (fun h8 => ?_) (fun h8 => ?_)
   ·
    have hM := hM.trans (bt h8)
    refine ad 4 ?_
    exact rz (rs := [.tmp 2]) (congrArg (fun x => [Re.c (.bool x)]) hM)
   ·
    have hM := hM.trans (bf h8)
    refine ad 4 ?_
    rw [Qc9 (i := i) (by first | omega | exact om)]
    refine ad 2 ?_
    exact Run.again (i + 1) [0, 1] [3, 4] ⟨by first | omega | exact trivial | (dsimp only; omega) | (refine ⟨by omega, ?_⟩; simp_all; try omega), hM⟩ rfl (by show _ - _ < _ - _; (try dsimp only); omega) su (by decide)
  ·
   have h6l : ¬ (i < p0.Slots.length) := by have := of_decide_eq_false h6; omega
   have hM := hE.trans ((congrArg (fun n => Qep p0 n i) (show p0.Slots.length - i = 0 by omega)).trans (Qep.eq_1 _ _))
   refine ad 5 ?_
   have hg9 : Dat.good (p0.Journal : Journal) := hg_p0.2
   refine op (cl (Qld p0.Journal) Ykm) ?_
   refine ad 2 ?_
   exact rz (rs := [.tmp 2]) (congrArg (fun x => [Re.c (.bool x)]) hM)
def Qcx (p0 : Disk) : Nat → Nat → Bool
 | 0, i => ((decide ((p0.Slots.length : Int) = 2)) && (decide ((Qae p0) ≥ 0))) && (Qah p0.Journal)
 | n + 1, i => bif ((nth p0.Slots i).Whole) && ((!(Qb1 ((nth p0.Slots i).Seq) 0 99999)) || (!(Qe0 ((nth p0.Slots i).Cells)))) then false else (Qcx p0 n (i + 1))
def Qfs (p0 : Disk) : Bool := Qcx p0 (p0.Slots.length - 0) 0
theorem Qoz (p0 : Disk) : CTs 79 [.o (.st Disk _ inferInstance p0)] [Re.c (.bool (Qfs p0))] := by
 refine en Tryz.func79 Tryz.ntmps79 fun w hG hgd => ?_
 obtain ⟨hg_p0, _⟩ := hgd
 have hM := Qfs.eq_1 p0
 have hsl : p0.Slots.length ≤ 9223372036854775807 := hg_p0.1.1
 refine ad 11 ?_
 refine Run.loopM (ι := Nat) (fun s => Qcx p0 (p0.Slots.length - s) s) (fun s => ⟨45, 2, [(1, .pt 0 0), (3, .v (.int .i64 (s : Int)))], [(0, .var [.sl 1 p0.Slots.length, .v (.string p0.Journal.Text), .v (.int .i64 p0.Journal.Sure)] 40), (1, .ros Slot instDatSlot p0.Slots)]⟩) (fun s => s ≤ p0.Slots.length) (fun s => p0.Slots.length - s) 0 [1, 0] [0, 1] hM (by first | exact ⟨by omega, by simp⟩ | omega | simp | (dsimp only; omega)) su (by decide) ?_
 rintro i hv hE
 try dsimp only at hE
 have hi := hv
 try dsimp only at hi
 refine ad 9 ?_
 refine cd (fun h1 => ?_) (fun h1 => ?_)
 ·
  have h1l : i < p0.Slots.length := by have := of_decide_eq_true h1; omega
  have hM := hE.trans ((congrArg (fun n => Qcx p0 n i) (show p0.Slots.length - i = (p0.Slots.length - (i + 1)) + 1 by omega)).trans (Qcx.eq_2 _ _ _))
  refine ad 8 ?_
  refine op (ix (xs := p0.Slots) i om) ?_
  refine ad 9 ?_
  refine ag 2 ?_
  refine op (cG (hct := fun hB => (Qgb ((nth p0.Slots i).Seq) 0 99999)) (hfn := Qxl)) ?_
  refine ag 4 ?_
  refine op (cG (hct := fun hB => (Qy6 ((nth p0.Slots i).Cells))) (hfn := Yn9)) ?_
  refine ag 3 ?_
  refine ad 1 ?_
  refine cd (fun h3 => ?_) (fun h3 => ?_)
  ·
   have hM := hM.trans (bt h3)
   refine ad 4 ?_
   exact rz (rs := [.tmp 2]) (congrArg (fun x => [Re.c (.bool x)]) hM)
  ·
   have hM := hM.trans (bf h3)
   refine ad 5 ?_
   rw [Qc9 (i := i) (by first | omega | exact om)]
   refine ad 2 ?_
   exact Run.again (i + 1) [0, 1] [3, 4] ⟨by first | omega | exact trivial | (dsimp only; omega) | (refine ⟨by omega, ?_⟩; simp_all; try omega), hM⟩ rfl (by show _ - _ < _ - _; (try dsimp only); omega) su (by decide)
 ·
  have h1l : ¬ (i < p0.Slots.length) := by have := of_decide_eq_false h1; omega
  have hM := hE.trans ((congrArg (fun n => Qcx p0 n i) (show p0.Slots.length - i = 0 by omega)).trans (Qcx.eq_1 _ _))
  refine ad 8 ?_
  refine ag 1 ?_
  refine op (cG (hct := fun hB => (Qjg p0)) (hfn := Ylr)) ?_
  refine ag 2 ?_
  refine ad 1 ?_
  refine ag 2 ?_
  have hg4 : Dat.good (p0.Journal : Journal) := hg_p0.2
  refine op (cG (hct := fun hB => (Qk9 p0.Journal)) (hfn := Yko)) ?_
  refine ag 1 ?_
  refine ad 2 ?_
  exact rz (rs := [.tmp 2]) (congrArg (fun x => [Re.c (.bool x)]) hM)
end
section
open Go.RowKit
theorem Ykc : FnOk Tryz.prog 224 := ⟨_, Tryz.func224, rfl, by kernel_rfl⟩
theorem Ym0 : FnOk Tryz.prog 272 := ⟨_, Tryz.func272, rfl, by kernel_rfl⟩
def Qjq (p0 : ByteArray) : ByteArray × Bool := bif decide ((p0.size : Int) > 20000) then (⟨#[]⟩, false) else ((Qid (Qax p0)), true)
theorem Ygc (p0 : ByteArray) (hz_p0 : p0.size ≤ 9223372036854775807) : CTs 272 [.o (.c (.string p0))] [Re.c (.string ((Qjq p0).1)), Re.c (.bool ((Qjq p0).2))] := by
 refine en Tryz.func272 Tryz.ntmps272 fun w hG hgd => ?_
 have hM := Qjq.eq_1 p0
 refine ad 12 ?_
 refine cd (fun h1 => ?_) (fun h1 => ?_)
 ·
  have hM := hM.trans (bt h1)
  refine ad 5 ?_
  exact rz (rs := [.tmp 2, .tmp 3]) (congrArg (fun x => [Re.c (.string x.1), Re.c (.bool x.2)]) hM)
 ·
  have hM := hM.trans (bf h1)
  refine ad 4 ?_
  refine op (tb (hs := hz_p0)) ?_
  refine op (cl (Yad (Qax p0) (by first | (rw [Qbf]; exact om) | (simp at hB; omega))) Ykb) ?_
  refine ad 3 ?_
  exact rz (rs := [.tmp 2, .tmp 3]) (congrArg (fun x => [Re.c (.string x.1), Re.c (.bool x.2)]) hM)
def Qe4 (p0 : ByteArray) : ByteArray := (Qjq p0).1
theorem Qvu (p0 : ByteArray) (hz_p0 : p0.size ≤ 9223372036854775807) : CTs 247 [.o (.c (.string p0))] [Re.c (.string (Qe4 p0))] := by
 refine en Tryz.func247 Tryz.ntmps247 fun w hG hgd => ?_
 have hM := Qe4.eq_1 p0
 refine ad 7 ?_
 refine op (cl (Ygc p0 hz_p0) Ym0) ?_
 refine ad 11 ?_
 exact rz (rs := [.tmp 2]) (congrArg (fun x => [Re.c (.string x)]) hM)
def Qfq (p0 : ByteArray) : Nat → (List UInt8) → Nat → ByteArray × Bool
 | 0, v4, i => (bstr v4, true)
 | n + 1, v4, i => Qfq p0 n (v4 ++ [fig (IntKind.i64.wrap (Int.tdiv (IntKind.i64.wrap ((Qak p0 i).toNat : Int)) 16)), fig (Int.tmod (IntKind.i64.wrap ((Qak p0 i).toNat : Int)) 16)]) (i + 1)
def Qde (p0 : ByteArray) : ByteArray × Bool := bif decide ((p0.size : Int) > 20000) then (⟨#[]⟩, false) else (Qfq p0 (p0.size - 0) ([] : List UInt8) 0)
theorem Q5o (p0 : ByteArray) (hz_p0 : p0.size ≤ 9223372036854775807) : CTs 238 [.o (.c (.string p0))] [Re.c (.string ((Qde p0).1)), Re.c (.bool ((Qde p0).2))] := by
 refine en Tryz.func238 Tryz.ntmps238 fun w hG hgd => ?_
 have hM := Qde.eq_1 p0
 refine ad 12 ?_
 refine cd (fun h1 => ?_) (fun h1 => ?_)
 ·
  have hM := hM.trans (bt h1)
  refine ad 5 ?_
  exact rz (rs := [.tmp 2, .tmp 3]) (congrArg (fun x => [Re.c (.string x.1), Re.c (.bool x.2)]) hM)
 ·
  have hM := hM.trans (bf h1)
  refine ad 3 ?_
  refine op (l0) ?_
  refine ad 8 ?_
  refine li 0 (d := instDatUInt8) ([] : List UInt8) ?_
  refine Run.loopM (ι := (List UInt8) × Nat) (fun s => Qfq p0 (p0.size - s.2) s.1 s.2) (fun s => ⟨33, 1, [(0, .v (.string p0)), (4, .sl 0 s.1.length), (5, .v (.int .i64 (s.2 : Int)))], [(0, .own UInt8 instDatUInt8 s.1)]⟩) (fun s => s.2 ≤ p0.size ∧ s.1.length = 2 * s.2) (fun s => p0.size - s.2) (([] : List UInt8), 0) [0] [0] hM (by dsimp only; exact ⟨by omega, rfl⟩) su (by decide) ?_
  rintro ⟨v4, i⟩ hv hE
  try dsimp only at hE
  obtain ⟨hi, hv0⟩ := hv
  try dsimp only at hi hv0
  refine ad 8 ?_
  refine cd (fun h2 => ?_) (fun h2 => ?_)
  ·
   have h2l : i < p0.size := by have := of_decide_eq_true h2; omega
   have hM := hE.trans ((congrArg (fun n => Qfq p0 n v4 i) (show p0.size - i = (p0.size - (i + 1)) + 1 by omega)).trans (Qfq.eq_2 _ _ _ _))
   refine ad 3 ?_
   refine ds 16 [] fun _ _ _ _ _ hb => ?_
   refine tk [0, 1, 2] ?_
   refine tx 3 (tsx (s := p0) i om) ?_
   refine tk [4] ?_
   refine tx 5 (tqo) ?_
   refine tk [7, 8] ?_
   refine tx 9 (tsx (s := p0) i om) ?_
   refine tk [10] ?_
   refine tx 11 (trm) ?_
   refine on 6 [] (cl (Qk7 (IntKind.i64.wrap (Int.tdiv (IntKind.i64.wrap ((Qak p0 i).toNat : Int)) 16))) Ykc) ?_
   refine on 12 [] (cl (Qk7 (Int.tmod (IntKind.i64.wrap ((Qak p0 i).toNat : Int)) 16)) Ykc) ?_
   refine on 13 [] (OpS.st rfl) ?_
   refine on 14 [] (ap [fig (IntKind.i64.wrap (Int.tdiv (IntKind.i64.wrap ((Qak p0 i).toNat : Int)) 16)), fig (Int.tmod (IntKind.i64.wrap ((Qak p0 i).toNat : Int)) 16)] (hg := gdt) (hb := by simp only [List.length_cons, List.length_nil]; first | omega | exact om)) ?_
   refine tk [15] ?_
   refine dn hb ?_
   refine ad 4 ?_
   rw [Qc9 (i := i) (by first | omega | exact om)]
   refine ad 2 ?_
   exact Run.again ((v4 ++ [fig (IntKind.i64.wrap (Int.tdiv (IntKind.i64.wrap ((Qak p0 i).toNat : Int)) 16)), fig (Int.tmod (IntKind.i64.wrap ((Qak p0 i).toNat : Int)) 16)]), (i + 1)) [2] [1] ⟨by dsimp only; exact ⟨by omega, by simp only [List.length_append, List.length_cons, List.length_nil]; omega⟩, hM⟩ rfl (by show _ - _ < _ - _; (try dsimp only); omega) su (by decide)
  ·
   have h2l : ¬ (i < p0.size) := by have := of_decide_eq_false h2; omega
   have hM := hE.trans ((congrArg (fun n => Qfq p0 n v4 i) (show p0.size - i = 0 by omega)).trans (Qfq.eq_1 _ _ _))
   refine ad 4 ?_
   refine op (ts v4) ?_
   refine ad 3 ?_
   exact rz (rs := [.tmp 2, .tmp 3]) (congrArg (fun x => [Re.c (.string x.1), Re.c (.bool x.2)]) hM)
end
section
open Go.RowKit
theorem Yf6 : ∀ n : Fin 256, fig (IntKind.i64.wrap (Int.tdiv (IntKind.i64.wrap ((n.val : Nat) : Int)) 16)) = Lib.Hx.digit (n.val / 16) ∧ fig (Int.tmod (IntKind.i64.wrap ((n.val : Nat) : Int)) 16) = Lib.Hx.digit (n.val % 16) := by decide +kernel
theorem Ycx (b : UInt8) : fig (IntKind.i64.wrap (Int.tdiv (IntKind.i64.wrap (b.toNat : Int)) 16)) = Lib.Hx.digit (b.toNat / 16) ∧ fig (Int.tmod (IntKind.i64.wrap (b.toNat : Int)) 16) = Lib.Hx.digit (b.toNat % 16) := Yf6 ⟨b.toNat, b.toNat_lt⟩
theorem Qyr (p0 : ByteArray) : ∀ n i v, n = p0.size - i → Qfq p0 n v i = (bstr (v ++ Lib.Hx.encode ((Qax p0).drop i)), true) := by
  intro n
  induction n with
  | zero =>
    intro i v h
    rw [List.drop_eq_nil_of_le (by rw [Qbf]; omega)]
    show (bstr v, true) = _
    rw [show Lib.Hx.encode [] = [] from rfl, List.append_nil]
  | succ n ih =>
    intro i v h
    have hi : i < (Qax p0).length := by rw [Qbf]; omega
    rw [Qfq, ih _ _ (by omega), List.drop_eq_getElem_cons hi, Lib.Hx.encode_cons, Q93 hi, (Ycx _).1, (Ycx _).2, List.append_assoc]
    rfl
theorem Qm7 {p0 : ByteArray} (h : p0.size ≤ 20000) : (Qde p0).1 = Qid (Qax p0) := by
  unfold Qde
  have hc : ¬ (p0.size : Int) > 20000 := by omega
  simp only [hc, decide_false, cond_false]
  rw [Qyr p0 _ _ _ rfl]
  rfl
theorem Qxh (p0 : ByteArray) : (Qjq p0).1.size ≤ 40000 := by
  unfold Qjq
  cases hc : decide ((p0.size : Int) > 20000) with
  | true => exact Nat.zero_le _
  | false =>
    have := of_decide_eq_false hc
    show (Qid (Qax p0)).size ≤ 40000
    rw [Qkt, Qbf]
    omega
theorem Qwz (p0 : ByteArray) : (Qde p0).1.size ≤ 40000 := by
  by_cases h : p0.size ≤ 20000
  · rw [Qm7 h, Qkt, Qbf]
    omega
  · unfold Qde
    rw [decide_eq_true (show (p0.size : Int) > 20000 by omega)]
    exact Nat.zero_le _
end
section
open Go.RowKit
theorem Ykl : FnOk Tryz.prog 165 := ⟨_, Tryz.func165, rfl, by kernel_rfl⟩
theorem Yhl : FnOk Tryz.prog 166 := ⟨_, Tryz.func166, rfl, by kernel_rfl⟩
theorem Ynw : FnOk Tryz.prog 167 := ⟨_, Tryz.func167, rfl, by kernel_rfl⟩
def Qb4 (p0 : List Cell) : (List Cell) := (([] : List Cell) ++ p0)
theorem Qei (p0 : List Cell) (hb : p0.length ≤ 1073741824) : CTs 91 [.o (.sl Cell instDatCell p0)] [Re.sl Cell instDatCell (Qb4 p0)] := by
 refine en Tryz.func91 Tryz.ntmps91 fun w hG hgd => ?_
 obtain ⟨hg_p0, _⟩ := hgd
 have hl_p0 : p0.length ≤ 9223372036854775807 := hg_p0.1
 have hM := Qb4.eq_1 p0
 refine ad 8 ?_
 refine ox nl fun nb1 hnb1 => ?_
 refine ad 1 ?_
 refine cd (fun h2 => ?_) (fun h2 => ?_)
 ·
  obtain rfl : p0 = [] := hnb1 h2
  have hM : Qb4 [] = [] := rfl
  refine ad 4 ?_
  exact rz (rs := [.tmp 2]) (congrArg (fun x => [Re.sl Cell instDatCell x]) hM)
 ·
  refine ad 3 ?_
  refine op (l0) ?_
  refine ad 1 ?_
  refine li 1 (d := instDatCell) ([] : List Cell) ?_
  refine op (aS (dα := instDatCell) (e := 114) (by' := 32) ([] : List Cell) p0 [1] (hb := by (try simp only [List.length_append, List.length_cons, List.length_nil]); first | omega | exact om) (hm := by (try simp only [List.length_append, List.length_cons, List.length_nil]); first | omega | exact om)) ?_
  refine ad 2 ?_
  exact rz (rs := [.tmp 2]) (congrArg (fun x => [Re.sl Cell instDatCell x]) hM)
def Qbk (p0 : Cell) (c0 : ByteArray) : Bool := decide (p0.Key = c0)
theorem Qvt (p0 : Cell) (c0 : ByteArray) : CTs 165 [.o (.st Cell _ inferInstance p0), .o (.rp ByteArray instDatByteArray inferInstance c0)] [Re.c (.bool (Qbk p0 c0))] := by
 refine en Tryz.func165 Tryz.ntmps165 fun w hG hgd => ?_
 obtain ⟨hg_p0, hg_c0, _⟩ := hgd
 have hM := Qbk.eq_1 p0 c0
 refine ad 13 ?_
 exact rz (rs := [.tmp 3]) (congrArg (fun x => [Re.c (.bool x)]) hM)
def Qg4 (p0 : Cell) (c0 : ByteArray) : Bool := !(ltB p0.Key c0 || decide (p0.Key = c0))
theorem Yav (p0 : Cell) (c0 : ByteArray) : CTs 167 [.o (.st Cell _ inferInstance p0), .o (.rp ByteArray instDatByteArray inferInstance c0)] [Re.c (.bool (Qg4 p0 c0))] := by
 refine en Tryz.func167 Tryz.ntmps167 fun w hG hgd => ?_
 obtain ⟨hg_p0, hg_c0, _⟩ := hgd
 have hM := Qg4.eq_1 p0 c0
 refine ad 10 ?_
 refine op (sQ) ?_
 refine ad 2 ?_
 exact rz (rs := [.tmp 3]) (congrArg (fun x => [Re.c (.bool x)]) hM)
def Qau (p0 : List Cell) (p1_0 : ByteArray) : Nat → Nat → Int
 | 0, i => (-1)
 | n + 1, i => bif Qbk (nth p0 i) p1_0 then (i : Int) else (Qau p0 p1_0 n (i + 1))
def Qa2 (p0 : List Cell) (p1_0 : ByteArray) : Int := Qau p0 p1_0 (p0.length - 0) 0
theorem Qjl (p0 : List Cell) (p1_0 : ByteArray) (hk : Dat.good p1_0) : CTs 166 [.o (.sl Cell instDatCell p0), .fn 165 [.rp ByteArray instDatByteArray inferInstance p1_0]] [Re.c (.int .i64 (Qa2 p0 p1_0))] := by
 refine en Tryz.func166 Tryz.ntmps166 fun w hG hgd => ?_
 obtain ⟨hg_p0, _⟩ := hgd
 have hl_p0 : p0.length ≤ 9223372036854775807 := hg_p0.1
 have hM := Qa2.eq_1 p0 p1_0
 refine ad 12 ?_
 refine Run.loopM (ι := Nat) (fun s => Qau p0 p1_0 (p0.length - s) s) (fun s => ⟨19, 2, [(0, .sl 0 p0.length), (1, .fn 165 [.pt 1 0]), (7, .v (.int .i64 (p0.length : Int))), (8, .v (.int .i64 (s : Int)))], [(0, .ros Cell instDatCell p0), (1, .roc [.v (.string p1_0)])]⟩) (fun s => s ≤ p0.length) (fun s => p0.length - s) 0 [0, 1] [0, 1] hM (by first | exact ⟨by omega, by simp⟩ | omega | simp | (dsimp only; omega)) su (by decide) ?_
 rintro i hv hE
 try dsimp only at hE
 have hi := hv
 try dsimp only at hi
 refine ad 5 ?_
 refine cd (fun h1 => ?_) (fun h1 => ?_)
 ·
  have h1l : i < p0.length := by have := of_decide_eq_true h1; omega
  have hM := hE.trans ((congrArg (fun n => Qau p0 p1_0 n i) (show p0.length - i = (p0.length - (i + 1)) + 1 by omega)).trans (Qau.eq_2 _ _ _ _))
  refine ad 13 ?_
  have hg3 := Qar (k := i) hg_p0 om
  refine op (ix (xs := p0) i om) ?_
  refine ad 1 ?_
  have hg4 : Dat.good (nth p0 i : Cell) := hg3
  refine op (cl (Qvt (nth p0 i) p1_0) Ykl) ?_
  refine ad 1 ?_
  refine cd (fun h5 => ?_) (fun h5 => ?_)
  ·
   have hM := hM.trans (bt h5)
   refine ad 5 ?_
   exact rz (rs := [.tmp 4]) (congrArg (fun x => [Re.c (.int .i64 x)]) hM)
  ·
   have hM := hM.trans (bf h5)
   refine ad 4 ?_
   rw [Qc9 (i := i) (by first | omega | exact om)]
   refine ad 2 ?_
   exact Run.again (i + 1) [0, 1] [1, 2] ⟨by first | omega | exact trivial | (dsimp only; omega) | (refine ⟨by omega, ?_⟩; simp_all; try omega), hM⟩ rfl (by show _ - _ < _ - _; (try dsimp only); omega) su (by decide)
 ·
  have h1l : ¬ (i < p0.length) := by have := of_decide_eq_false h1; omega
  have hM := hE.trans ((congrArg (fun n => Qau p0 p1_0 n i) (show p0.length - i = 0 by omega)).trans (Qau.eq_1 _ _ _))
  refine ad 5 ?_
  exact rz (rs := [.tmp 4]) (congrArg (fun x => [Re.c (.int .i64 x)]) hM)
theorem Qh4 (p0 : List Cell) (k : ByteArray) : ∀ n i, i + n = p0.length → -1 ≤ Qau p0 k n i ∧ Qau p0 k n i < p0.length := by
 intro n
 induction n with
 | zero => intro i _; rw [Qau]; omega
 | succ n ih =>
  intro i h
  rw [Qau]
  cases Qbk (nth p0 i) k with
  | false => exact ih (i + 1) (by omega)
  | true => show -1 ≤ (i : Int) ∧ (i : Int) < p0.length; omega
theorem Qi3 (p0 : List Cell) (k : ByteArray) : -1 ≤ Qa2 p0 k ∧ Qa2 p0 k < p0.length := Qh4 p0 k _ 0 (by omega)
def Qat (p0 : List Cell) (p1_0 : ByteArray) : Nat → Nat → Int
 | 0, i => (-1)
 | n + 1, i => bif Qg4 (nth p0 i) p1_0 then (i : Int) else (Qat p0 p1_0 n (i + 1))
def Qa7 (p0 : List Cell) (p1_0 : ByteArray) : Int := Qat p0 p1_0 (p0.length - 0) 0
theorem Qjk (p0 : List Cell) (p1_0 : ByteArray) (hk : Dat.good p1_0) : CTs 166 [.o (.sl Cell instDatCell p0), .fn 167 [.rp ByteArray instDatByteArray inferInstance p1_0]] [Re.c (.int .i64 (Qa7 p0 p1_0))] := by
 refine en Tryz.func166 Tryz.ntmps166 fun w hG hgd => ?_
 obtain ⟨hg_p0, _⟩ := hgd
 have hl_p0 : p0.length ≤ 9223372036854775807 := hg_p0.1
 have hM := Qa7.eq_1 p0 p1_0
 refine ad 12 ?_
 refine Run.loopM (ι := Nat) (fun s => Qat p0 p1_0 (p0.length - s) s) (fun s => ⟨19, 2, [(0, .sl 0 p0.length), (1, .fn 167 [.pt 1 0]), (7, .v (.int .i64 (p0.length : Int))), (8, .v (.int .i64 (s : Int)))], [(0, .ros Cell instDatCell p0), (1, .roc [.v (.string p1_0)])]⟩) (fun s => s ≤ p0.length) (fun s => p0.length - s) 0 [0, 1] [0, 1] hM (by first | exact ⟨by omega, by simp⟩ | omega | simp | (dsimp only; omega)) su (by decide) ?_
 rintro i hv hE
 try dsimp only at hE
 have hi := hv
 try dsimp only at hi
 refine ad 5 ?_
 refine cd (fun h1 => ?_) (fun h1 => ?_)
 ·
  have h1l : i < p0.length := by have := of_decide_eq_true h1; omega
  have hM := hE.trans ((congrArg (fun n => Qat p0 p1_0 n i) (show p0.length - i = (p0.length - (i + 1)) + 1 by omega)).trans (Qat.eq_2 _ _ _ _))
  refine ad 13 ?_
  have hg3 := Qar (k := i) hg_p0 om
  refine op (ix (xs := p0) i om) ?_
  refine ad 1 ?_
  have hg4 : Dat.good (nth p0 i : Cell) := hg3
  refine op (cl (Yav (nth p0 i) p1_0) Ynw) ?_
  refine ad 1 ?_
  refine cd (fun h5 => ?_) (fun h5 => ?_)
  ·
   have hM := hM.trans (bt h5)
   refine ad 5 ?_
   exact rz (rs := [.tmp 4]) (congrArg (fun x => [Re.c (.int .i64 x)]) hM)
  ·
   have hM := hM.trans (bf h5)
   refine ad 4 ?_
   rw [Qc9 (i := i) (by first | omega | exact om)]
   refine ad 2 ?_
   exact Run.again (i + 1) [0, 1] [1, 2] ⟨by first | omega | exact trivial | (dsimp only; omega) | (refine ⟨by omega, ?_⟩; simp_all; try omega), hM⟩ rfl (by show _ - _ < _ - _; (try dsimp only); omega) su (by decide)
 ·
  have h1l : ¬ (i < p0.length) := by have := of_decide_eq_false h1; omega
  have hM := hE.trans ((congrArg (fun n => Qat p0 p1_0 n i) (show p0.length - i = 0 by omega)).trans (Qat.eq_1 _ _ _))
  refine ad 5 ?_
  exact rz (rs := [.tmp 4]) (congrArg (fun x => [Re.c (.int .i64 x)]) hM)
theorem Qh3 (p0 : List Cell) (k : ByteArray) : ∀ n i, i + n = p0.length → -1 ≤ Qat p0 k n i ∧ Qat p0 k n i < p0.length := by
 intro n
 induction n with
 | zero => intro i _; rw [Qat]; omega
 | succ n ih =>
  intro i h
  rw [Qat]
  cases Qg4 (nth p0 i) k with
  | false => exact ih (i + 1) (by omega)
  | true => show -1 ≤ (i : Int) ∧ (i : Int) < p0.length; omega
theorem Qi2 (p0 : List Cell) (k : ByteArray) : -1 ≤ Qa7 p0 k ∧ Qa7 p0 k < p0.length := Qh3 p0 k _ 0 (by omega)
def Qb8 (p0 : List Cell) (p1_0 : ByteArray) (k_1 : ((List Cell) × Int) → (List Cell)) : Nat → (List Cell) → Int → Int → (List Cell)
 | 0, w0_1, v5_1, v6_1 => k_1 (w0_1, v5_1)
 | n_1 + 1, w0_1, v5_1, v6_1 => bif decide (v6_1 < (w0_1.length : Int)) then (Qb8 p0 p1_0 k_1 n_1 (bif (!(Qbk (nth w0_1 v6_1.toNat) p1_0)) then (w0_1.set v5_1.toNat (nth w0_1 v6_1.toNat)) else w0_1) (bif (!(Qbk (nth w0_1 v6_1.toNat) p1_0)) then (IntKind.i64.wrap (v5_1 + 1)) else v5_1) (IntKind.i64.wrap (v6_1 + 1))) else (k_1 (w0_1, v5_1))
theorem Qi4 (p0 : List Cell) (p1_0 : ByteArray) (k_1 : ((List Cell) × Int) → (List Cell)) (fu : Nat) (w0_1 : List Cell) (v5_1 : Int) (v6_1 : Int) (h : (decide (v6_1 < (w0_1.length : Int))) = false) : Qb8 p0 p1_0 k_1 fu w0_1 v5_1 v6_1 = k_1 (w0_1, v5_1) := by
 cases fu with
 | zero => rfl
 | succ n => exact (bf h)
def Qag (p0 : List Cell) (p1_0 : ByteArray) : (List Cell) := bif decide ((Qa2 p0 p1_0) = (-1)) then p0 else (Qb8 p0 p1_0 (fun e => (List.take e.2.toNat (List.take e.2.toNat e.1 ++ List.replicate (e.1.length - e.2.toNat) (Cell.mk ⟨#[]⟩ ⟨#[]⟩)))) (p0.length - (IntKind.i64.wrap ((Qa2 p0 p1_0) + 1)).toNat) p0 (Qa2 p0 p1_0) (IntKind.i64.wrap ((Qa2 p0 p1_0) + 1)))
theorem Qkj (p0 : List Cell) (p1_0 : ByteArray) (hk : Dat.good p1_0) : CTMs 164 0 2 [(0, .own Cell instDatCell p0)] [(1, .roc [.v (.string p1_0)])] [.sl 0 p0.length, .fn 165 [.pt 1 0]] [(0, .own Cell instDatCell (Qag p0 p1_0))] 1 [.sl 0 ((Qag p0 p1_0).length)] True := by
 refine enM Tryz.func164 Tryz.ntmps164 fun S w p hG hb hg => ?_
 refine Run.cg (σ' := ⟨42, 2, [(0, .sl 0 p0.length), (1, .fn 165 [.pt 1 0])], [(0, .own Cell instDatCell p0), (1, .roc [.v (.string p1_0)])]⟩) rfl ?_
 refine gd 0 fun hg_p0 => ?_
 have hl_p0 : p0.length ≤ 9223372036854775807 := hg_p0.1
 have hM := Qag.eq_1 p0 p1_0
 have hin := Qi3 p0 p1_0
 refine ad 8 ?_
 refine op (cl (Qjl p0 p1_0 (by first | assumption | exact gs _ | exact Qgw (by unfold I64; omega) (by decide) | (show ByteArray.size _ ≤ _; unfold maxLen; omega))) Yhl) ?_
 refine ad 8 ?_
 refine cd (fun h1 => ?_) (fun h1 => ?_)
 ·
  have hM := hM.trans (bt h1)
  refine ad 5 ?_
  exact rzM (rs := [.tmp 4]) [0] [0] (hg1 := trivial) (hG1 := congrArg (fun x => (True : Prop)) hM) (congrArg (fun x => ([(0, .own Cell instDatCell x)] : List (Nat × En))) hM) (congrArg (fun x => ([.sl 0 x.length] : List V)) hM)
 ·
  have hM := hM.trans (bf h1)
  have hne := of_decide_eq_false h1
  have hw := IntWalk.i64_in (Qa2 p0 p1_0 + 1) (by omega)
  refine ad 9 ?_
  refine Run.loopkM (ι := Nat × (List Cell) × Int × Int) (κ := (List Cell) × Int) (fun k s => Qb8 p0 p1_0 k s.1 s.2.1 s.2.2.1 s.2.2.2) (fun s => ⟨42, 2, [(0, .sl 0 s.2.1.length), (1, .fn 165 [.pt 1 0]), (5, .v (.int .i64 s.2.2.1)), (6, .v (.int .i64 s.2.2.2))], [(0, .own Cell instDatCell s.2.1), (1, .roc [.v (.string p1_0)])]⟩) (fun s => p0.length - s.2.2.2.toNat ≤ s.1 ∧ s.2.1.length = p0.length ∧ 0 ≤ s.2.2.1 ∧ s.2.2.1 < s.2.2.2 ∧ s.2.2.2 ≤ (p0.length : Int)) (fun s => s.1) (fun e => ⟨42, 1, [(0, .sl 0 e.1.length), (5, .v (.int .i64 e.2))], [(0, .own Cell instDatCell e.1)]⟩) (fun e => 0 ≤ e.2 ∧ e.2 ≤ (e.1.length : Int)) (p0.length - (IntKind.i64.wrap ((Qa2 p0 p1_0) + 1)).toNat, p0, (Qa2 p0 p1_0), IntKind.i64.wrap ((Qa2 p0 p1_0) + 1)) [0, 1] [0, 1] hM (by exact ⟨Nat.le_refl _, rfl, by (try dsimp only); omega, by (try dsimp only); rw [hw]; omega, by (try dsimp only); rw [hw]; omega⟩) su (by decide) ?_ ?_
  ·
   rintro ⟨ew0_1, ev5_1⟩ hv hM
   try dsimp only at hM hv ⊢
   refine ad 4 ?_
   refine clr (xs := ew0_1) (Cell.mk ⟨#[]⟩ ⟨#[]⟩) ev5_1.toNat om ?_ (hi := om) (hzo := Ygj)
   refine ad 5 ?_
   refine op (cO (xs := (List.take ev5_1.toNat ew0_1 ++ List.replicate (ew0_1.length - ev5_1.toNat) (Cell.mk ⟨#[]⟩ ⟨#[]⟩))) ev5_1.toNat (by first | omega | exact om | (simp only [List.length_append, List.length_take, List.length_replicate, List.length_set]; omega)) (hl := by first | rfl | (simp only [List.length_append, List.length_take, List.length_replicate, List.length_set]; omega)) (hi := om)) ?_
   refine ad 2 ?_
   exact rzM (rs := [.tmp 4]) [2] [0] (hg1 := trivial) (hG1 := congrArg (fun x => (True : Prop)) hM) (congrArg (fun x => ([(0, .own Cell instDatCell x)] : List (Nat × En))) hM) (congrArg (fun x => ([.sl 0 x.length] : List V)) hM)
  ·
   intro k_1 hk_1
   rintro ⟨fu_1, w0_1, v5_1, v6_1⟩ hv_1 hE
   try dsimp only at hE
   obtain ⟨hi_1, hv_1_0, hv_1_1, hv_1_2, hv_1_3⟩ := hv_1
   try dsimp only at hi_1 hv_1_0 hv_1_1 hv_1_2 hv_1_3
   refine ad 8 ?_
   refine cd (fun h2 => ?_) (fun h2 => ?_)
   ·
    obtain ⟨n_1, rfl⟩ : ∃ n, fu_1 = n + 1 := ⟨fu_1 - 1, by have := h2; have := om (p := 0 < p0.length - v6_1.toNat); omega⟩
    have hM := hE.trans ((Qb8.eq_2 _ _ _ _ _ _ _).trans (bt h2))
    have hlt := of_decide_eq_true h2
    have hw6 := IntWalk.i64_in (v6_1 + 1) (by omega)
    have hw5 := IntWalk.i64_in (v5_1 + 1) (by omega)
    refine ad 7 ?_
    refine op (oi (xs := w0_1) v6_1.toNat om (hi := om)) ?_
    refine gd 0 fun hg3 => ?_
    have hg4 := Qar (k := v6_1.toNat) hg3 om
    refine op (lo (xs := w0_1) v6_1.toNat om) ?_
    refine ad 7 ?_
    refine op (cl (Qvt (nth w0_1 v6_1.toNat) p1_0) Ykl) ?_
    refine ad 2 ?_
    refine Run.mid ⟨42, 2, [(0, .sl 0 ((bif (!(Qbk (nth w0_1 v6_1.toNat) p1_0)) then (w0_1.set v5_1.toNat (nth w0_1 v6_1.toNat)) else w0_1).length)), (1, .fn 165 [.pt 1 0]), (5, .v (.int .i64 (bif (!(Qbk (nth w0_1 v6_1.toNat) p1_0)) then (IntKind.i64.wrap (v5_1 + 1)) else v5_1))), (6, .v (.int .i64 v6_1))], [(0, .own Cell instDatCell (bif (!(Qbk (nth w0_1 v6_1.toNat) p1_0)) then (w0_1.set v5_1.toNat (nth w0_1 v6_1.toNat)) else w0_1)), (1, .roc [.v (.string p1_0)])]⟩ ?_ ?_
    ·refine cd (fun h5 => ?_) (fun h5 => ?_)
     ·
      refine ad 5 ?_
      refine op (oi (xs := w0_1) v5_1.toNat om (hi := om)) ?_
      refine op (se (xs := w0_1) v5_1.toNat (nth w0_1 v6_1.toNat) hg4 om) ?_
      refine ad 6 ?_
      exact Run.at [3, 1] [0, 2] (by first | exact su | (rw [h5]; exact su)) (by decide)
     ·
      refine ad 1 ?_
      exact Run.at [0, 1] [1, 2] (by first | exact su | (rw [h5]; exact su)) (by decide)
    refine ad 6 ?_
    exact Run.again (n_1, bif (!(Qbk (nth w0_1 v6_1.toNat) p1_0)) then (w0_1.set v5_1.toNat (nth w0_1 v6_1.toNat)) else w0_1, bif (!(Qbk (nth w0_1 v6_1.toNat) p1_0)) then (IntKind.i64.wrap (v5_1 + 1)) else v5_1, IntKind.i64.wrap (v6_1 + 1)) [0, 1] [0, 1] ⟨by exact ⟨by (try dsimp only); rw [hw6]; omega, by ((try dsimp only); (try rw [hw5]); (try rw [hw6]); cases Qbk (nth w0_1 v6_1.toNat) p1_0 <;> simp only [Bool.not_true, Bool.not_false, cond_true, cond_false, List.length_set] <;> omega), by ((try dsimp only); (try rw [hw5]); (try rw [hw6]); cases Qbk (nth w0_1 v6_1.toNat) p1_0 <;> simp only [Bool.not_true, Bool.not_false, cond_true, cond_false, List.length_set] <;> omega), by ((try dsimp only); (try rw [hw5]); (try rw [hw6]); cases Qbk (nth w0_1 v6_1.toNat) p1_0 <;> simp only [Bool.not_true, Bool.not_false, cond_true, cond_false, List.length_set] <;> omega), by (try dsimp only); rw [hw6]; omega⟩, hM⟩ rfl (by exact Nat.lt_succ_self _) su (by decide)
   ·
    have hM := hE.trans (Qi4 p0 p1_0 k_1 fu_1 w0_1 v5_1 v6_1 h2)
    refine ad 1 ?_
    exact Run.exitkM hk_1 (w0_1, v5_1) [0] [0] hM (by ((try dsimp only); omega)) su (by decide)
end
section
open Go.RowKit Go.Shelf
theorem Yce {P : Program} {ops : Array Oper} {o : Oper} {a : Act} {w : World} {K : Act → World → Prop} {Q : Exit → Act → World → Prop} {E : Prop}
    (hg : o.guard = none) (d x : Operand) (dT sT : TypeId) (hop : o.op = Op.call { callee := Callee.builtin Builtin.copy, args := #[d, x], argTypes := #[dT, sT] })
    (v u : Value) (hd : a.eval d = v) (hx : a.eval x = u) {v' : Value} {w' : World} (hr : (Builtin.copy_ #[dT, sT] o.type #[v, u]).run P w = .ok v' w') (hK : K (a.put o.dst v') w') :
    if Region.wanted o (yielded ops a.tmps) = true then Oper.wp P o a w K Q else E := by
  have hw : Region.wanted o (yielded ops a.tmps) = true := by simp [Region.wanted, hg]
  rw [if_pos hw]
  unfold Oper.wp
  simp [execOp, hop, resolve, invoke, builtin, hd, hx, hr, Result.andThen]
  exact hK
theorem Qpu : Qdj Tryz.prog 35 114 2 32 = true := by kernel_rfl
theorem Qpa {w : World} {g : Nat} {arr : Array Value} {T : TypeId} (hg : w.heap[g]? = some (.cells arr T (0, 0))) (o n : Nat) : ∀ j u, ((arr.toList.drop o).take n)[j]? = some u → w.cell? ((⟨g, o, none⟩ : Addr).add j) = some u := by
  have hrow : Qbq w ⟨g, 0, none⟩ arr.toList := Qbq.row (by simpa using hg)
  have hp := hrow.part (off := o) (n := n) rfl
  rw [Qmd] at hp
  exact hp
section
variable {xs : List Cell} {c0 : Cell} {w : World} {F : List Nat} {g2 cap2 : Nat} {arr2 : Array Value} {T2 : TypeId}
set_option maxHeartbeats 4000000 in
set_option maxRecDepth 100000 in
theorem Ylo {v : Value} (hbig : xs.length ≤ 1073741824) (hv : SlO w v xs F) (hF : F.Nodup) (hg2 : w.heap[g2]? = some (.cells arr2 T2 (0, 0))) (hs2 : 2 ≤ arr2.size) (hel : FlE arr2.toList [c0]) (h1 : ∀ u ∈ Fw.cut 2 arr2.toList 0, u.oneCell' = true) :
    Calls Tryz.prog 168 #[v, .int .i64 xs.length, .slice (some ⟨g2, 0, none⟩) 1 cap2] w (InsQ (xs ++ [c0]) F w) := by
  have hl2 : (Fw.cut 2 arr2.toList 0).length = [c0].length * Dat.sz Cell := by
    unfold Fw.cut
    rw [List.length_take, List.length_drop, Array.length_toList]
    show min 2 _ = 2
    omega
  have hsrc : Src w (.slice (some ⟨g2, 0, none⟩) 1 cap2) 1 (Fw.cut 2 arr2.toList 0) := ⟨_, _, rfl, fun j u hj => ⟨_, rfl, Qpa hg2 _ _ j u hj⟩⟩
  have hy : Qhn w (Fw.cut 2 arr2.toList 0) [c0] [[]] := by
    refine ⟨rfl, fun i x hi => ?_⟩
    cases i with
    | succ i => simp at hi
    | zero =>
      cases hi
      refine ⟨[], rfl, ?_⟩
      have := hel 0 c0 rfl w
      rw [show Fw.cut (Dat.sz Cell) (Fw.cut 2 arr2.toList 0) 0 = Fw.cut 2 arr2.toList 0 by unfold Fw.cut; rw [Nat.zero_mul, Nat.zero_mul, List.drop_zero, List.drop_zero, List.take_take]; rfl]
      exact this
  obtain ⟨v', w', F', hrun, r1, r2, r3, r4, r5, r6, r7, r8⟩ := Qpd (P := Tryz.prog) (ty := 35) Qpu rfl Tryz.zeroValue114 rfl hv hF hsrc hl2 h1 hy List.nodup_nil (fun b hb => by cases hb) (by simp only [List.length_cons, List.length_nil]; omega) (by simp only [List.length_cons, List.length_nil]; unfold maxLen; omega)
  have key : Calls Tryz.prog 168 #[v, .int .i64 xs.length, .slice (some ⟨g2, 0, none⟩) 1 cap2] w fun e w2 => e = .returned v' ∧ w2 = w' := by
    have mixed : Tryz.prog.follows .mixedOrders = true := by kernel_rfl
    have t35 := Tryz.underlying35; have a35 := Tryz.isAgg35; have z35 := Tryz.sizeOf35; have v35 := Tryz.zeroValue35; have u35 := run_underlying t35
    have t114 := Tryz.underlying114; have a114 := Tryz.isAgg114; have z114 := Tryz.sizeOf114; have v114 := Tryz.zeroValue114; have u114 := run_underlying t114
    have t3 := Tryz.underlying3; have a3 := Tryz.isAgg3; have z3 := Tryz.sizeOf3; have v3 := Tryz.zeroValue3; have u3 := run_underlying t3
    rcases hv.form with ⟨A, cap, rfl, hle⟩
    have hcap := (Q65 (hv.rd (B := fun _ => True) fun _ _ => trivial)).1
    go_enter Tryz.func168, Tryz.ntmps168
    go_wp2_with (at_builtin; refine Lib.wpList_append_run _ rfl _ _ _ _ rfl _ _ rfl rfl _ _ hrun ?_)
    all_goals (go_ret; exact ⟨rfl, rfl⟩)
  refine key.mono fun e w2 h => ?_
  obtain ⟨rfl, rfl⟩ := h
  refine ⟨v', F', rfl, r1, r2, r3, r4, r5, r6, r7, fun b hb => ?_⟩
  rcases r8 b hb with h | h | h
  · exact .inl h
  · cases h
  · exact .inr h
set_option maxHeartbeats 4000000 in
set_option maxRecDepth 100000 in
theorem Yi8 {n k c g : Nat} {arr : Array Value} {T : TypeId} (hbig : n ≤ 1073741824) (hk : k < n) (hroom : n + 1 ≤ c) (hcm : c ≤ maxLen) (hg : w.heap[g]? = some (.cells arr T (0, 0))) (hsz : c * 2 ≤ arr.size) (h1 : ∀ u ∈ arr.toList.take (n * 2), u.oneCell' = true) (hg2 : w.heap[g2]? = some (.cells arr2 T2 (0, 0))) (hs2 : 2 ≤ arr2.size) (h12 : ∀ u ∈ Fw.cut 2 arr2.toList 0, u.oneCell' = true) (hne : g2 ≠ g) :
    Calls Tryz.prog 168 #[.slice (some ⟨g, 0, none⟩) n c, .int .i64 k, .slice (some ⟨g2, 0, none⟩) 1 cap2] w fun e w' => e = .returned (.slice (some ⟨g, 0, none⟩) (n + 1) c) ∧ ∃ arr', w'.heap[g]? = some (.cells arr' T (0, 0)) ∧ arr'.size = arr.size ∧ (∀ i, i < n + 1 → Fw.cut 2 arr'.toList i = if i < k then Fw.cut 2 arr.toList i else if i = k then Fw.cut 2 arr2.toList 0 else Fw.cut 2 arr.toList (i - 1)) ∧ w'.os = w.os ∧ w'.tape = w.tape ∧ w'.output = w.output ∧ w.heap.size ≤ w'.heap.size ∧ (∀ b, b ≠ g → w'.heap[b]? = w.heap[b]?) := by
  have mixed : Tryz.prog.follows .mixedOrders = true := by kernel_rfl
  have t35 := Tryz.underlying35; have a35 := Tryz.isAgg35; have z35 := Tryz.sizeOf35; have v35 := Tryz.zeroValue35; have u35 := run_underlying t35
  have t114 := Tryz.underlying114; have a114 := Tryz.isAgg114; have z114 := Tryz.sizeOf114; have v114 := Tryz.zeroValue114; have u114 := run_underlying t114
  have t3 := Tryz.underlying3; have a3 := Tryz.isAgg3; have z3 := Tryz.sizeOf3; have v3 := Tryz.zeroValue3; have u3 := run_underlying t3
  have hz2 : ¬ ((k : Int) = (n : Int)) := by omega
  have hz3 : ¬ ((c : Int) < (n : Int) + 1) := by omega
  have hw0 : IntKind.i64.wrap ((n : Int) + 1) = (n : Int) + 1 := by rw [IntKind.wrap_i64]; omega
  have hw1 : IntKind.i64.wrap ((k : Int) + 1) = (k : Int) + 1 := by rw [IntKind.wrap_i64]; omega
  have hb1 : (0 : Int) ≤ (k : Int) + 1 := by omega
  have htn : ((k : Int) + 1).toNat = k + 1 := by omega
  have htn2 : ((n : Int) + 1).toNat = n + 1 := by omega
  have hb2 : ¬ (c = k + 1) := by omega
  have hb4 : ¬ (c = k) := by omega
  have hb3 : (k : Int) ≤ (n : Int) + 1 := by omega
  have hkn : k ≤ n := by omega
  have hln : (n : Int) + 1 ≤ (c : Int) := by omega
  have hal : arr.toList.length = arr.size := Array.length_toList
  have ha2 : arr2.toList.length = arr2.size := Array.length_toList
  have hov : ∀ lb cb, (callFunc 221 #[.slice (some ⟨g2, 0, none⟩) 1 cap2, .slice (some ⟨g, (k + 1) * 2, none⟩) lb cb]).run Tryz.prog w = .ok (.value (.bool false)) w := fun lb cb => by
    rw [run_callFunc_extern Tryz.func221 (by kernel_rfl) (by kernel_rfl) (by kernel_rfl) (e := Extern.SlicesOverlaps.overlaps #[35, 35] #[4]) (by kernel_rfl),
      Lib.run_overlaps_apart w 35 4 114 t35 2 z114 ⟨g2, 0, none⟩ ⟨g, (k + 1) * 2, none⟩ 1 cap2 lb cb hne T2 T arr2.size arr.size (by simp [World.shape?, hg2]) (by simp [World.shape?, hg]) (by omega) (by simp [World.frozen?, hg2]) (by simp [World.frozen?, hg2])]
    rfl
  obtain ⟨mid, hmid⟩ : ∃ mid, mid = midC 2 k (n - k) arr.toList := ⟨_, rfl⟩
  have hml : mid.length = (n - k) * 2 := by rw [hmid]; exact Ycm (by omega)
  obtain ⟨arr1, harr1⟩ : ∃ arr1 : Array Value, arr1 = (arr.toList.take ((k + 1) * 2) ++ mid ++ arr.toList.drop ((k + 1) * 2 + (n - k) * 2)).toArray := ⟨_, rfl⟩
  have hz1 : arr1.size = arr.size := by
    rw [harr1]
    simp only [List.size_toArray, List.length_append, List.length_take, List.length_drop, hml]
    omega
  have hal1 : arr1.toList.length = arr1.size := Array.length_toList
  obtain ⟨ec, hec⟩ : ∃ ec, ec = Fw.cut 2 arr2.toList 0 := ⟨_, rfl⟩
  have hel : ec.length = 1 * 2 := by rw [hec]; unfold Fw.cut; rw [List.length_take, List.length_drop, ha2]; omega
  obtain ⟨arr3, harr3⟩ : ∃ arr3 : Array Value, arr3 = (arr1.toList.take (k * 2) ++ ec ++ arr1.toList.drop (k * 2 + 1 * 2)).toArray := ⟨_, rfl⟩
  have hz4 : arr3.size = arr.size := by
    rw [harr3]
    simp only [List.size_toArray, List.length_append, List.length_take, List.length_drop, hel]
    omega
  have hm1 : ∀ u ∈ mid, u.oneCell' = true := fun u hu => by rw [hmid] at hu; exact h1 u (Ycl hkn hu)
  have hc1 : ∀ u ∈ ec, u.oneCell' = true := fun u hu => by rw [hec] at hu; exact h12 u hu
  have hcp1 : ∀ (W : World), W.heap = w.heap → ∀ ty dc sc, (Builtin.copy_ #[35, 35] ty #[.slice (some ⟨g, (k + 1) * 2, none⟩) (n - k) dc, .slice (some ⟨g, k * 2, none⟩) (n + 1 - k) sc]).run Tryz.prog W = .ok (goInt (n - k : Nat)) (W.setRow g arr1) := fun W hW ty dc sc => by
    have hgW : W.heap[g]? = some (.cells arr T (0, 0)) := by rw [hW]; exact hg
    rw [harr1]
    exact Q51 Qpu (S := ⟨g, k * 2, none⟩) (m := n - k) (by simp only [Nat.min_def]; split <;> omega) hml (by rw [hmid]; exact Qpa hgW _ _) hgW (by omega) hm1
  have hcp2 : ∀ (W : World), W.heap[g]? = some (.cells arr1 T (0, 0)) → W.heap[g2]? = some (.cells arr2 T2 (0, 0)) → ∀ ty dc, (Builtin.copy_ #[35, 35] ty #[.slice (some ⟨g, k * 2, none⟩) (n + 1 - k) dc, .slice (some ⟨g2, 0, none⟩) 1 cap2]).run Tryz.prog W = .ok (goInt (1 : Nat)) (W.setRow g arr3) := fun W hW1 hW2 ty dc => by
    rw [harr3]
    exact Q51 Qpu (S := ⟨g2, 0, none⟩) (m := 1) (by simp only [Nat.min_def]; split <;> omega) hel (by rw [hec]; unfold Fw.cut; rw [Nat.zero_mul]; exact Qpa hW2 _ _) hW1 (by omega) hc1
  have hrow1 : ∀ (W : World), W.heap = w.heap → (W.setRow g arr1).heap[g]? = some (.cells arr1 T (0, 0)) := fun W hW => setRow_heap W g arr arr1 T (0, 0) (by rw [hW]; exact hg)
  have hrow2 : ∀ (W : World), W.heap = w.heap → (W.setRow g arr1).heap[g2]? = some (.cells arr2 T2 (0, 0)) := fun W hW => (setRow_other W g g2 _ hne).trans (by rw [hW]; exact hg2)
  have hfin : ∀ i, i < n + 1 → Fw.cut 2 arr3.toList i = if i < k then Fw.cut 2 arr.toList i else if i = k then Fw.cut 2 arr2.toList 0 else Fw.cut 2 arr.toList (i - 1) := fun i hi => by
    rw [harr3, show (arr1.toList.take (k * 2) ++ ec ++ arr1.toList.drop (k * 2 + 1 * 2)).toArray.toList = _ from rfl, Qpw hel (by omega)]
    by_cases h3 : i < k
    · rw [if_pos h3, if_pos h3, harr1, show (arr.toList.take ((k + 1) * 2) ++ mid ++ arr.toList.drop ((k + 1) * 2 + (n - k) * 2)).toArray.toList = _ from rfl, Qpw hml (by omega), if_pos (by omega)]
    · rw [if_neg h3, if_neg h3]
      by_cases h4 : i = k
      · rw [if_pos (by omega), if_pos h4, h4, Nat.sub_self, hec]
        unfold Fw.cut
        rw [Nat.zero_mul, List.drop_zero, List.drop_zero, List.take_take, Nat.min_self]
      · rw [if_neg (by omega), if_neg h4, harr1, show (arr.toList.take ((k + 1) * 2) ++ mid ++ arr.toList.drop ((k + 1) * 2 + (n - k) * 2)).toArray.toList = _ from rfl, Qpw hml (by omega), if_neg (by omega), if_pos (by omega), hmid, Ycn (by omega), show k + (i - (k + 1)) = i - 1 by omega]
  clear harr1 harr3 hmid hec hml hel hal ha2 hal1 hm1 hc1
  go_enter Tryz.func168, Tryz.ntmps168
  go_wp2_with (simp only [hov])
  go_region_law_o (refine Yce rfl _ _ 35 35 rfl (.slice (some ⟨g, (k + 1) * 2, none⟩) (n - k) (c - (k + 1))) (.slice (some ⟨g, k * 2, none⟩) (n + 1 - k) (c - k)) (by simp [Act.eval, Act.put]) (by simp [Act.eval, Act.put]) (hcp1 w.drew rfl 3 (c - (k + 1)) (c - k)) ?_)
  go_wp2
  rw [hcp2 (w.drew.setRow g arr1) (hrow1 w.drew rfl) (hrow2 w.drew rfl) 3 (c - k)]
  simp only [Result.andThen]
  rw [Oper.upon_value]
  go_wp2
  go_ret
  exact ⟨rfl, arr3, setRow_heap _ g arr1 arr3 T (0, 0) (hrow1 w.drew rfl), hz4, hfin, rfl, rfl, rfl, by simp, fun b hb => (setRow_other _ g b _ hb).trans (setRow_other _ g b _ hb)⟩
set_option maxHeartbeats 4000000 in
set_option maxRecDepth 100000 in
theorem Yi9 {n k g : Nat} {arr : Array Value} {T : TypeId} (hbig : n ≤ 1073741824) (hk : k < n) (hg : w.heap[g]? = some (.cells arr T (0, 0))) (hsz : n * 2 ≤ arr.size) (h1 : ∀ u ∈ arr.toList.take (n * 2), u.oneCell' = true) (hg2 : w.heap[g2]? = some (.cells arr2 T2 (0, 0))) (hs2 : 2 ≤ arr2.size) (h12 : ∀ u ∈ Fw.cut 2 arr2.toList 0, u.oneCell' = true) :
    Calls Tryz.prog 168 #[.slice (some ⟨g, 0, none⟩) n n, .int .i64 k, .slice (some ⟨g2, 0, none⟩) 1 cap2] w fun e w' => ∃ G arr', e = .returned (.slice (some ⟨w.heap.size, 0, none⟩) (n + 1) G) ∧ n + 1 ≤ G ∧ G ≤ maxLen ∧ w'.heap[w.heap.size]? = some (.cells arr' 114 (0, 0)) ∧ arr'.size = G * 2 ∧ (∀ i, i < n + 1 → Fw.cut 2 arr'.toList i = if i < k then Fw.cut 2 arr.toList i else if i = k then Fw.cut 2 arr2.toList 0 else Fw.cut 2 arr.toList (i - 1)) ∧ w'.os = w.os ∧ w'.tape = w.tape ∧ w'.output = w.output ∧ w.heap.size ≤ w'.heap.size ∧ (∀ b, b < w.heap.size → w'.heap[b]? = w.heap[b]?) := by
  have mixed : Tryz.prog.follows .mixedOrders = true := by kernel_rfl
  have t35 := Tryz.underlying35; have a35 := Tryz.isAgg35; have z35 := Tryz.sizeOf35; have v35 := Tryz.zeroValue35; have u35 := run_underlying t35
  have t114 := Tryz.underlying114; have a114 := Tryz.isAgg114; have z114 := Tryz.sizeOf114; have v114 := Tryz.zeroValue114; have u114 := run_underlying t114
  have t3 := Tryz.underlying3; have a3 := Tryz.isAgg3; have z3 := Tryz.sizeOf3; have v3 := Tryz.zeroValue3; have u3 := run_underlying t3
  have hkn : k ≤ n := by omega
  obtain ⟨hu, i0, hi0, his, hib⟩ := Qbb Qpu
  have hz0 : i0.zero = some (.agg #[.string ⟨#[]⟩, .string ⟨#[]⟩]) := by
    have := v114 w
    simp only [zeroValue, Sem.run_bind, typeInfo, run_program, hi0, Sem.run_pure, Result.andThen_ok] at this
    cases hzz : i0.zero with
    | none => rw [hzz] at this; simp at this
    | some z' => rw [hzz] at this; simp at this; rw [this]
  have hal : arr.toList.length = arr.size := Array.length_toList
  have ha2 : arr2.toList.length = arr2.size := Array.length_toList
  have hgw : g < w.heap.size := (Array.getElem?_eq_some_iff.1 hg).1
  have hgw2 : g2 < w.heap.size := (Array.getElem?_eq_some_iff.1 hg2).1
  obtain ⟨G, hG⟩ : ∃ G, G = grownCap w (n + 1) n 114 := ⟨_, rfl⟩
  have hGn : n + 1 ≤ G := by rw [hG]; exact grownCap_ge w _ _ _
  have hGm : G ≤ maxLen := by rw [hG]; exact grownCap_le_maxLen w _ _ _ (by unfold maxLen; omega)
  obtain ⟨olds, holds⟩ : ∃ olds, olds = (arr.toList.drop (0 * 2)).take (k * 2) := ⟨_, rfl⟩
  have hol : olds.length = k * 2 := by rw [holds, List.length_take, List.length_drop]; omega
  obtain ⟨ROW, hROW⟩ : ∃ ROW : Array Value, ROW = olds.toArray ++ Builtin.zeroCells ((.agg #[.string ⟨#[]⟩, .string ⟨#[]⟩]) : Value).cells (n + 1 - k) ++ Builtin.zeroCells ((.agg #[.string ⟨#[]⟩, .string ⟨#[]⟩]) : Value).cells (G - (n + 1)) := ⟨_, rfl⟩
  have hzc : ((.agg #[.string ⟨#[]⟩, .string ⟨#[]⟩]) : Value).cells.size = 2 := rfl
  have hRs : ROW.size = G * 2 := by
    rw [hROW]
    simp only [Array.size_append, List.size_toArray, size_zeroCells, hzc, hol]
    omega
  have hRl : ROW.toList.length = ROW.size := Array.length_toList
  have hRc : ∀ i, i < k → Fw.cut 2 ROW.toList i = Fw.cut 2 arr.toList i := fun i hi => by
    rw [hROW, Array.toList_append, Array.toList_append, List.append_assoc, Qhm (n := k) hol hi, holds, Nat.zero_mul, List.drop_zero, Qkw hi]
  have hold : (Builtin.firstCells i0.size k (.slice (some ⟨g, 0, none⟩) k n)).run Tryz.prog w.drew = .ok olds.toArray w.drew := by
    rw [his]
    exact run_firstCells_some w.drew 2 k ⟨g, 0, none⟩ k n olds hol (by rw [holds, Nat.zero_mul]; exact Qpa (w := w.drew) hg _ _)
  have hik : k + (n + 1 - k) = n + 1 := by omega
  have hkk : (n : Int) + 1 - (k : Int) = ((n + 1 - k : Nat) : Int) := by omega
  have hrz : ∀ ty, (Builtin.append_ #[35, 3] ty #[.slice (some ⟨g, 0, none⟩) k n, .int .i64 ((n : Int) + 1 - (k : Int))]).run Tryz.prog w = .ok (.slice (some ⟨w.heap.size, 0, none⟩) (n + 1) G) (w.drew.alloc (.cells ROW 114)) := fun ty => by
    have h := Lib.run_append_grow_zeros w 35 3 ty 114 i0 (.agg #[.string ⟨#[]⟩, .string ⟨#[]⟩]) .i64 .i64 t35 t3 hi0 hz0 (some ⟨g, 0, none⟩) k n olds hold (n + 1 - k) (by omega) (by omega) (by omega) (by omega) (by rw [hib]; omega) (by rw [hib, hik]; exact growslice_fits (by omega) (by omega))
    rw [hik, ← hG, ← hROW] at h
    rw [hkk]
    exact h
  obtain ⟨mid, hmid⟩ : ∃ mid, mid = midC 2 k (n - k) arr.toList := ⟨_, rfl⟩
  have hml : mid.length = (n - k) * 2 := by rw [hmid]; exact Ycm (by omega)
  obtain ⟨ec, hec⟩ : ∃ ec, ec = Fw.cut 2 arr2.toList 0 := ⟨_, rfl⟩
  have hel : ec.length = 1 * 2 := by rw [hec]; unfold Fw.cut; rw [List.length_take, List.length_drop, ha2]; omega
  obtain ⟨arr1, harr1⟩ : ∃ arr1 : Array Value, arr1 = (ROW.toList.take (k * 2) ++ ec ++ ROW.toList.drop (k * 2 + 1 * 2)).toArray := ⟨_, rfl⟩
  have hz1 : arr1.size = ROW.size := by
    rw [harr1]
    simp only [List.size_toArray, List.length_append, List.length_take, List.length_drop, hel]
    omega
  have hal1 : arr1.toList.length = arr1.size := Array.length_toList
  obtain ⟨arr3, harr3⟩ : ∃ arr3 : Array Value, arr3 = (arr1.toList.take ((k + 1) * 2) ++ mid ++ arr1.toList.drop ((k + 1) * 2 + (n - k) * 2)).toArray := ⟨_, rfl⟩
  have hz4 : arr3.size = G * 2 := by
    rw [harr3]
    simp only [List.size_toArray, List.length_append, List.length_take, List.length_drop, hml]
    omega
  have hm1 : ∀ u ∈ mid, u.oneCell' = true := fun u hu => by rw [hmid] at hu; exact h1 u (Ycl hkn hu)
  have hc1 : ∀ u ∈ ec, u.oneCell' = true := fun u hu => by rw [hec] at hu; exact h12 u hu
  have hcp1 : ∀ (W : World), W.heap[w.heap.size]? = some (.cells ROW 114 (0, 0)) → W.heap[g2]? = some (.cells arr2 T2 (0, 0)) → ∀ ty dc, (Builtin.copy_ #[35, 35] ty #[.slice (some ⟨w.heap.size, k * 2, none⟩) (n + 1 - k) dc, .slice (some ⟨g2, 0, none⟩) 1 cap2]).run Tryz.prog W = .ok (goInt (1 : Nat)) (W.setRow w.heap.size arr1) := fun W hW1 hW2 ty dc => by
    rw [harr1]
    exact Q51 Qpu (S := ⟨g2, 0, none⟩) (m := 1) (by simp only [Nat.min_def]; split <;> omega) hel (by rw [hec]; unfold Fw.cut; rw [Nat.zero_mul]; exact Qpa hW2 _ _) hW1 (by omega) hc1
  have hcp2 : ∀ (W : World), W.heap[w.heap.size]? = some (.cells arr1 114 (0, 0)) → W.heap[g]? = some (.cells arr T (0, 0)) → ∀ ty dc sc, (Builtin.copy_ #[35, 35] ty #[.slice (some ⟨w.heap.size, (k + 1) * 2, none⟩) (n - k) dc, .slice (some ⟨g, k * 2, none⟩) (n - k) sc]).run Tryz.prog W = .ok (goInt (n - k : Nat)) (W.setRow w.heap.size arr3) := fun W hW1 hW2 ty dc sc => by
    rw [harr3]
    exact Q51 Qpu (S := ⟨g, k * 2, none⟩) (m := n - k) (Nat.min_self _) hml (by rw [hmid]; exact Qpa hW2 _ _) hW1 (by omega) hm1
  have hfin : ∀ i, i < n + 1 → Fw.cut 2 arr3.toList i = if i < k then Fw.cut 2 arr.toList i else if i = k then Fw.cut 2 arr2.toList 0 else Fw.cut 2 arr.toList (i - 1) := fun i hi => by
    rw [harr3, show (arr1.toList.take ((k + 1) * 2) ++ mid ++ arr1.toList.drop ((k + 1) * 2 + (n - k) * 2)).toArray.toList = _ from rfl, Qpw hml (by omega)]
    by_cases h3 : i < k + 1
    · rw [if_pos h3, harr1, show (ROW.toList.take (k * 2) ++ ec ++ ROW.toList.drop (k * 2 + 1 * 2)).toArray.toList = _ from rfl, Qpw hel (by omega)]
      by_cases h4 : i < k
      · rw [if_pos h4, if_pos h4, hRc i h4]
      · rw [if_neg h4, if_neg h4, if_pos (by omega), if_pos (by omega), show i - k = 0 by omega, hec]
        unfold Fw.cut
        rw [Nat.zero_mul, List.drop_zero, List.drop_zero, List.take_take, Nat.min_self]
    · rw [if_neg h3, if_pos (by omega), if_neg (by omega), if_neg (by omega), hmid, Ycn (by omega), show k + (i - (k + 1)) = i - 1 by omega]
  have hn1 : ∀ (W : World), W.heap = (w.drew.alloc (.cells ROW 114)).heap → W.heap[w.heap.size]? = some (.cells ROW 114 (0, 0)) := fun W hW => by rw [hW]; exact heap_alloc_new w.drew _
  have ho1 : ∀ (W : World), W.heap = (w.drew.alloc (.cells ROW 114)).heap → ∀ b, b < w.heap.size → W.heap[b]? = w.heap[b]? := fun W hW b hb => by rw [hW]; exact heap_alloc_old w.drew _ hb
  have hn2 : ∀ (W : World), W.heap = ((w.drew.alloc (.cells ROW 114)).setRow w.heap.size arr1).heap → W.heap[w.heap.size]? = some (.cells arr1 114 (0, 0)) := fun W hW => by rw [hW]; exact setRow_heap _ _ ROW arr1 _ (0, 0) (heap_alloc_new w.drew _)
  have ho2 : ∀ (W : World), W.heap = ((w.drew.alloc (.cells ROW 114)).setRow w.heap.size arr1).heap → ∀ b, b < w.heap.size → W.heap[b]? = w.heap[b]? := fun W hW b hb => by rw [hW, setRow_other _ _ b _ (by omega)]; exact heap_alloc_old w.drew _ hb
  clear harr1 harr3 hmid hec hml hel hal ha2 hal1 hm1 hc1 hROW hRs hRl hRc hold holds hol hG hkk hik
  have hz2 : ¬ ((k : Int) = (n : Int)) := by omega
  have hz3 : (n : Int) < (n : Int) + 1 := by omega
  have hw0 : IntKind.i64.wrap ((n : Int) + 1) = (n : Int) + 1 := by rw [IntKind.wrap_i64]; omega
  have hw1 : IntKind.i64.wrap ((k : Int) + 1) = (k : Int) + 1 := by rw [IntKind.wrap_i64]; omega
  have hw2 : IntKind.i64.wrap ((n : Int) + 1 - (k : Int)) = (n : Int) + 1 - (k : Int) := by rw [IntKind.wrap_i64]; omega
  have hb1 : (0 : Int) ≤ (k : Int) + 1 := by omega
  have htn : ((k : Int) + 1).toNat = k + 1 := by omega
  have hb2 : ¬ (G = k + 1) := by omega
  have hb3 : (k : Int) ≤ (n : Int) + 1 := by omega
  have hb4 : ¬ (G = k) := by omega
  have hb5 : ¬ (n = k) := by omega
  go_enter Tryz.func168, Tryz.ntmps168
  go_wp2_with (at_builtin; refine Lib.wpList_append_run _ rfl _ _ _ _ rfl _ _ rfl rfl _ _ (hrz _) ?_)
  rw [hcp1 (w.alloc (.cells ROW 114)).drew (hn1 _ rfl) ((ho1 _ rfl g2 hgw2).trans hg2) 3 (G - k)]
  simp only [Result.andThen]
  rw [Oper.upon_value]
  go_wp2
  go_region_law_o (refine Yce rfl _ _ 35 35 rfl (.slice (some ⟨w.heap.size, (k + 1) * 2, none⟩) (n - k) (G - (k + 1))) (.slice (some ⟨g, k * 2, none⟩) (n - k) (n - k)) (by simp [Act.eval, Act.put]) (by simp [Act.eval, Act.put]) (hcp2 ((w.alloc (.cells ROW 114)).drew.setRow w.heap.size arr1).drew (hn2 _ rfl) ((ho2 _ rfl g hgw).trans hg) 3 (G - (k + 1)) (n - k)) ?_)
  go_wp2
  go_ret
  refine ⟨G, arr3, rfl, hGn, hGm, setRow_heap _ _ arr1 arr3 _ (0, 0) (hn2 _ rfl), hz4, hfin, rfl, rfl, rfl, ?_, fun b hb => (setRow_other _ _ b _ (by omega)).trans (ho2 _ rfl b hb)⟩
  simp
theorem Ylp (k : Nat) (hk : k ≤ xs.length) (hbig : xs.length ≤ 1073741824) {v v2 : Value} {F2 : List Nat} (hv : SlO w v xs F) (hF : F.Nodup) (hv2 : SlO w v2 [c0] F2) (hdj : ∀ b ∈ F2, b ∉ F) :
    Calls Tryz.prog 168 #[v, .int .i64 k, v2] w (InsQ (insL xs k c0) F w) := by
  have hfl : Qmm (Str.fk (α := Cell)) = true := rfl
  rcases hv2.fl inferInstance hfl with ⟨_, e2⟩ | ⟨g2, cap2, arr2, T2, e1, e2, e3, e4, e5, e6, e7⟩
  · cases e2
  subst e1
  have hs2 : 2 ≤ arr2.size := by
    have : 1 ≤ cap2 := e3
    have := Nat.mul_le_mul_right (Dat.sz Cell) this
    exact Nat.le_trans this e5
  have h12 : ∀ u ∈ Fw.cut 2 arr2.toList 0, u.oneCell' = true := fun u hu => e7.one w u (by unfold Fw.cut at hu; rwa [Nat.zero_mul, List.drop_zero] at hu)
  by_cases hkn : k = xs.length
  · subst hkn
    have h := Ylo hbig hv hF e2 hs2 e7 h12 (cap2 := cap2)
    unfold insL
    rw [List.take_length, List.drop_length]
    exact h
  have hk' : k < xs.length := by omega
  have hc0 : ∀ w, Dat.own w (Fw.cut 2 arr2.toList 0) c0 [] := fun w => e7 0 c0 rfl w
  rcases hv.fl inferInstance hfl with ⟨_, q2⟩ | ⟨g, cap, arr, T, q1, q2, q3, q4, q5, q6, q7⟩
  · rw [q2] at hk'; simp at hk'
  subst q1
  have hlt := hv.lt
  have h1 := q7.one w
  have hne : g2 ≠ g := fun e => hdj g2 e6 (by rw [e]; exact q6)
  by_cases hroom : xs.length + 1 ≤ cap
  · refine (Yi8 hbig hk' hroom q4 q2 q5 h1 e2 hs2 h12 hne (cap2 := cap2)).mono fun e w' hq => ?_
    obtain ⟨rfl, arr', r1, r2, r3, r4, r5, r6, r7, r8⟩ := hq
    refine ⟨_, [g], rfl, (q7.ins hk hc0 r3).slo r1 (Qnj hk).symm hroom q4 (by rw [r2]; exact q5), by simp, r4, r5, r6, r7, fun b _ hb => r8 b fun e => hb (by rw [e]; exact q6), fun b hb => .inl (by rw [List.mem_singleton.1 hb]; exact q6)⟩
  · obtain rfl : cap = xs.length := by omega
    refine (Yi9 hbig hk' q2 q5 h1 e2 hs2 h12 (cap2 := cap2)).mono fun e w' hq => ?_
    obtain ⟨G, arr', rfl, r0, r0', r1, r2, r3, r4, r5, r6, r7, r8⟩ := hq
    exact ⟨_, [w.heap.size], rfl, (q7.ins hk hc0 r3).slo r1 (Qnj hk).symm r0 r0' (by rw [r2]; exact Nat.le_refl _), by simp, r4, r5, r6, r7, fun b hb _ => r8 b hb, fun b hb => .inr (by rw [List.mem_singleton.1 hb]; exact Nat.le_refl _)⟩
end
def Ybl (xs : List Cell) (k : Int) (ys : List Cell) : List Cell := insL xs k.toNat (nth ys 0)
theorem Yha (xs : List Cell) (k : Int) (ys : List Cell) (hy : ys.length = 1) (h0 : 0 ≤ k) (hk : k ≤ xs.length) (hbig : xs.length ≤ 1073741824) : CTM Tryz.prog Gw gls 168 0 2 [(0, .own Cell instDatCell xs), (1, .own Cell instDatCell ys)] [] [.sl 0 xs.length, .v (.int .i64 k), .sl 1 ys.length] [(0, .own Cell instDatCell (Ybl xs k ys))] 1 [.sl 0 (Ybl xs k ys).length] True := CTM.row2 fun w v v2 F F2 h1 h2 h3 h4 => by
  match ys, hy with
  | [c0], _ =>
    obtain ⟨j, rfl⟩ : ∃ j : Nat, k = (j : Int) := ⟨k.toNat, by omega⟩
    exact Ylp j (by omega) hbig h1 h2 h3 h4
end
section
open Go.RowKit
def idxL (f : Cell → Bool) (xs : List Cell) : Nat → Nat → Int
  | 0, _ => -1
  | n + 1, i => bif f (nth xs i) then (i : Int) else idxL f xs n (i + 1)
theorem Yah {f : Cell → Bool} {xs : List Cell} : ∀ n i, i + n = xs.length → (idxL f xs n i = -1 ∧ ∀ j, i ≤ j → j < xs.length → f (nth xs j) = false) ∨ ∃ m, i ≤ m ∧ m < xs.length ∧ idxL f xs n i = (m : Int) ∧ f (nth xs m) = true ∧ ∀ j, i ≤ j → j < m → f (nth xs j) = false := by
  intro n
  induction n with
  | zero => intro i h; exact .inl ⟨rfl, fun j h1 h2 => by omega⟩
  | succ n ih =>
    intro i h
    rw [idxL]
    cases hf : f (nth xs i) with
    | true => exact .inr ⟨i, Nat.le_refl _, by omega, rfl, hf, fun j h1 h2 => by omega⟩
    | false =>
      rcases ih (i + 1) (by omega) with ⟨h1, h2⟩ | ⟨m, h1, h2, h3, h4, h5⟩
      · exact .inl ⟨h1, fun j a b => if e : j = i then e ▸ hf else h2 j (by omega) b⟩
      · exact .inr ⟨m, by omega, h2, h3, h4, fun j a b => if e : j = i then e ▸ hf else h5 j (by omega) b⟩
theorem Yo9 (p0 : List Cell) (k : ByteArray) : ∀ n i, Qau p0 k n i = idxL (fun c => Qbk c k) p0 n i := by
  intro n
  induction n with
  | zero => intro i; rfl
  | succ n ih => intro i; rw [Qau, idxL, ih]
theorem Yo8 (p0 : List Cell) (k : ByteArray) : ∀ n i, Qat p0 k n i = idxL (fun c => Qg4 c k) p0 n i := by
  intro n
  induction n with
  | zero => intro i; rfl
  | succ n ih => intro i; rw [Qat, idxL, ih]
theorem Qm9 {α : Type} [Inhabited α] {xs : List α} {i : Nat} (h : i < xs.length) : xs[i]? = some (nth xs i) := by
  rw [List.getElem?_eq_getElem h]
  simp [nth, List.getD_eq_getElem?_getD, h]
theorem Qis {α : Type} [Inhabited α] {xs : List α} {i : Nat} (h : i < xs.length) : xs.take (i + 1) = xs.take i ++ [nth xs i] := by
  rw [List.take_add_one, Qm9 h]
  rfl
theorem Qxn {f : Cell → Bool} {xs : List Cell} {n : Nat} (hn : n ≤ xs.length) (h : ∀ j, j < n → f (nth xs j) = false) : (xs.take n).filter (fun c => !f c) = xs.take n := by
  induction n with
  | zero => simp
  | succ n ih =>
    rw [Qis (by omega), List.filter_append, ih (by omega) fun j hj => h j (by omega)]
    simp [h n (by omega)]
theorem Yrm (p0 : List Cell) (k : ByteArray) (hb : p0.length ≤ 9223372036854775806) (K : (List Cell × Int) → List Cell) : ∀ (n : Nat) (w : List Cell) (i j : Nat), w.length = p0.length → i < j → j ≤ p0.length → p0.length - j ≤ n → w.take i = (p0.take j).filter (fun c => !Qbk c k) → (∀ m, j ≤ m → w[m]? = p0[m]?) →
    ∃ (w' : List Cell) (i' : Nat), Qb8 p0 k K n w i j = K (w', (i' : Int)) ∧ w'.length = p0.length ∧ i' ≤ p0.length ∧ w'.take i' = p0.filter (fun c => !Qbk c k) := by
  intro n
  induction n with
  | zero =>
    intro w i j h1 h2 h3 h4 h5 h6
    obtain rfl : j = p0.length := by omega
    exact ⟨w, i, rfl, h1, by omega, by rw [h5, List.take_length]⟩
  | succ n ih =>
    intro w i j h1 h2 h3 h4 h5 h6
    rw [Qb8]
    by_cases hj : j < p0.length
    · rw [decide_eq_true (show (j : Int) < (w.length : Int) by omega), cond_true, IntWalk.i64_in ((j : Int) + 1) (by omega), IntWalk.i64_in ((i : Int) + 1) (by omega)]
      have hx : nth w j = nth p0 j := by
        have := h6 j (Nat.le_refl _)
        rw [Qm9 (by omega), Qm9 hj] at this
        exact Option.some.inj this
      have hjt : ((j : Int)).toNat = j := rfl
      have hit : ((i : Int)).toNat = i := rfl
      rw [hjt, hit, hx, show (j : Int) + 1 = ((j + 1 : Nat) : Int) from rfl, show (i : Int) + 1 = ((i + 1 : Nat) : Int) from rfl]
      have hfil : (p0.take (j + 1)).filter (fun c => !Qbk c k) = (p0.take j).filter (fun c => !Qbk c k) ++ [nth p0 j].filter (fun c => !Qbk c k) := by rw [Qis hj, List.filter_append]
      cases hc : Qbk (nth p0 j) k with
      | true =>
        refine ih w i (j + 1) h1 (by omega) (by omega) (by omega) ?_ fun m hm => h6 m (by omega)
        rw [hfil, h5]
        simp [hc]
      | false =>
        refine ih (w.set i (nth p0 j)) (i + 1) (j + 1) (by rw [List.length_set]; exact h1) (by omega) (by omega) (by omega) ?_ fun m hm => ?_
        · rw [hfil, ← h5]
          have hl : i < (w.set i (nth p0 j)).length := by rw [List.length_set]; omega
          rw [List.take_add_one, List.getElem?_set_self (by omega), List.take_set_of_le (by omega)]
          simp [hc]
        · rw [List.getElem?_set_ne (by omega)]
          exact h6 m (by omega)
    · rw [decide_eq_false (show ¬ (j : Int) < (w.length : Int) by omega), cond_false]
      obtain rfl : j = p0.length := by omega
      exact ⟨w, i, rfl, h1, by omega, by rw [h5, List.take_length]⟩
theorem Qk3 (p0 : List Cell) (k : ByteArray) (hb : p0.length ≤ 9223372036854775806) : Qag p0 k = p0.filter (fun c => !Qbk c k) := by
  unfold Qag Qa2
  rw [Yo9]
  rcases Yah (f := fun c => Qbk c k) (xs := p0) (p0.length - 0) 0 (by omega) with ⟨h1, h2⟩ | ⟨m, _, h2, h3, h4, h5⟩
  · rw [h1, decide_eq_true rfl, cond_true]
    have := Qxn (f := fun c => Qbk c k) (xs := p0) (Nat.le_refl _) fun j hj => h2 j (by omega) hj
    rw [List.take_length] at this
    exact this.symm
  · rw [h3, decide_eq_false (by omega), cond_false, IntWalk.i64_in ((m : Int) + 1) (by omega)]
    obtain ⟨w', i', e1, e2, e3, e4⟩ := Yrm p0 k hb (fun e => (List.take e.2.toNat (List.take e.2.toNat e.1 ++ List.replicate (e.1.length - e.2.toNat) (Cell.mk ⟨#[]⟩ ⟨#[]⟩)))) (p0.length - (m + 1)) p0 m (m + 1) rfl (by omega) (by omega) (Nat.le_refl _) (by
      rw [Qis h2, List.filter_append, Qxn (by omega) fun j hj => h5 j (by omega) hj]
      simp [h4]) fun _ _ => rfl
    rw [show ((m : Int) + 1).toNat = m + 1 from rfl, show (m : Int) + 1 = ((m + 1 : Nat) : Int) from rfl, e1]
    show List.take i' (List.take i' w' ++ _) = _
    rw [List.take_append_of_le_length (by rw [List.length_take]; omega), List.take_take, Nat.min_self, e4]
theorem Q7e (p0 : List Cell) (k : ByteArray) (hb : p0.length ≤ 9223372036854775806) : (Qag p0 k).length ≤ p0.length := by rw [Qk3 p0 k hb]; exact List.length_filter_le _ _
theorem Qm0 (p0 : List Cell) (k : ByteArray) : p0.length ≤ 9223372036854775806 → (Qag p0 k).length ≤ p0.length := Q7e p0 k
theorem Yoz {k : Int} {n : Nat} (h : -1 ≤ k ∧ k < n) : 0 ≤ (bif decide (k < 0) then (n : Int) else k) ∧ (bif decide (k < 0) then (n : Int) else k) ≤ n := by
  rw [Bool.cond_eq_ite]
  split
  · omega
  · rename_i hc
    have := of_decide_eq_false (Bool.not_eq_true _ ▸ hc)
    omega
end
section
open Go.RowKit
theorem Ynx : FnOk Tryz.prog 164 := ⟨_, Tryz.func164, rfl, by kernel_rfl⟩
theorem Ynv : FnOk Tryz.prog 168 := ⟨_, Tryz.func168, rfl, by kernel_rfl⟩
def Qit (p0 : List Cell) (p1 : ByteArray) (p2 : ByteArray) : (List Cell) := bif (!(Qg6 p1)) || (decide ((p2.size : Int) > 60)) then p0 else (bif decide (p2 = ⟨#[]⟩) then (Qag p0 p1) else (Ybl (Qag p0 p1) (bif (decide ((Qa7 (Qag p0 p1) p1) < 0)) then ((Qag p0 p1).length : Int) else (Qa7 (Qag p0 p1) p1)) ([(Cell.mk p1 p2)] : List Cell)))
theorem Ygb (p0 : List Cell) (p1 : ByteArray) (p2 : ByteArray) (hz_p1 : p1.size ≤ 9223372036854775807) (hk1 : p1.size ≤ 9223372036854775807) (h2 : p2.size ≤ 9223372036854775807) (hb : p0.length ≤ 1073741820) : CTMs 92 0 1 [(0, .own Cell instDatCell p0)] [] [.sl 0 p0.length, .v (.string p1), .v (.string p2)] [(0, .own Cell instDatCell (Qit p0 p1 p2))] 1 [.sl 0 ((Qit p0 p1 p2).length)] True := by
 refine enM Tryz.func92 Tryz.ntmps92 fun S w p hG hb hg => ?_
 refine Run.cg (σ' := ⟨37, 1, [(0, .sl 0 p0.length), (1, .v (.string p1)), (2, .v (.string p2))], [(0, .own Cell instDatCell p0)]⟩) rfl ?_
 refine gd 0 fun hg_p0 => ?_
 have hl_p0 : p0.length ≤ 9223372036854775807 := hg_p0.1
 have hM := Qit.eq_1 p0 p1 p2
 have hdl := Qm0 p0 p1 (by omega)
 have hin := Qi2 (Qag p0 p1) p1
 refine ad 9 ?_
 refine op (cl (Ql3 p1 hz_p1) Yhm) ?_
 refine ad 2 ?_
 refine ag 4 ?_
 refine ad 1 ?_
 refine cd (fun h1 => ?_) (fun h1 => ?_)
 ·
  have hM := hM.trans (bt h1)
  refine ad 5 ?_
  exact rzM (rs := [.tmp 6]) [0] [1] (hg1 := trivial) (hG1 := congrArg (fun x => (True : Prop)) hM) (congrArg (fun x => ([(0, .own Cell instDatCell x)] : List (Nat × En))) hM) (congrArg (fun x => ([.sl 0 x.length] : List V)) hM)
 ·
  have hM := hM.trans (bf h1)
  refine ad 5 ?_
  refine og (cm [0, 1] [] [1] [0] [0] (Qkj p0 p1 (by first | assumption | exact gs _ | exact Qgw (by unfold I64; omega) (by decide) | (show ByteArray.size _ ≤ _; unfold maxLen; omega))) Ynx) fun _ => ?_
  refine ad 8 ?_
  refine cd (fun h2 => ?_) (fun h2 => ?_)
  ·
   have hM := hM.trans (bt h2)
   refine ad 5 ?_
   exact rzM (rs := [.tmp 6]) [2] [0] (hg1 := trivial) (hG1 := congrArg (fun x => (True : Prop)) hM) (congrArg (fun x => ([(0, .own Cell instDatCell x)] : List (Nat × En))) hM) (congrArg (fun x => ([.sl 0 x.length] : List V)) hM)
  ·
   have hM := hM.trans (bf h2)
   refine ad 5 ?_
   refine op (cl (Qjk (Qag p0 p1) p1 (by first | assumption | exact gs _ | exact Qgw (by unfold I64; omega) (by decide) | (show ByteArray.size _ ≤ _; unfold maxLen; omega))) Yhl) ?_
   refine ad 8 ?_
   refine Run.mid ⟨37, 2, [(0, .sl 0 ((Qag p0 p1).length)), (2, .v (.string p2)), (4, .pt 1 0), (7, .v (.int .i64 (bif (decide ((Qa7 (Qag p0 p1) p1) < 0)) then ((Qag p0 p1).length : Int) else (Qa7 (Qag p0 p1) p1))))], [(0, .own Cell instDatCell (Qag p0 p1)), (1, .var [.v (.string p1)] 9)]⟩ ?_ ?_
   ·refine cd (fun h3 => ?_) (fun h3 => ?_)
    ·
     refine ad 5 ?_
     exact Run.at [2, 1] [0, 1] (by first | exact su | (rw [h3]; exact su)) (by decide)
    ·
     refine ad 1 ?_
     exact Run.at [2, 1] [0, 1] (by first | exact su | (rw [h3]; exact su)) (by decide)
   refine ad 8 ?_
   refine li 2 (d := instDatCell) ([(Cell.mk p1 p2)] : List Cell) ?_
   refine og (cm [0, 2] [] [1, 0] [] [2] (Yha (Qag p0 p1) (bif (decide ((Qa7 (Qag p0 p1) p1) < 0)) then ((Qag p0 p1).length : Int) else (Qa7 (Qag p0 p1) p1)) ([(Cell.mk p1 p2)] : List Cell) rfl (Yoz hin).1 (Yoz hin).2 (by first | omega | exact om)) Ynv) fun _ => ?_
   refine ad 2 ?_
   exact rzM (rs := [.tmp 6]) [3] [0] (hg1 := trivial) (hG1 := congrArg (fun x => (True : Prop)) hM) (congrArg (fun x => ([(0, .own Cell instDatCell x)] : List (Nat × En))) hM) (congrArg (fun x => ([.sl 0 x.length] : List V)) hM)
def Qbc (p0 : List Cell) (p1 : ByteArray) (p2 : ByteArray) : Nat → (List Cell) → Bool → Nat → (List Cell)
 | 0, v7, v8, i => bif (!v8) then (v7 ++ [(Cell.mk p1 p2)]) else v7
 | n + 1, v7, v8, i => Qbc p0 p1 p2 n (bif (!decide (((nth p0 i).Key) = p1)) then ((bif ((!v8) && (!(ltB ((nth p0 i).Key) p1 || decide (((nth p0 i).Key) = p1)))) then (v7 ++ [(Cell.mk p1 p2)]) else v7) ++ [(nth p0 i)]) else (bif ((!v8) && (!(ltB ((nth p0 i).Key) p1 || decide (((nth p0 i).Key) = p1)))) then (v7 ++ [(Cell.mk p1 p2)]) else v7)) (((!v8) && (!(ltB ((nth p0 i).Key) p1 || decide (((nth p0 i).Key) = p1)))) || v8) (i + 1)
def Qe5 (p0 : List Cell) (p1 : ByteArray) (p2 : ByteArray) : (List Cell) := bif (!(Qfl p1)) || (decide ((p2.size : Int) > 60)) then (([] : List Cell) ++ p0) else (Qbc p0 p1 p2 (p0.length - 0) ([] : List Cell) (decide (p2 = ⟨#[]⟩)) 0)
theorem Q6h (p0 : List Cell) (p1 : ByteArray) (p2 : ByteArray) (hz_p1 : p1.size ≤ 9223372036854775807) (hk1 : p1.size ≤ 9223372036854775807) (h2 : p2.size ≤ 9223372036854775807) (hb : p0.length ≤ 1073741820) : CTs 151 [.o (.sl Cell instDatCell p0), .o (.c (.string p1)), .o (.c (.string p2))] [Re.sl Cell instDatCell (Qe5 p0 p1 p2)] := by
 refine en Tryz.func151 Tryz.ntmps151 fun w hG hgd => ?_
 obtain ⟨hg_p0, _⟩ := hgd
 have hl_p0 : p0.length ≤ 9223372036854775807 := hg_p0.1
 have hM := Qe5.eq_1 p0 p1 p2
 refine ad 6 ?_
 refine op (l0) ?_
 refine ad 6 ?_
 refine op (cl (Ql0 p1 hz_p1) Yhj) ?_
 refine ad 2 ?_
 refine ag 4 ?_
 refine ad 1 ?_
 refine cd (fun h1 => ?_) (fun h1 => ?_)
 ·
  have hM := hM.trans (bt h1)
  refine ad 4 ?_
  refine li 1 (d := instDatCell) ([] : List Cell) ?_
  refine op (aS (dα := instDatCell) (e := 114) (by' := 32) ([] : List Cell) p0 [1] (hb := by (try simp only [List.length_append, List.length_cons, List.length_nil]); first | omega | exact om) (hm := by (try simp only [List.length_append, List.length_cons, List.length_nil]); first | omega | exact om)) ?_
  refine ad 2 ?_
  exact rz (rs := [.tmp 6]) (congrArg (fun x => [Re.sl Cell instDatCell x]) hM)
 ·
  have hM := hM.trans (bf h1)
  refine ad 13 ?_
  refine li 1 (d := instDatCell) ([] : List Cell) ?_
  refine Run.loopM (ι := (List Cell) × Bool × Nat) (fun s => Qbc p0 p1 p2 (p0.length - s.2.2) s.1 s.2.1 s.2.2) (fun s => ⟨70, 2, [(0, .sl 0 p0.length), (1, .v (.string p1)), (2, .v (.string p2)), (7, .sl 1 s.1.length), (8, .v (.bool s.2.1)), (9, .v (.int .i64 (s.2.2 : Int)))], [(0, .ros Cell instDatCell p0), (1, .own Cell instDatCell s.1)]⟩) (fun s => s.2.2 ≤ p0.length ∧ s.1.length ≤ 2 * s.2.2) (fun s => p0.length - s.2.2) (([] : List Cell), decide (p2 = ⟨#[]⟩), 0) [0, 1] [1, 0] hM (by exact ⟨by (try dsimp only); omega, by simp⟩) su (by decide) ?_
  rintro ⟨v7, v8, i⟩ hv hE
  try dsimp only at hE
  obtain ⟨hi, hv0⟩ := hv
  try dsimp only at hi hv0
  refine ad 8 ?_
  refine cd (fun h2 => ?_) (fun h2 => ?_)
  ·
   have h2l : i < p0.length := by have := of_decide_eq_true h2; omega
   have hM := hE.trans ((congrArg (fun n => Qbc p0 p1 p2 n v7 v8 i) (show p0.length - i = (p0.length - (i + 1)) + 1 by omega)).trans (Qbc.eq_2 _ _ _ _ _ _ _))
   refine ad 9 ?_
   refine Run.midO ⟨70, 2, [(0, .sl 0 p0.length), (1, .v (.string p1)), (2, .v (.string p2)), (7, .sl 1 v7.length), (8, .v (.bool v8)), (9, .v (.int .i64 (i : Int))), (40, .v (.bool ((!v8) && (!(ltB ((nth p0 i).Key) p1 || decide (((nth p0 i).Key) = p1))))))], [(0, .ros Cell instDatCell p0), (1, .own Cell instDatCell v7)]⟩ ?_ ?_
   ·refine bc 32 (fun h3 => ?_) (fun h3 => ?_)
    ·
     refine ad 5 ?_
     have hg5 := Qar (k := i) hg_p0 om
     refine op (ix (xs := p0) i om) ?_
     refine ad 7 ?_
     refine op (sQ) ?_
     refine ad 2 ?_
     exact Run.at [0, 1] [1, 2] (by first | exact su | (rw [h3]; exact su)) (by decide)
    ·
     refine ad 9 ?_
     exact Run.at [0, 1] [0, 1] (by first | exact su | (rw [h3]; exact su)) (by decide)
   refine Run.mid ⟨70, 2, [(0, .sl 0 p0.length), (1, .v (.string p1)), (2, .v (.string p2)), (7, .sl 1 ((bif ((!v8) && (!(ltB ((nth p0 i).Key) p1 || decide (((nth p0 i).Key) = p1)))) then (v7 ++ [(Cell.mk p1 p2)]) else v7).length)), (8, .v (.bool (((!v8) && (!(ltB ((nth p0 i).Key) p1 || decide (((nth p0 i).Key) = p1)))) || v8))), (9, .v (.int .i64 (i : Int)))], [(0, .ros Cell instDatCell p0), (1, .own Cell instDatCell (bif ((!v8) && (!(ltB ((nth p0 i).Key) p1 || decide (((nth p0 i).Key) = p1)))) then (v7 ++ [(Cell.mk p1 p2)]) else v7))]⟩ ?_ ?_
   ·refine cd (fun h6 => ?_) (fun h6 => ?_)
    ·
     refine ad 7 ?_
     refine op (ap [(Cell.mk p1 p2)] (hg := gdt) (hb := by (try simp only [Bool.cond_eq_ite]); (repeat' split) <;> ((try simp only [List.length_append, List.length_cons, List.length_nil]); omega)) (hm := by (try simp only [Bool.cond_eq_ite]); (repeat' split) <;> ((try simp only [List.length_append, List.length_cons, List.length_nil]); omega))) ?_
     refine ad 5 ?_
     exact Run.at [0, 3] [1, 2] (by first | exact su | (rw [h6]; exact su)) (by decide)
    ·
     refine ad 1 ?_
     exact Run.at [0, 1] [0, 1] (by first | exact su | (rw [h6]; exact su)) (by decide)
   refine ad 4 ?_
   have hg8 := Qar (k := i) hg_p0 om
   refine op (ix (xs := p0) i om) ?_
   refine ad 5 ?_
   refine Run.mid ⟨70, 2, [(0, .sl 0 p0.length), (1, .v (.string p1)), (2, .v (.string p2)), (7, .sl 1 ((bif (!decide (((nth p0 i).Key) = p1)) then ((bif ((!v8) && (!(ltB ((nth p0 i).Key) p1 || decide (((nth p0 i).Key) = p1)))) then (v7 ++ [(Cell.mk p1 p2)]) else v7) ++ [(nth p0 i)]) else (bif ((!v8) && (!(ltB ((nth p0 i).Key) p1 || decide (((nth p0 i).Key) = p1)))) then (v7 ++ [(Cell.mk p1 p2)]) else v7)).length)), (8, .v (.bool (((!v8) && (!(ltB ((nth p0 i).Key) p1 || decide (((nth p0 i).Key) = p1)))) || v8))), (9, .v (.int .i64 (i : Int)))], [(0, .ros Cell instDatCell p0), (1, .own Cell instDatCell (bif (!decide (((nth p0 i).Key) = p1)) then ((bif ((!v8) && (!(ltB ((nth p0 i).Key) p1 || decide (((nth p0 i).Key) = p1)))) then (v7 ++ [(Cell.mk p1 p2)]) else v7) ++ [(nth p0 i)]) else (bif ((!v8) && (!(ltB ((nth p0 i).Key) p1 || decide (((nth p0 i).Key) = p1)))) then (v7 ++ [(Cell.mk p1 p2)]) else v7)))]⟩ ?_ ?_
   ·refine cd (fun h9 => ?_) (fun h9 => ?_)
    ·
     refine ad 4 ?_
     have hg11 := Qar (k := i) hg_p0 om
     refine op (ix (xs := p0) i om) ?_
     refine ad 2 ?_
     refine op (ap [(nth p0 i)] (hg := gdt) (hb := by (try simp only [Bool.cond_eq_ite]); (repeat' split) <;> ((try simp only [List.length_append, List.length_cons, List.length_nil]); omega)) (hm := by (try simp only [Bool.cond_eq_ite]); (repeat' split) <;> ((try simp only [List.length_append, List.length_cons, List.length_nil]); omega))) ?_
     refine ad 2 ?_
     exact Run.at [0, 5] [3, 4] (by first | exact su | (rw [h9]; exact su)) (by decide)
    ·
     refine ad 1 ?_
     exact Run.at [0, 1] [1, 2] (by first | exact su | (rw [h9]; exact su)) (by decide)
   refine ad 4 ?_
   rw [Qc9 (i := i) (by first | omega | exact om)]
   refine ad 2 ?_
   exact Run.again (bif (!decide (((nth p0 i).Key) = p1)) then ((bif ((!v8) && (!(ltB ((nth p0 i).Key) p1 || decide (((nth p0 i).Key) = p1)))) then (v7 ++ [(Cell.mk p1 p2)]) else v7) ++ [(nth p0 i)]) else (bif ((!v8) && (!(ltB ((nth p0 i).Key) p1 || decide (((nth p0 i).Key) = p1)))) then (v7 ++ [(Cell.mk p1 p2)]) else v7), ((!v8) && (!(ltB ((nth p0 i).Key) p1 || decide (((nth p0 i).Key) = p1)))) || v8, (i + 1)) [0, 1] [0, 1] ⟨by exact ⟨by (try dsimp only); omega, by (try dsimp only); (try simp only [Bool.cond_eq_ite]); (repeat' split) <;> ((try simp only [List.length_append, List.length_cons, List.length_nil]); omega)⟩, hM⟩ rfl (by show _ - _ < _ - _; (try dsimp only); omega) su (by decide)
  ·
   have h2l : ¬ (i < p0.length) := by have := of_decide_eq_false h2; omega
   have hM := hE.trans ((congrArg (fun n => Qbc p0 p1 p2 n v7 v8 i) (show p0.length - i = 0 by omega)).trans (Qbc.eq_1 _ _ _ _ _ _))
   refine ad 7 ?_
   refine Run.mid ⟨70, 1, [(7, .sl 0 ((bif (!v8) then (v7 ++ [(Cell.mk p1 p2)]) else v7).length))], [(0, .own Cell instDatCell (bif (!v8) then (v7 ++ [(Cell.mk p1 p2)]) else v7))]⟩ ?_ ?_
   ·refine cd (fun h12 => ?_) (fun h12 => ?_)
    ·
     refine ad 6 ?_
     refine op (ap [(Cell.mk p1 p2)] (hg := gdt) (hb := by (try simp only [Bool.cond_eq_ite]); (repeat' split) <;> ((try simp only [List.length_append, List.length_cons, List.length_nil]); omega)) (hm := by (try simp only [Bool.cond_eq_ite]); (repeat' split) <;> ((try simp only [List.length_append, List.length_cons, List.length_nil]); omega))) ?_
     refine ad 2 ?_
     exact Run.at [3] [2] (by first | exact su | (rw [h12]; exact su)) (by decide)
    ·
     refine ad 1 ?_
     exact Run.at [1] [1] (by first | exact su | (rw [h12]; exact su)) (by decide)
   refine ad 5 ?_
   exact rz (rs := [.tmp 6]) (congrArg (fun x => [Re.sl Cell instDatCell x]) hM)
end
section
open Go.RowKit Go.Shelf
set_option maxHeartbeats 1000000 in
set_option maxRecDepth 1000000 in
theorem Yl4 (b : Nat) (w : World) (h0 : w.cell? ⟨b, 0, none⟩ = some (.pointer (some ⟨b, 0, none⟩))) :
    Calls Tryz.prog 271 #[.pointer (some ⟨b, 0, none⟩)] w fun e w' => e = .returned (.tuple #[]) ∧ w' = w := by
  obtain ⟨j, hj, _⟩ := Option.map_eq_some_iff.1 (show (Tryz.prog.info? 240).map (·.size) = some 2 by kernel_rfl)
  have mixed : Tryz.prog.follows .mixedOrders = true := by kernel_rfl
  have t72 := Tryz.underlying240; have a72 := Tryz.isAgg240; have z72 := Tryz.sizeOf240; have u72 := run_underlying t72
  have t70 := Tryz.underlying238; have a70 := Tryz.isAgg238; have z70 := Tryz.sizeOf238; have v70 := Tryz.zeroValue238; have u70 := run_underlying t70
  have t4 := Tryz.underlying4; have a4 := Tryz.isAgg4; have u4 := run_underlying t4
  have t164 := Tryz.underlying266; have a164 := Tryz.isAgg266; have u164 := run_underlying t164
  go_enter Tryz.func271, Tryz.ntmps271
  go_wp2
  rw [Lib.run_neq_ptr_same w _ t70 hj]
  go_wp2
  go_end0
  exact ⟨rfl, rfl⟩
set_option maxHeartbeats 1000000 in
set_option maxRecDepth 1000000 in
theorem Yjk (b : Nat) (w : World) (h0 : w.cell? ⟨b, 0, none⟩ = some (.pointer none)) (hsh : w.shape? b = some (240, 2)) (hfz : w.frozen? ⟨b, 0, none⟩ = false) :
    Calls Tryz.prog 271 #[.pointer (some ⟨b, 0, none⟩)] w fun e w' => e = .returned (.tuple #[]) ∧ w' = w.setCell ⟨b, 0, none⟩ (.pointer (some ⟨b, 0, none⟩)) := by
  obtain ⟨j, hj, hjs⟩ := Option.map_eq_some_iff.1 (show (Tryz.prog.info? 240).map (·.size) = some 2 by kernel_rfl)
  have mixed : Tryz.prog.follows .mixedOrders = true := by kernel_rfl
  have t72 := Tryz.underlying240; have a72 := Tryz.isAgg240; have z72 := Tryz.sizeOf240; have u72 := run_underlying t72
  have t70 := Tryz.underlying238; have a70 := Tryz.isAgg238; have z70 := Tryz.sizeOf238; have v70 := Tryz.zeroValue238; have u70 := run_underlying t70
  have t4 := Tryz.underlying4; have a4 := Tryz.isAgg4; have u4 := run_underlying t4
  have t164 := Tryz.underlying266; have a164 := Tryz.isAgg266; have u164 := run_underlying t164
  go_enter Tryz.func271, Tryz.ntmps271
  go_wp2
  rw [Lib.run_to_unsafe w ⟨b, 0, none⟩ t70 t164 hj (by rw [hjs]; decide) hsh (Nat.zero_lt_succ 1)]
  simp only [Result.andThen]
  rw [Oper.upon_value]
  go_wp2
  rw [run_callFunc_extern Tryz.func291 (by kernel_rfl) (by kernel_rfl) (by kernel_rfl) (e := Extern.AbiNoEscape.same) (by kernel_rfl)]
  rw [Lib.run_noEscape]
  simp only [Result.andThen]
  rw [Oper.upon_value]
  go_wp2
  rw [Lib.run_from_unsafe w ⟨b, 0, none⟩ t164 t70 hj hsh (by kernel_rfl)]
  simp only [Result.andThen]
  rw [Oper.upon_value]
  go_wp2
  go_end0
  exact ⟨rfl, rfl⟩
theorem Yai {w : World} {g n b : Nat} (h : b ≠ g) : (w.freeze ⟨g, 0, none⟩ n).heap[b]? = w.heap[b]? := by
  unfold World.freeze
  split
  · rfl
  · show (w.heap.modify g _)[b]? = _
    rw [Array.getElem?_modify, if_neg (fun e => h e.symm)]
theorem Yf2 {w : World} {g n : Nat} {arr : Array Value} {T : TypeId} {fz : Nat × Nat} (h : w.heap[g]? = some (.cells arr T fz)) : ∃ fz', (w.freeze ⟨g, 0, none⟩ n).heap[g]? = some (.cells arr T fz') := by
  unfold World.freeze
  split
  · exact ⟨_, h⟩
  · refine ⟨if fz.1 == fz.2 then (0, 0 + n) else (min fz.1 0, max fz.2 (0 + n)), ?_⟩
    show (w.heap.modify g _)[g]? = _
    rw [Array.getElem?_modify, if_pos rfl, h]
    rfl
theorem Ybo {w : World} {g n : Nat} : (w.freeze ⟨g, 0, none⟩ n).heap.size = w.heap.size := by
  unfold World.freeze
  split
  · rfl
  · exact Array.size_modify
theorem Ybp {w : World} {g n : Nat} : (w.freeze ⟨g, 0, none⟩ n).os = w.os ∧ (w.freeze ⟨g, 0, none⟩ n).tape = w.tape ∧ (w.freeze ⟨g, 0, none⟩ n).output = w.output := by
  unfold World.freeze
  split <;> exact ⟨rfl, rfl, rfl⟩
set_option maxHeartbeats 1000000 in
set_option maxRecDepth 100000 in
theorem Yh2 (b g cap : Nat) (p : Value) (arr : Array Value) (fz : Nat × Nat) (l : List UInt8) (w : World) (h0 : l ≠ []) (hb : w.heap[b]? = some (.cells #[p, .slice (some ⟨g, 0, none⟩) l.length cap] 240 (0, 0))) (hg : w.heap[g]? = some (.cells arr 5 fz)) (hle : l.length ≤ arr.size) (hcap : l.length ≤ cap) (hm : cap ≤ maxLen)
    (hc : ∀ j x, l[j]? = some x → w.cell? ((⟨g, 0, none⟩ : Addr).add j) = some (.int .u8 x.toNat)) :
    Calls Tryz.prog 248 #[.pointer (some ⟨b, 0, none⟩)] w fun e w' => e = .returned (.string ⟨l.toArray⟩) ∧ w' = w.drew.freeze ⟨g, 0, none⟩ l.length := by
  have hl0 : l.length ≠ 0 := by simpa using h0
  have c1 : w.drew.cell? ⟨b, 1, none⟩ = some (.slice (some ⟨g, 0, none⟩) l.length cap) := by
    have : w.drew.heap[b]? = some (.cells #[p, .slice (some ⟨g, 0, none⟩) l.length cap] 240 (0, 0)) := hb
    simp [World.cell?, this]
  have hSD : (Builtin.unsafeSliceData_ #[144] 253 #[.slice (some ⟨g, 0, none⟩) l.length cap]).run Tryz.prog w.drew = .ok (.pointer (some ⟨g, 0, none⟩)) w.drew := Lib.run_unsafeSliceData_row _ _ _ _ _ _ (by omega)
  have hUS : (Builtin.unsafeString_ #[253, 3] 9 #[.pointer (some ⟨g, 0, none⟩), .int .i64 l.length]).run Tryz.prog w.drew = .ok (.string ⟨l.toArray⟩) (w.drew.freeze ⟨g, 0, none⟩ l.length) :=
    Lib.run_unsafeString_row w.drew 253 3 9 5 Tryz.underlying253 (by kernel_rfl) g arr.size (by have hg' : w.drew.heap[g]? = some (.cells arr 5 fz) := hg; simp [World.shape?, hg']) l h0 hle (by unfold maxLen at hm; omega) hc
  have mixed : Tryz.prog.follows .mixedOrders = true := by kernel_rfl
  have t72 := Tryz.underlying240; have a72 := Tryz.isAgg240; have z72 := Tryz.sizeOf240; have u72 := run_underlying t72
  have t70 := Tryz.underlying238; have a70 := Tryz.isAgg238; have z70 := Tryz.sizeOf238; have v70 := Tryz.zeroValue238; have u70 := run_underlying t70
  have t37 := Tryz.underlying144; have a37 := Tryz.isAgg144; have z37 := Tryz.sizeOf144; have v37 := Tryz.zeroValue144; have u37 := run_underlying t37
  have t127 := Tryz.underlying253; have a127 := Tryz.isAgg253; have z127 := Tryz.sizeOf253; have v127 := Tryz.zeroValue253; have u127 := run_underlying t127
  have t3 := Tryz.underlying3; have a3 := Tryz.isAgg3; have z3 := Tryz.sizeOf3; have v3 := Tryz.zeroValue3; have u3 := run_underlying t3
  have t9 := Tryz.underlying9; have a9 := Tryz.isAgg9; have z9 := Tryz.sizeOf9; have v9 := Tryz.zeroValue9; have u9 := run_underlying t9
  go_enter Tryz.func248, Tryz.ntmps248
  go_wp2
  go_region_o
  all_goals (go_wp2; go_ret; exact ⟨rfl, rfl⟩)
theorem Yis {w : World} {b : Nat} {x y u : Value} {T : TypeId} (h : w.heap[b]? = some (.cells #[x, y] T (0, 0))) : (w.setCell ⟨b, 0, none⟩ u).heap[b]? = some (.cells #[u, y] T (0, 0)) ∧ (∀ k, k ≠ b → (w.setCell ⟨b, 0, none⟩ u).heap[k]? = w.heap[k]?) ∧ (w.setCell ⟨b, 0, none⟩ u).heap.size = w.heap.size := by
  unfold World.setCell
  refine ⟨?_, fun k hk => ?_, Array.size_modify⟩
  · show (w.heap.modify b _)[b]? = _
    rw [Array.getElem?_modify, if_pos rfl, h]
    rfl
  · show (w.heap.modify b _)[k]? = _
    rw [Array.getElem?_modify, if_neg (fun e => hk e.symm)]
def BufP (xs : List UInt8) (l : Loc) (w : World) : Prop := SlO w (.slice l.A xs.length l.cap) xs l.F ∧ ∀ g, l.A = some ⟨g, 0, none⟩ → ∃ arr, w.heap[g]? = some (.cells arr 5 (0, 0)) ∧ arr.size = l.cap ∧ 0 < l.cap
theorem Yre (b : Nat) (p v : Value) (w : World) (hb : w.heap[b]? = some (.cells #[p, v] 240 (0, 0))) (hp : p = .pointer none ∨ p = .pointer (some ⟨b, 0, none⟩)) :
    Calls Tryz.prog 271 #[.pointer (some ⟨b, 0, none⟩)] w fun e w' => e = .returned (.tuple #[]) ∧ w'.heap[b]? = some (.cells #[.pointer (some ⟨b, 0, none⟩), v] 240 (0, 0)) ∧ w'.os = w.os ∧ w'.tape = w.tape ∧ w'.output = w.output ∧ w'.heap.size = w.heap.size ∧ ∀ k, k ≠ b → w'.heap[k]? = w.heap[k]? := by
  rcases hp with rfl | rfl
  · refine (Yjk b w (by simp [World.cell?, hb]) (by simp [World.shape?, hb]) (by simp [World.frozen?, hb])).mono ?_
    rintro e w' ⟨rfl, rfl⟩
    obtain ⟨s1, s2, s3⟩ := Yis (u := .pointer (some ⟨b, 0, none⟩)) hb
    exact ⟨rfl, s1, rfl, rfl, rfl, s3, s2⟩
  · refine (Yl4 b w (by simp [World.cell?, hb])).mono ?_
    rintro e w' ⟨rfl, rfl⟩
    exact ⟨rfl, hb, rfl, rfl, rfl, rfl, fun _ _ => rfl⟩
theorem Yjx {l : List Value} {xs : List UInt8} (h : FlE l xs) {j : Nat} {z : UInt8} (hj : xs[j]? = some z) : l[j]? = some (Value.int .u8 z.toNat) := by
  obtain ⟨q, rr, hq, hq2, hq3⟩ := (inferInstance : Str UInt8).op (Dat.own_rd (B := fun _ => True) (h j z hj default) fun _ _ => trivial)
  have hq2' : q = .int .u8 z.toNat := hq2
  have hq3' : rr = [] := hq3
  subst hq2'
  subst hq3'
  have h1 : (Fw.cut 1 l j)[0]? = some (Value.int .u8 z.toNat) := by
    have : Fw.cut 1 l j = [Value.int .u8 z.toNat] := hq
    rw [this]
    rfl
  unfold Fw.cut at h1
  rw [List.getElem?_take, if_pos (by omega), List.getElem?_drop, Nat.mul_one, Nat.add_zero] at h1
  exact h1
theorem Yil {l : List Value} {xs : List UInt8} (h : FlE l xs) (hl : xs.length ≤ l.length) : l.take xs.length = xs.map fun b => Value.int .u8 b.toNat := by
  apply List.ext_getElem?
  intro j
  rw [List.getElem?_take, List.getElem?_map]
  by_cases hj : j < xs.length
  · rw [if_pos hj, Yjx h (List.getElem?_eq_getElem hj), List.getElem?_eq_getElem hj]
    rfl
  · rw [if_neg hj, List.getElem?_eq_none (by omega : xs.length ≤ j)]
    rfl
theorem strE (str : ByteArray) (w : World) : Qhn w ((Qax str).map fun b => Value.int .u8 b.toNat) (Qax str) (List.replicate (Qax str).length []) := ⟨by simp, fun i u hi => ⟨[], by rw [List.getElem?_replicate, if_pos (List.getElem?_eq_some_iff.1 hi).1], by
  refine ⟨⟨?_, trivial⟩, rfl⟩
  have hlt := (List.getElem?_eq_some_iff.1 hi).1
  show ((((Qax str).map fun b => Value.int .u8 b.toNat).drop (i * 1)).take 1) = _
  rw [Nat.mul_one]
  rw [List.drop_eq_getElem_cons (by rw [List.length_map]; exact hlt), List.take_succ_cons, List.take_zero, List.getElem_map, (List.getElem?_eq_some_iff.1 hi).2]⟩⟩
theorem Yo1 {w : World} {v : Value} {xs : List UInt8} {F : List Nat} (str : ByteArray) (hv : SlO w v xs F) (hF : F.Nodup) (hT : ∀ g n cap, v = .slice (some ⟨g, 0, none⟩) n cap → ∃ arr, w.heap[g]? = some (.cells arr 5 (0, 0)) ∧ arr.size = cap ∧ 0 < cap) (hb : xs.length + str.size ≤ 140737488355328) :
    ∃ v' w' F', (Builtin.append_ #[144, 9] 144 #[v, .string str]).run Tryz.prog w = .ok v' w' ∧ SlO w' v' (xs ++ Qax str) F' ∧ F'.Nodup ∧ w'.os = w.os ∧ w'.tape = w.tape ∧ w'.output = w.output ∧ w.heap.size ≤ w'.heap.size ∧ (∀ b, b < w.heap.size → b ∉ F → w'.heap[b]? = w.heap[b]?) ∧ (∀ b ∈ F', b ∈ F ∨ w.heap.size ≤ b) ∧
      ∀ g n cap, v' = .slice (some ⟨g, 0, none⟩) n cap → ∃ arr, w'.heap[g]? = some (.cells arr 5 (0, 0)) ∧ arr.size = cap ∧ 0 < cap := by
  have hlen : (Qax str).length = str.size := by unfold Qax; rw [Array.length_toList]; rfl
  have hch : Qdj Tryz.prog 144 5 1 1 = true := by kernel_rfl
  have hfc : ∀ w : World, (Builtin.firstCells (Dat.sz UInt8) (Qax str).length (.string str)).run Tryz.prog w = .ok ((Qax str).map fun b => Value.int .u8 b.toNat).toArray w := fun w => by
    rw [hlen]
    show Result.ok _ _ = _
    congr 1
    have e : (str.extract 0 str.size).data = str.data := by
      rw [ByteArray.data_extract]
      exact Array.extract_size
    rw [e]
    apply Array.toList_inj.1
    rw [Array.toList_map]
    rfl
  obtain ⟨v', w', F', hrun, r1, r2, r3, r4, r5, r6, r7, r8⟩ := Yit (P := Tryz.prog) (ts := 9) (ty := 144) (ys := Qax str) (news := (Qax str).map fun b => Value.int .u8 b.toNat) (Gs := List.replicate (Qax str).length []) hch rfl Tryz.zeroValue5 rfl hv hF Tryz.underlying9 hlen.symm hfc (by rw [List.length_map]; exact (Nat.mul_one _).symm) (fun u hu => by obtain ⟨b, _, rfl⟩ := List.mem_map.1 hu; rfl) (strE str w) (by rw [Qlp]; simp) (fun b hb => by rw [Qlp] at hb; cases hb) (by rw [hlen]; omega) (by rw [hlen]; unfold maxLen; omega)
  · refine ⟨v', w', F', hrun, r1, r2, r3, r4, r5, r6, r7, fun b hb => ?_, fun g n cap hg => ?_⟩
    · rcases r8 b hb with h | h | h
      · exact .inl h
      · rw [Qlp] at h; cases h
      · exact .inr h
    · obtain ⟨i0, hi, hz0, hz1, hz2⟩ := info_parts (show (Tryz.prog.info? 5).map (fun i => (i.zero, i.size, i.bytes)) = some (some (.int .u8 0), 1, 1) by kernel_rfl)
      have hown : w.ownsRowF 0 5 1 v xs.length (xs.map fun b => Value.int .u8 b.toNat) := by
        refine ⟨by simp, ?_⟩
        rcases hv.fl inferInstance rfl with ⟨e1, e2⟩ | ⟨g0, cap0, arr, T, e1, e2, e3, e4, e5, e6, e7⟩
        · exact .inl ⟨e1, by rw [e2]; rfl⟩
        · obtain ⟨arr', q1, q2, _⟩ := hT g0 _ _ e1
          rw [e2] at q1
          cases q1
          refine .inr ⟨g0, cap0, arr, (0, 0), e1, Nat.zero_le _, e2, Nat.zero_le _, e3, e4, by rw [q2, Nat.mul_one], ?_⟩
          rw [Nat.mul_one]
          exact Yil e7 (by have hz : arr.toList.length = arr.size := Array.length_toList; omega)
      obtain ⟨v2, w2, hrun2, hown2, _, hiff⟩ := Lib.run_append_own_stringF (P := Tryz.prog) (w := w) 0 144 9 144 5 i0 Tryz.underlying144 Tryz.underlying9 hi hz0 hz1 hz2 v xs.length _ hown str (by unfold maxLen; omega) hb (Nat.zero_le _)
      rw [hrun] at hrun2
      injection hrun2 with hv2 hw2
      subst hv2
      subst hw2
      rcases hown2.2 with ⟨hn, _⟩ | ⟨g1, cap1, cur, fz, hv1, _, hg1, _, _, _, hs1, _⟩
      · rw [hn] at hg; injection hg with hg _ _; cases hg
      · have hv1' := hv1
        rw [hg] at hv1
        injection hv1 with a1 _ a3
        injection a1 with a1
        injection a1 with a1
        subst a1
        subst a3
        rcases r1.fl inferInstance rfl with ⟨e1, _⟩ | ⟨g0, cap0, arr, T, e1, e2, _⟩
        · rw [e1] at hg; injection hg with hg _ _; cases hg
        · rw [e1] at hg
          injection hg with b1 _ b3
          injection b1 with b1
          injection b1 with b1
          subst b1
          subst b3
          have e2' := e2
          rw [hg1] at e2'
          injection e2' with e2'
          injection e2' with c1 c2 c3
          subst c3
          refine ⟨_, hg1, by rw [hs1, Nat.mul_one], ?_⟩
          by_cases hz : (xs ++ Qax str).length = 0
          · rw [List.length_append, hlen] at hz
            rcases hv.fl inferInstance rfl with ⟨d1, d2⟩ | ⟨g9, cap9, arr9, T9, d1, d2, d3, d4, d5, d6, d7⟩
            · have hn := hiff.2 ⟨d1, by omega⟩
              rw [hv1'] at hn
              injection hn with hn _ _
              cases hn
            · obtain ⟨arr', q1, q2, q3⟩ := hT g9 _ _ d1
              have d2' := d2
              rw [q1] at d2'
              injection d2' with d2'
              injection d2' with x1 x2 x3
              subst x1
              subst x2
              have hroom := Lib.run_append_room_stringF (P := Tryz.prog) w 144 9 144 5 i0 Tryz.underlying144 Tryz.underlying9 hi hz1 g9 xs.length cap9 arr' (0, 0) d2 (by simp) str (by omega) (by omega)
              rw [← d1, hrun] at hroom
              injection hroom with y1 _
              rw [hv1'] at y1
              injection y1 with _ _ y3
              omega
          · omega
end
section
open Go.RowKit Go.Shelf
theorem Yir {w : World} {b : Nat} {x y u : Value} {T : TypeId} (h : w.heap[b]? = some (.cells #[x, y] T (0, 0))) : (w.setCell ⟨b, 1, none⟩ u).heap[b]? = some (.cells #[x, u] T (0, 0)) ∧ (∀ k, k ≠ b → (w.setCell ⟨b, 1, none⟩ u).heap[k]? = w.heap[k]?) ∧ (w.setCell ⟨b, 1, none⟩ u).heap.size = w.heap.size := by
  unfold World.setCell
  refine ⟨?_, fun k hk => ?_, Array.size_modify⟩
  · show (w.heap.modify b _)[b]? = _
    rw [Array.getElem?_modify, if_pos rfl, h]
    rfl
  · show (w.heap.modify b _)[k]? = _
    rw [Array.getElem?_modify, if_neg (fun e => hk e.symm)]
set_option maxHeartbeats 2000000 in
set_option maxRecDepth 1000000 in
theorem Yow (b : Nat) (p v : Value) (xs : List UInt8) (F : List Nat) (str : ByteArray) (w : World) (hb : w.heap[b]? = some (.cells #[p, v] 240 (0, 0))) (hp : p = .pointer none ∨ p = .pointer (some ⟨b, 0, none⟩))
    (hv : SlO w v xs F) (hF : F.Nodup) (hbF : b ∉ F) (hT : ∀ g n cap, v = .slice (some ⟨g, 0, none⟩) n cap → ∃ arr, w.heap[g]? = some (.cells arr 5 (0, 0)) ∧ arr.size = cap ∧ 0 < cap) (hlen : xs.length + str.size ≤ 140737488355328) :
    Calls Tryz.prog 245 #[.pointer (some ⟨b, 0, none⟩), .string str] w fun e w' => e = .returned (.tuple #[.int .i64 str.size, .nilIface]) ∧ ∃ v' F', w'.heap[b]? = some (.cells #[.pointer (some ⟨b, 0, none⟩), v'] 240 (0, 0)) ∧ SlO w' v' (xs ++ Qax str) F' ∧ F'.Nodup ∧ b ∉ F' ∧
      w'.os = w.os ∧ w'.tape = w.tape ∧ w'.output = w.output ∧ w.heap.size ≤ w'.heap.size ∧ (∀ k, k < w.heap.size → k ∉ F → k ≠ b → w'.heap[k]? = w.heap[k]?) ∧ (∀ k ∈ F', k ∈ F ∨ w.heap.size ≤ k) ∧
      ∀ g n cap, v' = .slice (some ⟨g, 0, none⟩) n cap → ∃ arr, w'.heap[g]? = some (.cells arr 5 (0, 0)) ∧ arr.size = cap ∧ 0 < cap := by
  have hlt : b < w.heap.size := (Array.getElem?_eq_some_iff.1 hb).1
  have mixed : Tryz.prog.follows .mixedOrders = true := by kernel_rfl
  have t72 := Tryz.underlying240; have a72 := Tryz.isAgg240; have z72 := Tryz.sizeOf240; have u72 := run_underlying t72
  have t70 := Tryz.underlying238; have a70 := Tryz.isAgg238; have z70 := Tryz.sizeOf238; have v70 := Tryz.zeroValue238; have u70 := run_underlying t70
  have t37 := Tryz.underlying144; have a37 := Tryz.isAgg144; have z37 := Tryz.sizeOf144; have v37 := Tryz.zeroValue144; have u37 := run_underlying t37
  have t3 := Tryz.underlying3; have a3 := Tryz.isAgg3; have z3 := Tryz.sizeOf3; have v3 := Tryz.zeroValue3; have u3 := run_underlying t3
  have t9 := Tryz.underlying9; have a9 := Tryz.isAgg9; have z9 := Tryz.sizeOf9; have v9 := Tryz.zeroValue9; have u9 := run_underlying t9
  have e240 : ∀ args w, (callFunc 271 args).run Tryz.prog w = .ok (.enter 271 args) w := enters_of Tryz.func271 (by kernel_rfl) rfl
  rcases hv.form with ⟨A, cap, rfl, hle⟩
  have cc := Yre b p (.slice A xs.length cap) w hb hp
  clear hb
  go_enter Tryz.func245, Tryz.ntmps245
  go_wp2_with (go_at_fn 271; refine cc.mono ?_)
  rintro e w1 ⟨rfl, hbk, k1, k2, k3, k4, k5⟩
  have hv1 : SlO w1 (.slice A xs.length cap) xs F := hv.same fun k hk => k5 k fun e => hbF (e ▸ hk)
  have hT1 : ∀ g n cap', Value.slice A xs.length cap = .slice (some ⟨g, 0, none⟩) n cap' → ∃ arr, w1.heap[g]? = some (.cells arr 5 (0, 0)) ∧ arr.size = cap' ∧ 0 < cap' := fun g n cap' hvv => by
    obtain ⟨arr, q1, q2⟩ := hT g n cap' hvv
    refine ⟨arr, ?_, q2⟩
    by_cases hgb : g = b
    · exfalso
      subst hgb
      rcases hv.fl inferInstance rfl with ⟨e1, _⟩ | ⟨g0, cap0, arr0, T0, e1, _, _, _, _, e6, _⟩
      · rw [hvv] at e1; injection e1 with e1 _ _; cases e1
      · rw [hvv] at e1
        injection e1 with e1 _ _
        injection e1 with e1
        injection e1 with e1
        exact hbF (e1 ▸ e6)
    · rw [k5 g hgb]
      exact q1
  obtain ⟨v', w2, F', hrun, r1, r2, r3, r4, r5, r6, r7, r8, r9⟩ := Yo1 str hv1 hF hT1 hlen
  clear cc hv hv1 hT hT1
  obtain ⟨l', rfl, hF'⟩ := Qw2 r1
  have c1 : w1.cell? ⟨b, 1, none⟩ = some (.slice A xs.length cap) := by rw [Lib.cell_of_heap hbk]; rfl
  have hb2 : w2.heap[b]? = some (.cells #[.pointer (some ⟨b, 0, none⟩), .slice A xs.length cap] 240 (0, 0)) := by
    rw [r7 b (by rw [k4]; exact hlt) hbF]
    exact hbk
  have d1 : w2.cell? ⟨b, 1, none⟩ = some (.slice A xs.length cap) := by rw [Lib.cell_of_heap hb2]; rfl
  have f1 : w2.frozen? ⟨b, 1, none⟩ = false := Lib.frozen_of_heap hb2 1
  have hbF' : b ∉ F' := fun h => (r8 b h).elim hbF fun h => by omega
  go_wp2_with (at_builtin; refine Lib.wpList_append_run _ rfl _ _ _ _ rfl _ _ rfl rfl _ _ hrun ?_)
  go_ret2
  obtain ⟨s1, s2, s3⟩ := Yir (u := .slice l'.A (xs ++ Qax str).length l'.cap) hb2
  rw [List.length_append] at s1 s2 s3 r1 r9
  refine ⟨rfl, _, F', s1, r1.same fun k hk => s2 k fun e => hbF' (e ▸ hk), r2, hbF', r3.trans k1, r4.trans k2, r5.trans k3, by rw [s3]; omega, fun k hk hkF hkb => ?_, fun k hk => (r8 k hk).imp id fun h => by omega, fun g n cap hg => ?_⟩
  · rw [s2 k hkb, r7 k (by omega) hkF, k5 k hkb]
  · obtain ⟨arr, q1, q2⟩ := r9 g n cap hg
    refine ⟨arr, ?_, q2⟩
    rw [s2 g ?_]
    · exact q1
    · rintro rfl
      rw [hb2] at q1
      injection q1 with q1
      injection q1 with _ q1 _
      exact absurd q1 (by decide)
theorem Qlv {θ : List Loc} {r b : Nat} {l : Loc} (h : θ[r]? = some l) (hA : l.A = some ⟨b, 0, none⟩) : V.con θ (.pt r 0) = some (.pointer (some ⟨b, 0, none⟩)) := by
  obtain ⟨A, cap, F⟩ := l
  simp only at hA
  subst hA
  simp only [V.con, h, Addr.add_zero']
theorem Q6f {θ : List Loc} {r n : Nat} {l : Loc} (h : θ[r]? = some l) : V.con θ (.sl r n) = some (.slice l.A n l.cap) := by
  simp only [V.con, h]
theorem Yf8 {θ : List Loc} {x y : V} {u v : Value} (h1 : x.con θ = some u) (h2 : y.con θ = some v) : conL θ [x, y] = some [u, v] := by
  simp only [conL, h1, h2]
theorem Yov {θ : List Loc} {x : V} {u : Value} (h1 : x.con θ = some u) : conL θ [x] = some [u] := by
  simp only [conL, h1]
theorem Yh3 {S : Nat → Prop} {w w' : World} {p : Nat → Loc} {b : Nat} {xs' : List UInt8} {v' : Value} {F F' : List Nat} (hA : (p 0).A = some ⟨b, 0, none⟩) (hF0 : (p 0).F = [b]) (hbS : ¬ S b) (hbl : b < w.heap.size) (dom : ∀ k, S k → k < w.heap.size) (hFS : ∀ k ∈ F, ¬ S k)
    (hb' : w'.heap[b]? = some (.cells #[.pointer (some ⟨b, 0, none⟩), v'] 240 (0, 0))) (r1 : SlO w' v' xs' F') (r2 : F'.Nodup) (hbF' : b ∉ F') (r3 : w'.os = w.os) (r4 : w'.tape = w.tape) (r5 : w'.output = w.output) (r6 : w.heap.size ≤ w'.heap.size) (r7 : ∀ k, k < w.heap.size → k ∉ F → k ≠ b → w'.heap[k]? = w.heap[k]?) (r8 : ∀ k ∈ F', k ∈ F ∨ w.heap.size ≤ k)
    (r9 : ∀ g n cap, v' = .slice (some ⟨g, 0, none⟩) n cap → ∃ arr, w'.heap[g]? = some (.cells arr 5 (0, 0)) ∧ arr.size = cap ∧ 0 < cap) {x : V} {ux : Value} (hx : ∀ θ, x.con θ = some ux) {y : V} {uy : Value} (hy : ∀ θ, y.con θ = some uy) :
    MQ S w p 1 [(0, .var [.pt 0 0, .sl 1 xs'.length] 240), (1, .any (BufP xs'))] 1 [x, y] True w' (.tuple #[ux, uy]) := by
  obtain ⟨l', hv', hF'⟩ := Qw2 r1
  subst hv'
  have g0 : (thz p 1 ++ [l'])[0]? = some (p 0) := rfl
  have g1 : (thz p 1 ++ [l'])[1]? = some l' := rfl
  refine ⟨trivial, [l'], [ux, uy], rfl, by simp only [conL, hx, hy], rfl, ?_⟩
  have f0 : ((En.var [.pt 0 0, .sl 1 xs'.length] 240).ck (thz p 1 ++ [l']) 0).F = [b] := (Qaf g0).trans hF0
  have f1 : ((En.any (BufP xs')).ck (thz p 1 ++ [l']) 1).F = F' := (Qaf g1).trans hF'
  have same : ∀ k, S k → w'.heap[k]? = w.heap[k]? := fun k hk => r7 k (dom k hk) (fun h => hFS k h hk) fun e => hbS (e ▸ hk)
  refine ⟨⟨r3, r4, r5, r6, same⟩, dom, fun c hc => ?_, fun c hc k hk => ?_, ?_⟩
  · rcases List.mem_cons.1 hc with rfl | hc
    · intro w2 hw2
      refine ⟨p 0, b, [.pointer (some ⟨b, 0, none⟩), .slice l'.A xs'.length l'.cap], g0, hA, hF0, ?_, ?_⟩
      · exact Yf8 (Qlv g0 hA) (Q6f g1)
      · exact (hw2 b (by rw [f0]; exact List.mem_singleton.2 rfl)).trans hb'
    · obtain rfl := List.mem_singleton.1 hc
      intro w2 hw2
      rw [f1] at hw2
      refine ⟨l', g1, fun k hk => ?_, ?_, fun g hg => ?_⟩
      · rw [hF'] at hk
        have := r1.lt k hk
        rcases Nat.lt_or_ge k w2.heap.size with h | h
        · exact h
        · have := hw2 k hk
          rw [Array.getElem?_eq_none h, Array.getElem?_eq_getElem (r1.lt k hk)] at this
          cases this
      · rw [hF']
        exact r1.same hw2
      · obtain ⟨arr, q1, q2⟩ := r9 g _ _ (by rw [hg])
        have hgF : g ∈ F' := by
          rcases r1.fl inferInstance rfl with ⟨e1, _⟩ | ⟨g0, cap0, arr0, T0, e1, _, _, _, _, e6, _⟩
          · rw [hg] at e1; injection e1 with e1 _ _; cases e1
          · rw [hg] at e1
            injection e1 with e1 _ _
            injection e1 with e1
            injection e1 with e1
            rw [e1]
            exact e6
        exact ⟨arr, (hw2 g hgF).trans q1, q2⟩
  · rcases List.mem_cons.1 hc with rfl | hc
    · rw [f0] at hk
      rw [List.mem_singleton.1 hk]
      exact ⟨hbS, by omega⟩
    · obtain rfl := List.mem_singleton.1 hc
      rw [f1] at hk
      refine ⟨fun hS => ?_, r1.lt k hk⟩
      rcases r8 k hk with h | h
      · exact hFS k h hS
      · have := dom k hS; omega
  · show (List.flatMap (·.F) [(En.var [.pt 0 0, .sl 1 xs'.length] 240).ck (thz p 1 ++ [l']) 0, (En.any (BufP xs')).ck (thz p 1 ++ [l']) 1]).Nodup
    rw [List.flatMap_cons, List.flatMap_cons, List.flatMap_nil, List.append_nil, f0, f1]
    exact List.nodup_cons.2 ⟨hbF', r2⟩
theorem k_ws (xs : List UInt8) (str : ByteArray) (hlen : xs.length + str.size ≤ 140737488355328) : CTMs 245 1 2 [(0, .var [.pt 0 0, .sl 1 xs.length] 240), (1, .any (BufP xs))] [] [.pt 0 0, .v (.string str)] [(0, .var [.pt 0 0, .sl 1 (xs ++ Qax str).length] 240), (1, .any (BufP (xs ++ Qax str)))] 1 [.v (.int .i64 str.size), .v .nilIface] True := by
  intro S w p us hG hgs hsh _ hargs
  have g0 := Qf5 (p := p) (n := 2) (k := 0) (by omega)
  have g1 := Qf5 (p := p) (n := 2) (k := 1) (by omega)
  have e0 : (([(0, .var [.pt 0 0, .sl 1 xs.length] 240), (1, .any (BufP xs))] : List (Nat × En)).map fun e => e.2.ck (thz p 2) e.1)[0]? = some ((En.var [.pt 0 0, .sl 1 xs.length] 240).ck (thz p 2) 0) := rfl
  have e1 : (([(0, .var [.pt 0 0, .sl 1 xs.length] 240), (1, .any (BufP xs))] : List (Nat × En)).map fun e => e.2.ck (thz p 2) e.1)[1]? = some ((En.any (BufP xs)).ck (thz p 2) 1) := rfl
  obtain ⟨l0, b, ccs, hl0, hA, hF, hcc, hb⟩ := hsh.get e0
  obtain ⟨l1, hl1, hlt1, hv, hT⟩ := hsh.get e1
  rw [g0] at hl0; cases hl0
  rw [g1] at hl1; cases hl1
  have f0 : ((En.var [.pt 0 0, .sl 1 xs.length] 240).ck (thz p 2) 0).F = [b] := (Qaf g0).trans hF
  have f1 : ((En.any (BufP xs)).ck (thz p 2) 1).F = (p 1).F := Qaf g1
  have hus : us = [.pointer (some ⟨b, 0, none⟩), .string str] := by
    have : conL (thz p 2) [.pt 0 0, .v (.string str)] = some [.pointer (some ⟨b, 0, none⟩), .string str] := Yf8 (Qlv g0 hA) rfl
    rw [this] at hargs
    exact (Option.some.inj hargs).symm
  subst hus
  have hccs : ccs = [.pointer (some ⟨b, 0, none⟩), .slice (p 1).A xs.length (p 1).cap] := by
    have : conL (thz p 2) [.pt 0 0, .sl 1 xs.length] = some [.pointer (some ⟨b, 0, none⟩), .slice (p 1).A xs.length (p 1).cap] := Yf8 (Qlv g0 hA) (Q6f g1)
    rw [this] at hcc
    exact (Option.some.inj hcc).symm
  subst hccs
  have hnd := hsh.nd e1
  rw [f1] at hnd
  have hdj := hsh.dj e0 e1 (by omega)
  rw [f0, f1] at hdj
  have hge0 := hsh.ge _ (List.mem_of_getElem? e0) b (by rw [f0]; exact List.mem_singleton.2 rfl)
  have hge1 := hsh.ge _ (List.mem_of_getElem? e1)
  rw [f1] at hge1
  refine (Yow b _ _ xs (p 1).F str w hb (.inr rfl) hv hnd (hdj b (List.mem_singleton.2 rfl)) (fun g n cap hg => ?_) hlen).mono fun e w' hq => ?_
  · injection hg with h1 h2 h3
    obtain ⟨arr, q1, q2, q3⟩ := hT g h1
    exact ⟨arr, q1, by rw [q2, h3], by rw [← h3]; exact q3⟩
  · obtain ⟨rfl, v', F', q1, q2, q3, q4, q5, q6, q7, q8, q9, q10, q11⟩ := hq
    exact ⟨_, rfl, Yh3 (F := (p 1).F) hA hF hge0.1 hge0.2 hsh.dom (fun k hk => (hge1 k hk).1) q1 q2 q3 q4 q5 q6 q7 q8 q9 q10 q11 (fun _ => rfl) (fun _ => rfl)⟩
theorem Yp2 (str : ByteArray) (hlen : str.size ≤ 140737488355328) : CTMs 245 1 1 [(0, .var [.v (.pointer none), .v (.slice none 0 0)] 240)] [] [.pt 0 0, .v (.string str)] [(0, .var [.pt 0 0, .sl 1 (Qax str).length] 240), (1, .any (BufP (Qax str)))] 1 [.v (.int .i64 str.size), .v .nilIface] True := by
  intro S w p us hG hgs hsh _ hargs
  have g0 := Qf5 (p := p) (n := 1) (k := 0) (by omega)
  have e0 : (([(0, .var [.v (.pointer none), .v (.slice none 0 0)] 240)] : List (Nat × En)).map fun e => e.2.ck (thz p 1) e.1)[0]? = some ((En.var [.v (.pointer none), .v (.slice none 0 0)] 240).ck (thz p 1) 0) := rfl
  obtain ⟨l0, b, ccs, hl0, hA, hF, hcc, hb⟩ := hsh.get e0
  rw [g0] at hl0; cases hl0
  cases hcc
  have f0 : ((En.var [.v (.pointer none), .v (.slice none 0 0)] 240).ck (thz p 1) 0).F = [b] := (Qaf g0).trans hF
  have hus : us = [.pointer (some ⟨b, 0, none⟩), .string str] := by
    have : conL (thz p 1) [.pt 0 0, .v (.string str)] = some [.pointer (some ⟨b, 0, none⟩), .string str] := Yf8 (Qlv g0 hA) rfl
    rw [this] at hargs
    exact (Option.some.inj hargs).symm
  subst hus
  have hge0 := hsh.ge _ (List.mem_of_getElem? e0) b (by rw [f0]; exact List.mem_singleton.2 rfl)
  refine (Yow b _ _ [] [] str w hb (.inl rfl) (Qfy.2 (.inl ⟨rfl, rfl, rfl⟩)) List.nodup_nil (fun h => by cases h) (fun g n cap hg => by injection hg with hg _ _; cases hg) (by simpa using hlen)).mono fun e w' hq => ?_
  obtain ⟨rfl, v', F', q1, q2, q3, q4, q5, q6, q7, q8, q9, q10, q11⟩ := hq
  exact ⟨_, rfl, Yh3 (F := []) hA hF hge0.1 hge0.2 hsh.dom (fun k hk => by cases hk) q1 q2 q3 q4 q5 q6 q7 q8 q9 q10 q11 (fun _ => rfl) (fun _ => rfl)⟩
set_option maxHeartbeats 1000000 in
set_option maxRecDepth 100000 in
theorem Yox (b n cap : Nat) (p : Value) (A : Option Addr) (w : World) (hb : w.heap[b]? = some (.cells #[p, .slice A n cap] 240 (0, 0))) :
    Calls Tryz.prog 246 #[.pointer (some ⟨b, 0, none⟩)] w fun e w' => e = .returned (.int .i64 n) ∧ w' = w := by
  have c1 : w.cell? ⟨b, 1, none⟩ = some (.slice A n cap) := by rw [Lib.cell_of_heap hb]; rfl
  have mixed : Tryz.prog.follows .mixedOrders = true := by kernel_rfl
  have t72 := Tryz.underlying240; have a72 := Tryz.isAgg240; have z72 := Tryz.sizeOf240; have u72 := run_underlying t72
  have t70 := Tryz.underlying238; have a70 := Tryz.isAgg238; have z70 := Tryz.sizeOf238; have v70 := Tryz.zeroValue238; have u70 := run_underlying t70
  have t37 := Tryz.underlying144; have a37 := Tryz.isAgg144; have z37 := Tryz.sizeOf144; have v37 := Tryz.zeroValue144; have u37 := run_underlying t37
  have t3 := Tryz.underlying3; have a3 := Tryz.isAgg3; have z3 := Tryz.sizeOf3; have v3 := Tryz.zeroValue3; have u3 := run_underlying t3
  clear hb
  go_enter Tryz.func246, Tryz.ntmps246
  go_wp2
  go_ret
  exact ⟨rfl, rfl⟩
set_option maxHeartbeats 1000000 in
set_option maxRecDepth 100000 in
theorem Q5q (b cap : Nat) (p : Value) (A : Option Addr) (w : World) (hb : w.heap[b]? = some (.cells #[p, .slice A 0 cap] 240 (0, 0))) (hA : A = none ∨ cap ≠ 0) :
    Calls Tryz.prog 248 #[.pointer (some ⟨b, 0, none⟩)] w fun e w' => e = .returned (.string .empty) ∧ w' = w.drew := by
  have c1 : w.drew.cell? ⟨b, 1, none⟩ = some (.slice A 0 cap) := by
    have : w.drew.heap[b]? = some (.cells #[p, .slice A 0 cap] 240 (0, 0)) := hb
    simp [World.cell?, this]
  have hSD : (Builtin.unsafeSliceData_ #[144] 253 #[.slice A 0 cap]).run Tryz.prog w.drew = .ok (.pointer A) w.drew := by
    cases A with
    | none => exact Lib.run_unsafeSliceData_nil _ _ _ _ _
    | some a => exact Lib.run_unsafeSliceData_row _ _ _ _ _ _ (hA.elim (fun h => by cases h) id)
  have hUS : (Builtin.unsafeString_ #[253, 3] 9 #[.pointer A, .int .i64 0]).run Tryz.prog w.drew = .ok (.string .empty) w.drew := Lib.run_unsafeString_none _ _ _ _ _
  have mixed : Tryz.prog.follows .mixedOrders = true := by kernel_rfl
  have t72 := Tryz.underlying240; have a72 := Tryz.isAgg240; have z72 := Tryz.sizeOf240; have u72 := run_underlying t72
  have t70 := Tryz.underlying238; have a70 := Tryz.isAgg238; have z70 := Tryz.sizeOf238; have v70 := Tryz.zeroValue238; have u70 := run_underlying t70
  have t37 := Tryz.underlying144; have a37 := Tryz.isAgg144; have z37 := Tryz.sizeOf144; have v37 := Tryz.zeroValue144; have u37 := run_underlying t37
  have t127 := Tryz.underlying253; have a127 := Tryz.isAgg253; have z127 := Tryz.sizeOf253; have v127 := Tryz.zeroValue253; have u127 := run_underlying t127
  have t3 := Tryz.underlying3; have a3 := Tryz.isAgg3; have z3 := Tryz.sizeOf3; have v3 := Tryz.zeroValue3; have u3 := run_underlying t3
  have t9 := Tryz.underlying9; have a9 := Tryz.isAgg9; have z9 := Tryz.sizeOf9; have v9 := Tryz.zeroValue9; have u9 := run_underlying t9
  clear hA
  go_enter Tryz.func248, Tryz.ntmps248
  go_wp2
  go_region_o
  all_goals (go_wp2; go_ret; exact ⟨rfl, rfl⟩)
def BufZ (xs : List UInt8) (l : Loc) (w : World) : Prop := (l.A = none ∧ xs = []) ∨ ∃ g arr fz, l.A = some ⟨g, 0, none⟩ ∧ g ∈ l.F ∧ w.heap[g]? = some (.cells arr 5 fz) ∧ arr.size = l.cap ∧ 0 < l.cap ∧ l.cap ≤ maxLen ∧ xs.length ≤ l.cap ∧ ∀ (j : Nat) (x : UInt8), xs[j]? = some x → arr[j]? = some (Value.int .u8 x.toNat)
theorem BufP.z {xs : List UInt8} {l : Loc} {w : World} (h : BufP xs l w) : BufZ xs l w := by
  obtain ⟨hv, hT⟩ := h
  rcases hv.fl inferInstance rfl with ⟨e1, e2⟩ | ⟨g, cap, arr, T, e1, e2, e3, e4, e5, e6, e7⟩
  · injection e1 with e1 _ _
    exact .inl ⟨e1, e2⟩
  · injection e1 with h1 _ h3
    obtain ⟨arr', q1, q2, q3⟩ := hT g h1
    rw [e2] at q1
    injection q1 with q1
    injection q1 with x1 x2 _
    subst x1
    subst x2
    refine .inr ⟨g, arr, (0, 0), h1, e6, e2, q2, q3, by rw [h3]; exact e4, by rw [h3]; exact e3, fun j x hj => ?_⟩
    have := Yjx e7 hj
    rwa [Array.getElem?_toList] at this
theorem Yp3 {P : List UInt8 → Loc → World → Prop} (xs : List UInt8) : CTMs 246 2 2 [(0, .var [.pt 0 0, .sl 1 xs.length] 240), (1, .any (P xs))] [] [.pt 0 0] [(0, .var [.pt 0 0, .sl 1 xs.length] 240), (1, .any (P xs))] 0 [.v (.int .i64 xs.length)] True := by
  intro S w p us hG hgs hsh _ hargs
  have g0 := Qf5 (p := p) (n := 2) (k := 0) (by omega)
  have e0 : (([(0, .var [.pt 0 0, .sl 1 xs.length] 240), (1, .any (P xs))] : List (Nat × En)).map fun e => e.2.ck (thz p 2) e.1)[0]? = some ((En.var [.pt 0 0, .sl 1 xs.length] 240).ck (thz p 2) 0) := rfl
  have g1 := Qf5 (p := p) (n := 2) (k := 1) (by omega)
  obtain ⟨l0, b, ccs, hl0, hA, hF, hcc, hb⟩ := hsh.get e0
  rw [g0] at hl0; cases hl0
  have hus : us = [.pointer (some ⟨b, 0, none⟩)] := by
    have : conL (thz p 2) [.pt 0 0] = some [.pointer (some ⟨b, 0, none⟩)] := Yov (Qlv g0 hA)
    rw [this] at hargs
    exact (Option.some.inj hargs).symm
  subst hus
  have hccs : ccs = [.pointer (some ⟨b, 0, none⟩), .slice (p 1).A xs.length (p 1).cap] := by
    have : conL (thz p 2) [.pt 0 0, .sl 1 xs.length] = some [.pointer (some ⟨b, 0, none⟩), .slice (p 1).A xs.length (p 1).cap] := Yf8 (Qlv g0 hA) (Q6f g1)
    rw [this] at hcc
    exact (Option.some.inj hcc).symm
  subst hccs
  refine (Yox b _ _ _ _ w hb).mono ?_
  rintro e w' ⟨rfl, rfl⟩
  refine ⟨_, rfl, trivial, [], [_], rfl, rfl, rfl, ?_⟩
  rw [List.append_nil]
  exact hsh
theorem BufZ.same {xs : List UInt8} {l : Loc} {w w2 : World} (h : BufZ xs l w) (hw : ∀ k ∈ l.F, w2.heap[k]? = w.heap[k]?) : BufZ xs l w2 := by
  rcases h with h | ⟨g, arr, fz, h1, h2, h3, h4⟩
  · exact .inl h
  · exact .inr ⟨g, arr, fz, h1, h2, (hw g h2).trans h3, h4⟩
theorem Ymp {P : List UInt8 → Loc → World → Prop} (xs : List UInt8) (hP : ∀ l w, P xs l w → BufZ xs l w) : CTMs 248 2 2 [(0, .var [.pt 0 0, .sl 1 xs.length] 240), (1, .any (P xs))] [] [.pt 0 0] [(0, .var [.pt 0 0, .sl 1 xs.length] 240), (1, .any (BufZ xs))] 0 [.v (.string (bstr xs))] True := by
  intro S w p us hG hgs hsh _ hargs
  have g0 := Qf5 (p := p) (n := 2) (k := 0) (by omega)
  have e0 : (([(0, .var [.pt 0 0, .sl 1 xs.length] 240), (1, .any (P xs))] : List (Nat × En)).map fun e => e.2.ck (thz p 2) e.1)[0]? = some ((En.var [.pt 0 0, .sl 1 xs.length] 240).ck (thz p 2) 0) := rfl
  have e1 : (([(0, .var [.pt 0 0, .sl 1 xs.length] 240), (1, .any (P xs))] : List (Nat × En)).map fun e => e.2.ck (thz p 2) e.1)[1]? = some ((En.any (P xs)).ck (thz p 2) 1) := rfl
  have g1 := Qf5 (p := p) (n := 2) (k := 1) (by omega)
  obtain ⟨l0, b, ccs, hl0, hA, hF, hcc, hb⟩ := hsh.get e0
  obtain ⟨l1, hl1, hlt1, hPw⟩ := hsh.get e1
  rw [g0] at hl0; cases hl0
  rw [g1] at hl1; cases hl1
  have f0 : ((En.var [.pt 0 0, .sl 1 xs.length] 240).ck (thz p 2) 0).F = [b] := (Qaf g0).trans hF
  have f1 : ((En.any (P xs)).ck (thz p 2) 1).F = (p 1).F := Qaf g1
  have f1' : ((En.any (BufZ xs)).ck (thz p 2) 1).F = (p 1).F := Qaf g1
  have hus : us = [.pointer (some ⟨b, 0, none⟩)] := by
    have : conL (thz p 2) [.pt 0 0] = some [.pointer (some ⟨b, 0, none⟩)] := Yov (Qlv g0 hA)
    rw [this] at hargs
    exact (Option.some.inj hargs).symm
  subst hus
  have hccs : ccs = [.pointer (some ⟨b, 0, none⟩), .slice (p 1).A xs.length (p 1).cap] := by
    have : conL (thz p 2) [.pt 0 0, .sl 1 xs.length] = some [.pointer (some ⟨b, 0, none⟩), .slice (p 1).A xs.length (p 1).cap] := Yf8 (Qlv g0 hA) (Q6f g1)
    rw [this] at hcc
    exact (Option.some.inj hcc).symm
  subst hccs
  have key : ∀ w', w'.os = w.os → w'.tape = w.tape → w'.output = w.output → w'.heap.size = w.heap.size → (∀ k, k ∉ (p 1).F → w'.heap[k]? = w.heap[k]?) → (∀ w2 : World, (∀ k ∈ (p 1).F, w2.heap[k]? = w'.heap[k]?) → BufZ xs (p 1) w2) →
      SH S w w' (([(0, .var [.pt 0 0, .sl 1 xs.length] 240), (1, .any (BufZ xs))] : List (Nat × En)).map fun e => e.2.ck (thz p 2) e.1) := by
    intro w' k1 k2 k3 k4 k5 k6
    have h2 := hsh.turn (c' := (En.any (BufZ xs)).ck (thz p 2) 1) (w' := w') e1 k1 k2 k3 (by omega) (fun k _ hk => k5 k (by rwa [f1] at hk)) (fun w2 hw2 => ?_) (fun k hk => ?_) (by rw [f1']; have := hsh.nd e1; rwa [f1] at this)
    · exact h2
    · rw [f1'] at hw2
      refine ⟨p 1, g1, fun k hk => ?_, k6 w2 hw2⟩
      have := hw2 k hk
      rcases Nat.lt_or_ge k w2.heap.size with h | h
      · exact h
      · have hl := hlt1 k hk
        rw [Array.getElem?_eq_none h, Array.getElem?_eq_getElem (by omega)] at this
        cases this
    · rw [f1'] at hk
      rw [f1]
      exact ⟨.inl hk, by rw [k4]; exact hlt1 k hk⟩
  have hz := hP _ _ hPw
  rcases hz with ⟨hA1, rfl⟩ | ⟨g, arr, fz, hA1, hgF, hg, hsz, hc0, hcm, hle, hcell⟩
  · refine (Q5q b _ _ _ w hb (.inl hA1)).mono ?_
    rintro e w' ⟨rfl, rfl⟩
    refine ⟨_, rfl, trivial, [], [_], rfl, rfl, rfl, ?_⟩
    rw [List.append_nil]
    exact key w.drew rfl rfl rfl rfl (fun _ _ => rfl) fun w2 hw2 => .inl ⟨hA1, rfl⟩
  · have hz : BufZ xs (p 1) w := .inr ⟨g, arr, fz, hA1, hgF, hg, hsz, hc0, hcm, hle, hcell⟩
    by_cases hx : xs = []
    · subst hx
      refine (Q5q b _ _ _ w hb (.inr (by omega))).mono ?_
      rintro e w' ⟨rfl, rfl⟩
      refine ⟨_, rfl, trivial, [], [_], rfl, rfl, rfl, ?_⟩
      rw [List.append_nil]
      exact key w.drew rfl rfl rfl rfl (fun _ _ => rfl) fun w2 hw2 => hz.same hw2
    · rw [hA1] at hb
      refine (Yh2 b g _ _ arr fz xs w hx hb hg (by omega) hle hcm fun j x hj => ?_).mono ?_
      · rw [Qmd, cell_of_row w g j arr 5 fz hg]
        exact hcell j x hj
      · rintro e w' ⟨rfl, rfl⟩
        refine ⟨_, rfl, trivial, [], [_], rfl, rfl, rfl, ?_⟩
        rw [List.append_nil]
        obtain ⟨fz', hg'⟩ := Yf2 (w := w.drew) (n := xs.length) hg
        have hr := Ybp (w := w.drew) (g := g) (n := xs.length)
        refine key _ hr.1 hr.2.1 hr.2.2 Ybo (fun k hk => Yai fun e => hk (e ▸ hgF)) fun w2 hw2 => ?_
        exact BufZ.same (.inr ⟨g, arr, fz', hA1, hgF, hg', hsz, hc0, hcm, hle, hcell⟩) hw2
end
section
open Go.RowKit
theorem Qj6 (P : Program) (g o : Nat) (t : TypeId) (fz : Nat × Nat) : ∀ (vs : List Value) (i : Nat) (cur : Array Value) (w : World), w.heap[g]? = some (.cells cur t fz) → (fz.2 = 0 ∨ cur.size ≤ fz.1) → o + i + vs.length ≤ cur.size → (∀ v ∈ vs, v.oneCell' = true) →
    (storeCells ⟨g, o, none⟩ vs i).run P w = .ok () (w.setRow g (cur.toList.take (o + i) ++ vs ++ cur.toList.drop (o + i + vs.length)).toArray)
  | [], i, cur, w, hg, _, _, _ => by
    simp only [storeCells, List.append_nil, List.length_nil, Nat.add_zero, List.take_append_drop, Array.toArray_toList]
    rw [setRow_self w g cur t fz hg]
    rfl
  | v :: rest, i, cur, w, hg, hfz, hl, h1 => by
    have hi : o + i < cur.size := by simp at hl; omega
    have hadd : (⟨g, o, none⟩ : Addr).add i = ⟨g, o + i, none⟩ := by unfold Addr.add; split <;> simp_all
    have hcell : w.cell? ⟨g, o + i, none⟩ = some cur[o + i] := by simp [World.cell?, hg, hi]
    have hfro : w.frozen? ⟨g, o + i, none⟩ = false := by
      obtain ⟨lo, hi'⟩ := fz
      simp only [World.frozen?, hg, Bool.and_eq_false_iff, decide_eq_false_iff_not]
      simp only at hfz
      omega
    have hst : (store ((⟨g, o, none⟩ : Addr).add i) v).run P w = .ok () (w.setRow g (cur.setIfInBounds (o + i) v)) := by
      rw [hadd, run_store P w _ v _ (h1 v (by simp)), hcell]
      simp [hfro, setCell_eq_setRow w g (o + i) cur t fz v hg]
    have ih := Qj6 P g o t fz rest (i + 1) (cur.setIfInBounds (o + i) v) (w.setRow g (cur.setIfInBounds (o + i) v)) (setRow_heap w g cur _ t _ hg) (by rw [Array.size_setIfInBounds]; exact hfz) (by simp at hl ⊢; omega) (fun x hx => h1 x (by simp [hx]))
    simp only [storeCells, Sem.run_bind, hst, Result.andThen_ok, ih, setRow_setRow]
    congr 3
    have e := list_seg_step cur.toList (o + i) v rest (by simp at hl ⊢; omega)
    simpa [Array.toList_setIfInBounds, Nat.add_assoc] using e
def u8s (xs : List UInt8) : List Value := xs.map fun b => Value.int .u8 b.toNat
theorem Qjw (xs : List UInt8) : (u8s xs).length = xs.length := by simp [u8s]
theorem Ygp (xs ys : List UInt8) : u8s (xs ++ ys) = u8s xs ++ u8s ys := by simp [u8s]
theorem Ylc {xs : List UInt8} : ∀ u ∈ u8s xs, u.oneCell' = true := fun u hu => by
  obtain ⟨b, _, rfl⟩ := List.mem_map.1 hu
  rfl
def BufM (e : TypeId) (xs : List UInt8) (l : Loc) (w : World) : Prop := ∃ g arr fz, l.A = some ⟨g, 0, none⟩ ∧ l.F = [g] ∧ w.heap[g]? = some (.cells arr e fz) ∧ (fz.2 = 0 ∨ arr.size ≤ fz.1) ∧ xs.length ≤ l.cap ∧ l.cap ≤ maxLen ∧ l.cap ≤ arr.size ∧ arr.toList.take xs.length = u8s xs
theorem BufM.same {e : TypeId} {xs : List UInt8} {l : Loc} {w w2 : World} (h : BufM e xs l w) (hw : ∀ k ∈ l.F, w2.heap[k]? = w.heap[k]?) : BufM e xs l w2 := by
  obtain ⟨g, arr, fz, h1, h2, h3, h4⟩ := h
  exact ⟨g, arr, fz, h1, h2, (hw g (by rw [h2]; exact List.mem_singleton.2 rfl)).trans h3, h4⟩
theorem BufM.lt {e : TypeId} {xs : List UInt8} {l : Loc} {w : World} (h : BufM e xs l w) : ∀ k ∈ l.F, k < w.heap.size := by
  obtain ⟨g, arr, fz, h1, h2, h3, h4⟩ := h
  intro k hk
  rw [h2] at hk
  rw [List.mem_singleton.1 hk]
  exact (Array.getElem?_eq_some_iff.1 h3).1
theorem BufM.cell {e : TypeId} {xs : List UInt8} {w : World} {g : Nat} {arr : Array Value} {fz : Nat × Nat} (h3 : w.heap[g]? = some (.cells arr e fz)) (h8 : arr.toList.take xs.length = u8s xs) : ∀ j u, (u8s xs)[j]? = some u → w.cell? ((⟨g, 0, none⟩ : Addr).add j) = some u := by
  intro j u hj
  rw [← h8, List.getElem?_take] at hj
  split at hj
  · rw [Qmd]
    have : (⟨g, 0 + j, none⟩ : Addr) = ⟨g, j, none⟩ := by rw [Nat.zero_add]
    first
    | (rw [cell_of_row w g j arr e fz h3]; rwa [Array.getElem?_toList] at hj)
    | (rw [this, cell_of_row w g j arr e fz h3]; rwa [Array.getElem?_toList] at hj)
  · cases hj
section
variable {P : Program}
set_option maxHeartbeats 1000000 in
theorem Yiu {t ts e ty : Nat} {z u : Value} {w : World} {l : Loc} {xs ys : List UInt8} (ht : Qdj P t e 1 1 = true) (hz : ∀ w, (zeroValue e).run P w = .ok z w) (hzs : z.cells.size = 1) (hv : BufM e xs l w)
    (hts : P.underlying ts = some .string ∨ ∃ q, P.underlying ts = some (.slice q)) (hln : ∀ w, (Builtin.lenOf u).run P w = .ok ys.length w) (hfirst : ∀ w' : World, w'.heap = w.heap → (Builtin.firstCells 1 ys.length u).run P w' = .ok (u8s ys).toArray w') (hb : xs.length + ys.length ≤ 140737488355328) :
    ∃ l' w', (Builtin.append_ #[t, ts] ty #[.slice l.A xs.length l.cap, u]).run P w = .ok (.slice l'.A (xs ++ ys).length l'.cap) w' ∧ BufM e (xs ++ ys) l' w' ∧ w'.os = w.os ∧ w'.tape = w.tape ∧ w'.output = w.output ∧ w.heap.size ≤ w'.heap.size ∧ (∀ b, b < w.heap.size → b ∉ l.F → w'.heap[b]? = w.heap[b]?) ∧ (∀ b ∈ l'.F, b ∈ l.F ∨ w.heap.size ≤ b) ∧ l'.F.Nodup := by
  obtain ⟨hu, i, hi, his, hib⟩ := Qbb ht
  have hzi : i.zero = some z := by
    have := hz w
    simp only [zeroValue, Sem.run_bind, typeInfo, run_program, hi, Sem.run_pure, Result.andThen_ok] at this
    cases hzz : i.zero with
    | none => rw [hzz] at this; simp at this
    | some z' => rw [hzz] at this; simp at this; rw [this]
  have hm : xs.length + ys.length ≤ maxLen := by unfold maxLen; omega
  obtain ⟨g, arr, fz, h1, h2, h3, h4, h5, h6, h7, h8⟩ := hv
  have hal : arr.toList.length = arr.size := Array.length_toList
  rw [h1]
  by_cases hroom : xs.length + ys.length ≤ l.cap
  · have hst := Qj6 P g xs.length e fz (u8s ys) 0 arr w h3 h4 (by rw [Qjw]; omega) Ylc
    simp only [Nat.add_zero] at hst
    refine ⟨⟨some ⟨g, 0, none⟩, l.cap, [g]⟩, w.setRow g (arr.toList.take xs.length ++ u8s ys ++ arr.toList.drop (xs.length + (u8s ys).length)).toArray, ?_, ⟨g, _, fz, rfl, rfl, setRow_heap w g arr _ e _ h3, ?_, by rw [List.length_append]; exact hroom, h6, ?_, ?_⟩, rfl, rfl, rfl, by simp, fun b _ hbF => setRow_other w g b _ fun e => hbF (by rw [h2, e]; exact List.mem_singleton.2 rfl), fun b hb => .inl (by rw [h2]; exact hb), by simp⟩
    · rw [List.length_append]
      have hf := hfirst w rfl
      rcases hts with hts | ⟨q, hts⟩ <;> simp [Builtin.append_, run_underlying hu, run_underlying hts, sizeOf, typeInfo, hi, his, hln, hroom, hf, Addr.add_lit, hst]
    · have : (arr.toList.take xs.length ++ u8s ys ++ arr.toList.drop (xs.length + (u8s ys).length)).toArray.size = arr.size := by
        simp only [List.size_toArray, List.length_append, List.length_take, List.length_drop, hal, Qjw]
        omega
      rw [this]
      exact h4
    · simp only [List.size_toArray, List.length_append, List.length_take, List.length_drop, hal, Qjw]
      omega
    · show List.take _ (arr.toList.take xs.length ++ u8s ys ++ arr.toList.drop (xs.length + (u8s ys).length)) = _
      rw [h8, ← Ygp]
      exact List.take_left' (Qjw _)
  · have hge := grownCap_ge w (xs.length + ys.length) l.cap e
    have hcm := grownCap_le_maxLen w (xs.length + ys.length) l.cap e hm
    refine ⟨⟨some ⟨w.heap.size, 0, none⟩, grownCap w (xs.length + ys.length) l.cap e, [w.heap.size]⟩, w.drew.alloc (.cells ((u8s xs).toArray ++ (u8s ys).toArray ++ Builtin.zeroCells z.cells (grownCap w (xs.length + ys.length) l.cap e - (xs.length + ys.length))) e), ?_, ⟨w.heap.size, _, (0, 0), rfl, rfl, heap_alloc_new w.drew _, .inl rfl, by rw [List.length_append]; exact hge, hcm, ?_, ?_⟩, rfl, rfl, rfl, by simp, fun b hb _ => heap_alloc_old w.drew _ hb, fun b hb => .inr (by rw [List.mem_singleton.1 hb]; exact Nat.le_refl _), by simp⟩
    · have hf2 := run_firstCells_some (P := P) w.drew 1 xs.length ⟨g, 0, none⟩ xs.length l.cap (u8s xs) (by rw [Qjw, Nat.mul_one]) (BufM.cell h3 h8)
      have hf := hfirst w.drew rfl
      have h63' : ¬ (9223372036854775807 < ((xs.length : Int) + (ys.length : Int))) := by simp only [maxLen] at hm; omega
      have h48' : ¬ (281474976710656 < Builtin.nextslicecap (xs.length + ys.length) l.cap * i.bytes) := by have := growslice_fits (old := l.cap) (need := xs.length + ys.length) (bytes := i.bytes) (by omega) (by rw [hib]; omega); omega
      have hng : ¬ (xs.length + ys.length ≤ l.cap) := hroom
      rw [List.length_append]
      rcases hts with hts | ⟨q, hts⟩ <;> (simp [Builtin.append_, run_underlying hu, run_underlying hts, sizeOf, typeInfo, hi, his, hzi, hln, hf, hf2, hng, h63', h48', zeroValue, grownCap, newRow, Question.forced]; try (congr 2; apply Array.ext'; simp [List.append_assoc]))
    · simp only [Array.size_append, List.size_toArray, size_zeroCells, hzs, Qjw]
      omega
    · simp only [Array.toList_append, List.append_assoc]
      rw [← List.append_assoc, ← Ygp]
      exact List.take_left' (Qjw _)
end
section
variable {c : Cx} {σ : St} {all : Array Oper} {ty : TypeId} {pos : String} {after : Array Edge} {d : Nat}
theorem R.turnA {θ : List Loc} {a : Act} {w w' : World} {ns : List Nat} {n : Nat} {l' : Loc} {P' : Loc → World → Prop} {FF : List Nat} (h : R c θ σ a w) (hFF : ∀ b ∈ FF, b ∈ (Qkm ns σ.E).flatMap (fun e => (e.2.ck (θ ++ [l']) e.1).F)) (hos : w'.os = w.os) (htape : w'.tape = w.tape) (hout : w'.output = w.output) (hsize : w.heap.size ≤ w'.heap.size)
    (hsame : ∀ b, b < w.heap.size → b ∉ FF → w'.heap[b]? = w.heap[b]?) (hok : ∀ w2 : World, (∀ b ∈ l'.F, w2.heap[b]? = w'.heap[b]?) → (∀ b ∈ l'.F, b < w2.heap.size) ∧ P' l' w2) (hF : ∀ b ∈ l'.F, b ∈ FF ∨ w.heap.size ≤ b) (hn : l'.F.Nodup) (hd : Nat.blt d σ.n = true) :
    R c (θ ++ [l']) ⟨σ.n, σ.m + 1, (d, .sl σ.m n) :: σ.ρ, (σ.m, .any P') :: Qfn ns σ.E⟩ (a.put (some d) (.slice l'.A n l'.cap)) w' := by
  obtain ⟨S, w1, hh⟩ := h.heap
  have hg' : (θ ++ [l'])[σ.m]? = some l' := by rw [← h.len]; exact Qec
  have hfuse := (hh.ext (θ' := [l'])).fuse ns (p := (σ.m, En.any P')) (w' := w') hos htape hout hsize (fun b hbl hbn => hsame b hbl fun hb => hbn (hFF b hb)) ?_ ?_ ?_ trivial
  · exact ⟨by rw [List.length_append, h.len]; rfl, (h.env.ext (θ' := [l'])).put hd (by simp only [V.con, hg']), S, w1, hfuse⟩
  · intro w2 hw2
    have hw2' : ∀ b ∈ l'.F, w2.heap[b]? = w'.heap[b]? := fun b hb => hw2 b (by
      show b ∈ locF _ σ.m
      rw [Qaf hg']
      exact hb)
    exact ⟨l', hg', (hok w2 hw2').1, (hok w2 hw2').2⟩
  · intro b hb
    have hb' : b ∈ l'.F := by
      have : b ∈ locF (θ ++ [l']) σ.m := hb
      rwa [Qaf hg'] at this
    exact ⟨(hF b hb').imp (hFF b) id, (hok w' fun _ _ => rfl).1 b hb'⟩
  · show (locF _ σ.m).Nodup
    rw [Qaf hg']
    exact hn
theorem Qxq : ∀ {E : List (Nat × En)}, Qfn [] E = E
  | [] => rfl
  | (r, x) :: E => by
    show (r, x) :: Qfn [] E = _
    rw [Qxq]
theorem OpS.toBytesM {t u e by' : Nat} {x : Operand} {s : ByteArray} (hx : ev σ.ρ x = some (.v (.string s))) (hs : s.size ≤ maxLen) (ht : c.ti u = .sl e 1 by') (he : c.ti e = .int .u8) (hu : c.ti t = .str) (hd : Nat.blt d σ.n = true) :
    OpS c σ all ⟨some d, .convert t u x, ty, pos, after, none⟩ ⟨σ.n, σ.m + 1, (d, .sl σ.m (Qax s).length) :: σ.ρ, (σ.m, .any (BufM e (Qax s))) :: σ.E⟩ :=
  OpS.of fun θ a w h K Q hK => by
    have hts := (Qbb (c.tsl ht)).1
    have hte := c.tint he
    have htu := c.tstr hu
    have h0 := run_bytes_of_string (P := c.P) w t u e s htu hts hte
    have hlen : (Qax s).length = s.size := by unfold Qax; rw [Array.length_toList]; rfl
    have hrun : (execOp a.eval ⟨some d, .convert t u x, ty, pos, after, none⟩).run c.P w = .ok (.value (.slice (some ⟨w.heap.size, 0, none⟩) (Qax s).length (grownCap w s.size 0 e))) (w.drew.alloc (.cells (bytesRow s (grownCap w s.size 0 e)) e ((bytesRow s (grownCap w s.size 0 e)).size, (bytesRow s (grownCap w s.size 0 e)).size + 1))) := by
      rw [hlen]
      simp only [execOp, h.env.env.eval (h.env.isv hx), h0, Sem.run_bind, Result.andThen_ok, Sem.run_pure]
    have hcap : s.size ≤ grownCap w s.size 0 e := grownCap_ge w s.size 0 e
    unfold Oper.wp
    rw [hrun, Oper.upon_value]
    have hB : BufM e (Qax s) ⟨some ⟨w.heap.size, 0, none⟩, grownCap w s.size 0 e, [w.heap.size]⟩ (w.drew.alloc (.cells (bytesRow s (grownCap w s.size 0 e)) e ((bytesRow s (grownCap w s.size 0 e)).size, (bytesRow s (grownCap w s.size 0 e)).size + 1))) := by
      refine ⟨w.heap.size, _, _, rfl, rfl, heap_alloc_new w.drew _, .inr (Nat.le_refl _), by rw [hlen]; exact hcap, grownCap_le_maxLen w _ _ _ hs, ?_, ?_⟩
      · show grownCap w s.size 0 e ≤ _
        simp [bytesRow]
        have : s.data.size = s.size := rfl
        omega
      · apply List.ext_getElem?
        intro j
        rw [List.getElem?_take]
        by_cases hj : j < (Qax s).length
        · rw [if_pos hj, Array.getElem?_toList, bytesRow_at s _ j (by rw [hlen] at hj; exact hj)]
          unfold u8s
          rw [List.getElem?_map, List.getElem?_eq_getElem hj]
          simp [Qax]
        · rw [if_neg hj, List.getElem?_eq_none (by rw [Qjw]; omega)]
    have := h.turnA (ns := []) (n := (Qax s).length) (FF := []) (P' := BufM e (Qax s)) (d := d) (l' := ⟨some ⟨w.heap.size, 0, none⟩, grownCap w s.size 0 e, [w.heap.size]⟩) (w' := w.drew.alloc (.cells (bytesRow s (grownCap w s.size 0 e)) e ((bytesRow s (grownCap w s.size 0 e)).size, (bytesRow s (grownCap w s.size 0 e)).size + 1))) (fun b hb => by cases hb) rfl rfl rfl (by simp) (fun b hb _ => heap_alloc_old w.drew _ hb) (fun w2 hw2 => ⟨(hB.same hw2).lt, hB.same hw2⟩) (fun b hb => .inr (by rw [List.mem_singleton.1 hb]; exact Nat.le_refl _)) (by simp) hd
    rw [Qxq] at this
    exact hK _ _ _ this
theorem Yo2 {t ts e by' r : Nat} {x y : Operand} {z u : Value} {xs ys : List UInt8} {θ : List Loc} {a : Act} {w : World} {Q : Exit → Act → World → Prop} {K : Act → World → Prop} (h : R c θ σ a w) (hx : ev σ.ρ x = some (.sl r xs.length)) (hr : lkE σ.E r = some (.any (BufM e xs))) (hey : a.eval y = u)
    (ht : c.ti t = .sl e 1 by') (hby : by' = 1) (hz : c.zr e = some z) (hzs : z.cells.size = 1) (hts : c.P.underlying ts = some .string ∨ ∃ q, c.P.underlying ts = some (.slice q)) (hln : ∀ w, (Builtin.lenOf u).run c.P w = .ok ys.length w) (hfirst : ∀ w' : World, w'.heap = w.heap → (Builtin.firstCells 1 ys.length u).run c.P w' = .ok (u8s ys).toArray w') (hd : Nat.blt d σ.n = true) (hb : xs.length + ys.length ≤ 140737488355328)
    (hK : ∀ η a' w', R c (θ ++ η) ⟨σ.n, σ.m + 1, (d, .sl σ.m (xs ++ ys).length) :: σ.ρ, (σ.m, .any (BufM e (xs ++ ys))) :: Qfn [r] σ.E⟩ a' w' → K a' w') :
    Oper.wp c.P ⟨some d, .call { callee := .builtin .append, args := #[x, y], argTypes := #[t, ts] }, ty, pos, after, none⟩ a w K Q := by
  subst hby
  obtain ⟨S, w1, hh⟩ := h.heap
  obtain ⟨l, hlo, hlt, hB⟩ := (hh.sh.ok _ (List.mem_map.2 ⟨_, Qdv hr, rfl⟩)).here
  have hex : a.eval x = .slice l.A xs.length l.cap := by
    have := h.env.con hx
    simp only [V.con, hlo, Option.some.injEq] at this
    exact this.symm
  obtain ⟨l', w', hrun, r1, r2, r3, r4, r5, r6, r7, r8⟩ := Yiu (P := c.P) (ty := ty) (c.tsl ht) (c.zok e z hz) hzs hB hts hln hfirst hb
  unfold Oper.wp
  have : (execOp a.eval ⟨some d, .call { callee := .builtin .append, args := #[x, y], argTypes := #[t, ts] }, ty, pos, after, none⟩).run c.P w = .ok (.value (.slice l'.A (xs ++ ys).length l'.cap)) w' := by
    simp [execOp, resolve, hex, hey, invoke, builtin, hrun]
  rw [this, Oper.upon_value]
  refine hK [l'] _ _ (h.turnA (ns := [r]) (FF := l.F) (fun b hb => ?_) r2 r3 r4 r5 r6 (fun w2 hw2 => ⟨(r1.same hw2).lt, r1.same hw2⟩) r7 r8 hd)
  refine List.mem_flatMap.2 ⟨_, Qj2 (Qdv hr) (Qw7 (List.mem_singleton.2 rfl)), ?_⟩
  show b ∈ locF _ r
  rw [Qaf (Qdl hlo)]
  exact hb
theorem OpS.appM {t ts e by' r len : Nat} {x y : Operand} {z : Value} (xs : List UInt8) (str : ByteArray) (hx : ev σ.ρ x = some (.sl r len)) (hl : len = xs.length) (hr : lkE σ.E r = some (.any (BufM e xs))) (hy : ev σ.ρ y = some (.v (.string str)))
    (ht : c.ti t = .sl e 1 by') (hby : by' = 1) (hts : c.ti ts = .str) (hz : c.zr e = some z) (hzs : z.cells.size = 1) (hd : Nat.blt d σ.n = true) (hb : xs.length + str.size ≤ 140737488355328) :
    OpS c σ all ⟨some d, .call { callee := .builtin .append, args := #[x, y], argTypes := #[t, ts] }, ty, pos, after, none⟩ ⟨σ.n, σ.m + 1, (d, .sl σ.m (xs ++ Qax str).length) :: σ.ρ, (σ.m, .any (BufM e (xs ++ Qax str))) :: Qfn [r] σ.E⟩ :=
  OpS.of fun θ a w h K Q hK => by
    subst hl
    have hlen : (Qax str).length = str.size := by unfold Qax; rw [Array.length_toList]; rfl
    refine Yo2 h hx hr (h.env.env.eval (h.env.isv hy)) ht hby hz hzs (.inl (c.tstr hts)) (fun w => ?_) (fun w' _ => ?_) hd (by rw [hlen]; exact hb) hK
    · rw [hlen]; rfl
    · rw [hlen]
      show Result.ok _ _ = _
      congr 1
      have e : (str.extract 0 str.size).data = str.data := by
        rw [ByteArray.data_extract]
        exact Array.extract_size
      rw [e]
      apply Array.toList_inj.1
      rw [Array.toList_map]
      rfl
theorem OpS.appMs {t e by' r q n len : Nat} {x y : Operand} {z : Value} (xs ys : List UInt8) (hx : ev σ.ρ x = some (.sl r len)) (hl : len = xs.length) (hr : lkE σ.E r = some (.any (BufM e xs))) (hy : ev σ.ρ y = some (.sl q n)) (hs : SlOk σ.E UInt8 instDatUInt8 ys (.sl q n))
    (ht : c.ti t = .sl e 1 by') (hby : by' = 1) (hz : c.zr e = some z) (hzs : z.cells.size = 1) (hd : Nat.blt d σ.n = true) (hb : xs.length + ys.length ≤ 140737488355328) :
    OpS c σ all ⟨some d, .call { callee := .builtin .append, args := #[x, y], argTypes := #[t, t] }, ty, pos, after, none⟩ ⟨σ.n, σ.m + 1, (d, .sl σ.m (xs ++ ys).length) :: σ.ρ, (σ.m, .any (BufM e (xs ++ ys))) :: Qfn [r] σ.E⟩ :=
  OpS.of fun θ a w h K Q hK => by
    subst hl
    obtain ⟨S, w1, hh⟩ := h.heap
    have hc := h.env.con hy
    obtain ⟨A, cap, hA, h1, h2, h3⟩ := hh.slOk hc hs
    refine Yo2 h hx hr hA ht hby hz hzs (.inr ⟨_, (Qbb (c.tsl ht)).1⟩) (fun w => rfl) (fun w' hw' => ?_) hd hb hK
    by_cases hn : ys = []
    · subst hn
      cases A with
      | none => rfl
      | some A => exact run_firstCells_some (P := c.P) w' 1 0 A 0 cap [] rfl (fun j v hj => by simp at hj)
    · obtain ⟨ad, rfl, hb, hcs⟩ := h3 hn
      refine run_firstCells_some (P := c.P) w' 1 ys.length ad ys.length cap (u8s ys) (by rw [Qjw, Nat.mul_one]) fun j v hj => ?_
      have hjl : j < ys.length := by
        have := (List.getElem?_eq_some_iff.1 hj).1
        rwa [Qjw] at this
      obtain ⟨cs, hrd, hcell⟩ := hcs j ys[j] (List.getElem?_eq_getElem hjl)
      obtain ⟨v', r', rfl, hv, rfl⟩ := (inferInstance : Str UInt8).op hrd
      have := hcell 0 v' rfl
      have e1 : j * Dat.sz UInt8 = j := Nat.mul_one j
      rw [e1, Addr.add_zero'] at this
      have hj' : v = .int .u8 ys[j].toNat := by
        unfold u8s at hj
        rw [List.getElem?_map, List.getElem?_eq_getElem hjl] at hj
        exact (Option.some.inj hj).symm
      have hv' : v' = .int .u8 ys[j].toNat := hv
      rw [hj', ← hv']
      unfold World.cell? at this ⊢
      rw [hw']
      exact this
theorem OpS.toStrM {t u e by' r len : Nat} {x : Operand} (xs : List UInt8) (hx : ev σ.ρ x = some (.sl r len)) (hl : len = xs.length) (hr : lkE σ.E r = some (.any (BufM e xs))) (ht : c.ti t = .sl e 1 by') (he : c.ti e = .int .u8) (hu : c.ti u = .str) (hd : Nat.blt d σ.n = true) :
    OpS c σ all ⟨some d, .convert t u x, ty, pos, after, none⟩ (put d (.v (.string (bstr xs))) σ) :=
  OpS.of fun θ a w h K Q hK => by
    subst hl
    obtain ⟨S, w1, hh⟩ := h.heap
    obtain ⟨l, hlo, hlt, g, arr, fz, h1, h2, h3, h4, h5, h6, h7, h8⟩ := (hh.sh.ok _ (List.mem_map.2 ⟨_, Qdv hr, rfl⟩)).here
    have hex : a.eval x = .slice (some ⟨g, 0, none⟩) xs.length l.cap := by
      have := h.env.con hx
      simp only [V.con, hlo, Option.some.injEq] at this
      rw [h1] at this
      exact this.symm
    have hcells := BufM.cell h3 h8
    have := run_convert_bytes_back (P := c.P) w t u e ⟨g, 0, none⟩ l.cap xs (Qbb (c.tsl ht)).1 (c.tint he) (c.tstr hu) (fun j hj => hcells j _ (by unfold u8s; rw [List.getElem?_map, List.getElem?_eq_getElem hj]; rfl))
    have hrun : (execOp a.eval ⟨some d, .convert t u x, ty, pos, after, none⟩).run c.P w = .ok (.value (.string (bstr xs))) w := by
      simp only [execOp, hex, this, Sem.run_bind, Result.andThen_ok, Sem.run_pure]
      rfl
    unfold Oper.wp
    rw [hrun, Oper.upon_value]
    exact hK [] _ _ (h.put hd rfl).app0
end
end
section
open Go.RowKit
section
variable {fn : Func} {Bz : Bs} {S1 : Nat → Prop} {w1 : World} {hk1 : Keep Bz.S0 Bz.w w1} {hs1 : ∀ b, Bz.S0 b → S1 b} {hd1 : ∀ b, S1 b → b < w1.heap.size} {σ : St} {all : Array Oper} {ty : TypeId} {pos : String} {after : Array Edge} {d : Nat}
theorem tbM {t u e by' : Nat} {x : Operand} {s : ByteArray} (hx : ev σ.ρ x = some (.v (.string s)) := by dsimp only [ev, evs, evsG, Qa4, lk, lkE, cond, Nat.beq, evG, stO', V.strip, grd, grdO, nthO, gB, gBV, Nat.pred, wnt, List.toList_toArray, List.cons_append, List.nil_append, List.append_nil]) (ht : ti u = .sl e 1 by' := by rfl) (he : ti e = .int .u8 := by rfl) (hu : ti t = .str := by rfl) (hd : Nat.blt d σ.n = true := by rfl) (hs : s.size ≤ maxLen) :
    OpS (cx fn Bz S1 w1 hk1 hs1 hd1) σ all ⟨some d, .convert t u x, ty, pos, after, none⟩ ⟨σ.n, σ.m + 1, (d, .sl σ.m (Qax s).length) :: σ.ρ, (σ.m, .any (BufM e (Qax s))) :: σ.E⟩ := OpS.toBytesM hx hs ht he hu hd
theorem aM {t ts e by' r len : Nat} {x y : Operand} {z : Value} (xs : List UInt8) (str : ByteArray) (hb : xs.length + str.size ≤ 140737488355328) (hx : ev σ.ρ x = some (.sl r len) := by dsimp only [ev, evs, evsG, Qa4, lk, lkE, cond, Nat.beq, evG, stO', V.strip, grd, grdO, nthO, gB, gBV, Nat.pred, wnt, List.toList_toArray, List.cons_append, List.nil_append, List.append_nil]) (hr : lkE σ.E r = some (.any (BufM e xs)) := by dsimp only [ev, evs, evsG, Qa4, lk, lkE, cond, Nat.beq, evG, stO', V.strip, grd, grdO, nthO, gB, gBV, Nat.pred, wnt, List.toList_toArray, List.cons_append, List.nil_append, List.append_nil]) (hy : ev σ.ρ y = some (.v (.string str)) := by dsimp only [ev, evs, evsG, Qa4, lk, lkE, cond, Nat.beq, evG, stO', V.strip, grd, grdO, nthO, gB, gBV, Nat.pred, wnt, List.toList_toArray, List.cons_append, List.nil_append, List.append_nil]) (hl : len = xs.length := by rfl) (ht : ti t = .sl e 1 by' := by rfl) (hby : by' = 1 := by rfl) (hts : ti ts = .str := by rfl) (hz : zr e = some z := by rfl) (hzs : z.cells.size = 1 := by rfl) (hd : Nat.blt d σ.n = true := by rfl) :
    OpS (cx fn Bz S1 w1 hk1 hs1 hd1) σ all ⟨some d, .call { callee := .builtin .append, args := #[x, y], argTypes := #[t, ts] }, ty, pos, after, none⟩ ⟨σ.n, σ.m + 1, (d, .sl σ.m (xs ++ Qax str).length) :: σ.ρ, (σ.m, .any (BufM e (xs ++ Qax str))) :: Qfn [r] σ.E⟩ := OpS.appM xs str hx hl hr hy ht hby hts hz hzs hd hb
theorem aMs {t e by' r q n len : Nat} {x y : Operand} {z : Value} (xs ys : List UInt8) (hb : xs.length + ys.length ≤ 140737488355328) (hx : ev σ.ρ x = some (.sl r len) := by dsimp only [ev, evs, evsG, Qa4, lk, lkE, cond, Nat.beq, evG, stO', V.strip, grd, grdO, nthO, gB, gBV, Nat.pred, wnt, List.toList_toArray, List.cons_append, List.nil_append, List.append_nil]) (hr : lkE σ.E r = some (.any (BufM e xs)) := by dsimp only [ev, evs, evsG, Qa4, lk, lkE, cond, Nat.beq, evG, stO', V.strip, grd, grdO, nthO, gB, gBV, Nat.pred, wnt, List.toList_toArray, List.cons_append, List.nil_append, List.append_nil]) (hy : ev σ.ρ y = some (.sl q n) := by dsimp only [ev, evs, evsG, Qa4, lk, lkE, cond, Nat.beq, evG, stO', V.strip, grd, grdO, nthO, gB, gBV, Nat.pred, wnt, List.toList_toArray, List.cons_append, List.nil_append, List.append_nil]) (hs : SlOk σ.E UInt8 instDatUInt8 ys (.sl q n) := by dsimp only [SlOk, payE, En.pay, lkE, cond, Nat.beq]; first | exact ⟨rfl, rfl⟩ | exact ⟨by exact om, rfl⟩) (hl : len = xs.length := by rfl) (ht : ti t = .sl e 1 by' := by rfl) (hby : by' = 1 := by rfl) (hz : zr e = some z := by rfl) (hzs : z.cells.size = 1 := by rfl) (hd : Nat.blt d σ.n = true := by rfl) :
    OpS (cx fn Bz S1 w1 hk1 hs1 hd1) σ all ⟨some d, .call { callee := .builtin .append, args := #[x, y], argTypes := #[t, t] }, ty, pos, after, none⟩ ⟨σ.n, σ.m + 1, (d, .sl σ.m (xs ++ ys).length) :: σ.ρ, (σ.m, .any (BufM e (xs ++ ys))) :: Qfn [r] σ.E⟩ := OpS.appMs xs ys hx hl hr hy hs ht hby hz hzs hd hb
theorem tsM {t u e by' r len : Nat} {x : Operand} (xs : List UInt8) (hx : ev σ.ρ x = some (.sl r len) := by dsimp only [ev, evs, evsG, Qa4, lk, lkE, cond, Nat.beq, evG, stO', V.strip, grd, grdO, nthO, gB, gBV, Nat.pred, wnt, List.toList_toArray, List.cons_append, List.nil_append, List.append_nil]) (hr : lkE σ.E r = some (.any (BufM e xs)) := by dsimp only [ev, evs, evsG, Qa4, lk, lkE, cond, Nat.beq, evG, stO', V.strip, grd, grdO, nthO, gB, gBV, Nat.pred, wnt, List.toList_toArray, List.cons_append, List.nil_append, List.append_nil]) (hl : len = xs.length := by rfl) (ht : ti t = .sl e 1 by' := by rfl) (he : ti e = .int .u8 := by rfl) (hu : ti u = .str := by rfl) (hd : Nat.blt d σ.n = true := by rfl) :
    OpS (cx fn Bz S1 w1 hk1 hs1 hd1) σ all ⟨some d, .convert t u x, ty, pos, after, none⟩ (put d (.v (.string (bstr xs))) σ) := OpS.toStrM xs hx hl hr ht he hu hd
end
end
section
open Go.RowKit
theorem Ygq (x : Int) : -9972 ≤ Int.tmod x 9973 ∧ Int.tmod x 9973 ≤ 9972 := by
  have h1 := Int.tmod_lt_of_pos x (show (0 : Int) < 9973 by decide)
  have h2 := Int.lt_tmod_of_pos x (show (0 : Int) < 9973 by decide)
  omega
theorem Qoq (p0 : ByteArray) : ∀ n (v : Int) i, -9972 ≤ v → v ≤ 9972 → -9972 ≤ Qch p0 n v i ∧ Qch p0 n v i ≤ 9972 := by
  intro n
  induction n with
  | zero => intro v i h1 h2; exact ⟨h1, h2⟩
  | succ n ih => intro v i h1 h2; rw [Qch]; exact ih _ _ (Ygq _).1 (Ygq _).2
theorem Qje (p0 : ByteArray) : -9972 ≤ Qfe p0 ∧ Qfe p0 ≤ 9972 := Qoq p0 _ 7 0 (by decide) (by decide)
theorem Qnz (p0 : ByteArray) : ∀ n (v : Int) i, Qdu p0 n v i = Qch p0 n v i := by
  intro n
  induction n with
  | zero => intro v i; rfl
  | succ n ih => intro v i; rw [Qdu, Qch, ih]
theorem Qll (p0 : ByteArray) : Qca p0 = Qfe p0 := Qnz p0 _ _ _
theorem Qhf (p0 : ByteArray) : -9972 ≤ Qca p0 ∧ Qca p0 ≤ 9972 := by
  rw [Qll]
  exact Qje p0
end
section
open Go.RowKit
theorem Yka : FnOk Tryz.prog 238 := ⟨_, Tryz.func238, rfl, by kernel_rfl⟩
theorem Yhi : FnOk Tryz.prog 239 := ⟨_, Tryz.func239, rfl, by kernel_rfl⟩
theorem Yj9 : FnOk Tryz.prog 245 := ⟨_, Tryz.func245, rfl, by kernel_rfl⟩
theorem Ym6 : FnOk Tryz.prog 246 := ⟨_, Tryz.func246, rfl, by kernel_rfl⟩
theorem Yj8 : FnOk Tryz.prog 247 := ⟨_, Tryz.func247, rfl, by kernel_rfl⟩
theorem Yj7 : FnOk Tryz.prog 248 := ⟨_, Tryz.func248, rfl, by kernel_rfl⟩
theorem Ym5 : FnOk Tryz.prog 249 := ⟨_, Tryz.func249, rfl, by kernel_rfl⟩
def Qcd (p0 : Int) (p1 : List Cell) : Nat → (List UInt8) → Nat → ByteArray
 | 0, w2, i => bif decide ((((((bstr w2) ++ ⟨#[32, 35]⟩) ++ (Qbo (Qfe (bstr w2)))) ++ ⟨#[10]⟩).size : Int) > 4000) then ⟨#[]⟩ else ((((bstr w2) ++ ⟨#[32, 35]⟩) ++ (Qbo (Qfe (bstr w2)))) ++ ⟨#[10]⟩)
 | n + 1, w2, i => bif ((!(Qg6 ((nth p1 i).Key))) || (decide ((((nth p1 i).Val).size : Int) > 60))) || (decide ((w2.length : Int) > 4000)) then ⟨#[]⟩ else (Qcd p0 p1 n (w2 ++ Qax (((⟨#[32]⟩ ++ (Qe4 ((nth p1 i).Key))) ++ ⟨#[61]⟩) ++ (Qe4 ((nth p1 i).Val)))) (i + 1))
def Qfm (p0 : Int) (p1 : List Cell) : ByteArray := bif !(Qbz p0 1 100000) then ⟨#[]⟩ else (Qcd p0 p1 (p1.length - 0) (Qax (Qbo p0)) 0)
theorem Qp0 (p0 : Int) (p1 : List Cell) : CTs 220 [.o (.c (.int .i64 p0)), .o (.sl Cell instDatCell p1)] [Re.c (.string (Qfm p0 p1))] := by
 refine en Tryz.func220 Tryz.ntmps220 fun w hG hgd => ?_
 obtain ⟨hg_p1, _⟩ := hgd
 have hl_p1 : p1.length ≤ 9223372036854775807 := hg_p1.1
 have hM := Qfm.eq_1 p0 p1
 refine ad 8 ?_
 refine op (cl (Qfv p0 1 100000) Qxk) ?_
 refine ad 2 ?_
 refine cd (fun h1 => ?_) (fun h1 => ?_)
 ·
  have hM := hM.trans (bt h1)
  refine ad 4 ?_
  exact rz (rs := [.tmp 4]) (congrArg (fun x => [Re.c (.string x)]) hM)
 ·
  have hM := hM.trans (bf h1)
  have th1 := Qfw (by simpa using h1)
  refine ad 8 ?_
  have hs2 := Qgl (p0 := p0) (by first | assumption | (unfold I64; omega))
  refine op (cl (Qh0 p0 (by first | assumption | (unfold I64; omega))) Ycs) ?_
  refine og (cm [1] [1] [0] [] [1] (Yp2 (Qbo p0) (by first | omega | exact om | (simp only [ByteArray.size_append, bts, List.size_toArray, List.length_cons, List.length_nil]; omega))) Yj9) fun _ => ?_
  refine ad 9 ?_
  refine Run.loopM (ι := (List UInt8) × Nat) (fun s => Qcd p0 p1 (p1.length - s.2) s.1 s.2) (fun s => ⟨57, 3, [(5, .pt 0 0), (15, .sl 2 p1.length), (16, .v (.int .i64 (p1.length : Int))), (17, .v (.int .i64 (s.2 : Int)))], [(0, .var [.pt 0 0, .sl 1 s.1.length] 240), (1, .any (BufP s.1)), (2, .ros Cell instDatCell p1)]⟩) (fun s => s.2 ≤ p1.length ∧ s.1.length ≤ 100000) (fun s => p1.length - s.2) ((Qax (Qbo p0)), 0) [1, 2, 0] [0, 1, 2] hM (by exact ⟨by (try dsimp only); omega, by (try dsimp only); (try simp only [Qbf]); omega⟩) su (by decide) ?_
  rintro ⟨w2, i⟩ hv hE
  try dsimp only at hE
  obtain ⟨hi, hv0⟩ := hv
  try dsimp only at hi hv0
  refine ad 5 ?_
  refine cd (fun h3 => ?_) (fun h3 => ?_)
  ·
   have h3l : i < p1.length := by have := of_decide_eq_true h3; omega
   have hM := hE.trans ((congrArg (fun n => Qcd p0 p1 n w2 i) (show p1.length - i = (p1.length - (i + 1)) + 1 by omega)).trans (Qcd.eq_2 _ _ _ _ _))
   refine ad 5 ?_
   have hg5 := Qar (k := i) hg_p1 om
   refine op (ix (xs := p1) i om) ?_
   refine ad 9 ?_
   refine op (cl (Ql3 ((nth p1 i).Key) hg5.1) Yhm) ?_
   refine ad 2 ?_
   refine ag 5 ?_
   refine ad 1 ?_
   refine Run.midO ⟨57, 4, [(5, .pt 0 0), (7, .pt 2 0), (15, .sl 3 p1.length), (16, .v (.int .i64 (p1.length : Int))), (17, .v (.int .i64 (i : Int))), (34, .v (.bool (((!(Qg6 ((nth p1 i).Key))) || (decide ((((nth p1 i).Val).size : Int) > 60))) || (decide ((w2.length : Int) > 4000)))))], [(0, .var [.pt 0 0, .sl 1 w2.length] 240), (1, .any (BufP w2)), (2, .var [.v (.string ((nth p1 i).Key)), .v (.string ((nth p1 i).Val))] 114), (3, .ros Cell instDatCell p1)]⟩ ?_ ?_
   ·refine bc 31 (fun h6 => ?_) (fun h6 => ?_)
    ·
     refine ad 4 ?_
     exact Run.at [0, 1, 4, 2] [2, 3, 0, 4] (by first | exact su | (rw [h6]; exact su)) (by decide)
    ·
     refine ad 1 ?_
     refine og (cm [0, 1] [0, 1] [2, 3] [] [0, 1, 4] (Yp3 (P := BufP) w2) Ym6) fun _ => ?_
     refine ad 4 ?_
     exact Run.at [0, 1, 4, 2] [0, 1, 2, 4] (by first | exact su | (rw [h6]; exact su)) (by decide)
   refine cd (fun h7 => ?_) (fun h7 => ?_)
   ·
    have hM := hM.trans (bt h7)
    refine ad 4 ?_
    exact rz (rs := [.tmp 4]) (congrArg (fun x => [Re.c (.string x)]) hM)
   ·
    have hM := hM.trans (bf h7)
    have hlv : ¬ ((w2.length : Int) > 4000) := of_decide_eq_false (Bool.or_eq_false_iff.1 h7).2
    refine ad 1 ?_
    refine ds 10 [2, 3] fun _ _ _ _ _ hb => ?_
    refine tk [0, 1, 5, 6] ?_
    have hs8 := (show (Qe4 ((nth p1 i).Key)).size ≤ 40000 from Qxh ((nth p1 i).Key))
    refine on 2 [2, 3] (cl (Qvu ((nth p1 i).Key) hg5.1) Yj8) ?_
    refine tx 3 (tca (hs := szt)) ?_
    refine tx 4 (tca (hs := szt)) ?_
    have hs9 := (show (Qe4 ((nth p1 i).Val)).size ≤ 40000 from Qxh ((nth p1 i).Val))
    refine on 7 [2, 3] (cl (Qvu ((nth p1 i).Val) hg5.2) Yj8) ?_
    refine tx 8 (tca (hs := szt)) ?_
    refine ong 9 [2, 3] (cm [0, 1] [0] [0, 1] [] [2, 3] (k_ws w2 (((⟨#[32]⟩ ++ (Qe4 ((nth p1 i).Key))) ++ ⟨#[61]⟩) ++ (Qe4 ((nth p1 i).Val))) (by first | omega | exact om | (simp only [ByteArray.size_append, bts, List.size_toArray, List.length_cons, List.length_nil]; omega))) Yj9) fun _ => ?_
    refine dn hb ?_
    refine ad 3 ?_
    rw [Qc9 (i := i) (by first | omega | exact om)]
    refine ad 2 ?_
    exact Run.again ((w2 ++ Qax (((⟨#[32]⟩ ++ (Qe4 ((nth p1 i).Key))) ++ ⟨#[61]⟩) ++ (Qe4 ((nth p1 i).Val)))), (i + 1)) [0, 4, 3] [0, 1, 3] ⟨by exact ⟨by (try dsimp only); omega, by (try dsimp only); (try simp only [List.length_append, Qbf, ByteArray.size_append, bts, List.size_toArray, List.length_cons, List.length_nil]); omega⟩, hM⟩ rfl (by show _ - _ < _ - _; (try dsimp only); omega) su (by decide)
  ·
   have h3l : ¬ (i < p1.length) := by have := of_decide_eq_false h3; omega
   have hM := hE.trans ((congrArg (fun n => Qcd p0 p1 n w2 i) (show p1.length - i = 0 by omega)).trans (Qcd.eq_1 _ _ _ _))
   have hsb : (bstr w2).size = w2.length := by show w2.toArray.size = _; exact List.size_toArray
   refine ad 3 ?_
   refine og (cm [0, 1] [0, 1] [0, 1] [] [2] (Ymp (P := BufP) w2 (fun _ _ h => h.z)) Yj7) fun _ => ?_
   refine op (ca (hs := szt)) ?_
   refine og (cm [0, 1] [0, 1] [0, 1] [] [2] (Ymp (P := BufZ) w2 (fun _ _ h => h)) Yj7) fun _ => ?_
   have hs10 := Qje (bstr w2)
   refine op (cl (Qzq (bstr w2) szt) Ym5) ?_
   have hs11 := Qgl (p0 := (Qfe (bstr w2))) (by first | assumption | (unfold I64; omega))
   refine op (cl (Qh0 (Qfe (bstr w2)) (by first | assumption | (unfold I64; omega))) Ycs) ?_
   refine op (ca (hs := szt)) ?_
   refine op (ca (hs := szt)) ?_
   refine ad 9 ?_
   refine cd (fun h12 => ?_) (fun h12 => ?_)
   ·
    have hM := hM.trans (bt h12)
    refine ad 4 ?_
    exact rz (rs := [.tmp 4]) (congrArg (fun x => [Re.c (.string x)]) hM)
   ·
    have hM := hM.trans (bf h12)
    refine ad 6 ?_
    exact rz (rs := [.tmp 4]) (congrArg (fun x => [Re.c (.string x)]) hM)
def Qbe (p0 : Int) (p1 : List Cell) : Nat → (List UInt8) → Nat → ByteArray
 | 0, v5, i => bif decide ((((((bstr v5) ++ ⟨#[32, 35]⟩) ++ (Qbn (Qca (bstr v5)))) ++ ⟨#[10]⟩).size : Int) > 4000) then ⟨#[]⟩ else ((((bstr v5) ++ ⟨#[32, 35]⟩) ++ (Qbn (Qca (bstr v5)))) ++ ⟨#[10]⟩)
 | n + 1, v5, i => bif ((!(Qfl ((nth p1 i).Key))) || (decide ((((nth p1 i).Val).size : Int) > 60))) || (decide ((v5.length : Int) > 4000)) then ⟨#[]⟩ else (Qbe p0 p1 n ((((v5 ++ ([(32 : UInt8)] : List UInt8)) ++ Qax ((Qde ((nth p1 i).Key)).1)) ++ ([(61 : UInt8)] : List UInt8)) ++ Qax ((Qde ((nth p1 i).Val)).1)) (i + 1))
def Qbu (p0 : Int) (p1 : List Cell) : ByteArray := bif !(Qb1 p0 1 100000) then ⟨#[]⟩ else (Qbe p0 p1 (p1.length - 0) (Qax (Qbn p0)) 0)
theorem Qpy (p0 : Int) (p1 : List Cell) : CTs 211 [.o (.c (.int .i64 p0)), .o (.sl Cell instDatCell p1)] [Re.c (.string (Qbu p0 p1))] := by
 refine en Tryz.func211 Tryz.ntmps211 fun w hG hgd => ?_
 obtain ⟨hg_p1, _⟩ := hgd
 have hl_p1 : p1.length ≤ 9223372036854775807 := hg_p1.1
 have hM := Qbu.eq_1 p0 p1
 refine ad 8 ?_
 refine op (cl (Qgb p0 1 100000) Qxl) ?_
 refine ad 2 ?_
 refine cd (fun h1 => ?_) (fun h1 => ?_)
 ·
  have hM := hM.trans (bt h1)
  refine ad 4 ?_
  exact rz (rs := [.tmp 4]) (congrArg (fun x => [Re.c (.string x)]) hM)
 ·
  have hM := hM.trans (bf h1)
  have th1 := Qez (by simpa using h1)
  refine ad 4 ?_
  have hs2 := Qef (p0 := p0) (by first | assumption | (unfold I64; omega))
  refine op (cl (Qfi p0 (by first | assumption | (unfold I64; omega))) Qxj) ?_
  refine op (tbM (hs := by first | exact szt | (unfold maxLen; omega))) ?_
  refine ad 8 ?_
  refine Run.loopM (ι := (List UInt8) × Nat) (fun s => Qbe p0 p1 (p1.length - s.2) s.1 s.2) (fun s => ⟨85, 2, [(1, .sl 0 p1.length), (5, .sl 1 s.1.length), (6, .v (.int .i64 (s.2 : Int)))], [(0, .ros Cell instDatCell p1), (1, .any (BufM 5 s.1))]⟩) (fun s => s.2 ≤ p1.length ∧ s.1.length ≤ 100000) (fun s => p1.length - s.2) ((Qax (Qbn p0)), 0) [0, 1] [1, 0] hM (by exact ⟨by (try dsimp only); omega, by (try dsimp only); (try simp only [Qbf]); omega⟩) su (by decide) ?_
  rintro ⟨v5, i⟩ hv hE
  try dsimp only at hE
  obtain ⟨hi, hv0⟩ := hv
  try dsimp only at hi hv0
  refine ad 8 ?_
  refine cd (fun h3 => ?_) (fun h3 => ?_)
  ·
   have h3l : i < p1.length := by have := of_decide_eq_true h3; omega
   have hM := hE.trans ((congrArg (fun n => Qbe p0 p1 n v5 i) (show p1.length - i = (p1.length - (i + 1)) + 1 by omega)).trans (Qbe.eq_2 _ _ _ _ _))
   refine ad 8 ?_
   have hg5 := Qar (k := i) hg_p1 om
   refine op (ix (xs := p1) i om) ?_
   refine ad 2 ?_
   refine op (cl (Ql0 ((nth p1 i).Key) hg5.1) Yhj) ?_
   refine ad 2 ?_
   refine ag 2 ?_
   refine op (iG (xs := p1) i om) ?_
   refine ag 5 ?_
   refine ad 1 ?_
   refine ag 4 ?_
   refine ad 1 ?_
   refine cd (fun h6 => ?_) (fun h6 => ?_)
   ·
    have hM := hM.trans (bt h6)
    refine ad 4 ?_
    exact rz (rs := [.tmp 4]) (congrArg (fun x => [Re.c (.string x)]) hM)
   ·
    have hM := hM.trans (bf h6)
    have hlv : ¬ ((v5.length : Int) > 4000) := of_decide_eq_false (Bool.or_eq_false_iff.1 h6).2
    refine ad 5 ?_
    have hg8 := Qar (k := i) hg_p1 om
    refine op (ix (xs := p1) i om) ?_
    refine ad 2 ?_
    have hs9 := Qwz ((nth p1 i).Key)
    refine op (cl (Q5o ((nth p1 i).Key) hg8.1) Yka) ?_
    refine ad 10 ?_
    have hg11 := Qar (k := i) hg_p1 om
    refine op (ix (xs := p1) i om) ?_
    refine ad 2 ?_
    have hs12 := Qwz ((nth p1 i).Val)
    refine op (cl (Q5o ((nth p1 i).Val) hg11.2) Yka) ?_
    refine ad 9 ?_
    refine li 6 (d := instDatUInt8) ([(32 : UInt8)] : List UInt8) ?_
    refine op (aMs v5 ([(32 : UInt8)] : List UInt8) (hb := by (try simp only [List.length_append, List.length_cons, List.length_nil, Qbf]); first | omega | exact om)) ?_
    refine ad 1 ?_
    refine op (aM (v5 ++ ([(32 : UInt8)] : List UInt8)) ((Qde ((nth p1 i).Key)).1) (hb := by (try simp only [List.length_append, List.length_cons, List.length_nil, Qbf]); first | omega | exact om)) ?_
    refine ad 1 ?_
    refine li 9 (d := instDatUInt8) ([(61 : UInt8)] : List UInt8) ?_
    refine op (aMs ((v5 ++ ([(32 : UInt8)] : List UInt8)) ++ Qax ((Qde ((nth p1 i).Key)).1)) ([(61 : UInt8)] : List UInt8) (hb := by (try simp only [List.length_append, List.length_cons, List.length_nil, Qbf]); first | omega | exact om)) ?_
    refine ad 1 ?_
    refine op (aM (((v5 ++ ([(32 : UInt8)] : List UInt8)) ++ Qax ((Qde ((nth p1 i).Key)).1)) ++ ([(61 : UInt8)] : List UInt8)) ((Qde ((nth p1 i).Val)).1) (hb := by (try simp only [List.length_append, List.length_cons, List.length_nil, Qbf]); first | omega | exact om)) ?_
    refine ad 6 ?_
    rw [Qc9 (i := i) (by first | omega | exact om)]
    refine ad 2 ?_
    exact Run.again (((((v5 ++ ([(32 : UInt8)] : List UInt8)) ++ Qax ((Qde ((nth p1 i).Key)).1)) ++ ([(61 : UInt8)] : List UInt8)) ++ Qax ((Qde ((nth p1 i).Val)).1)), (i + 1)) [0, 11] [7, 0] ⟨by exact ⟨by (try dsimp only); omega, by (try dsimp only); (try simp only [List.length_append, Qbf, ByteArray.size_append, bts, List.size_toArray, List.length_cons, List.length_nil]); omega⟩, hM⟩ rfl (by show _ - _ < _ - _; (try dsimp only); omega) su (by decide)
  ·
   have h3l : ¬ (i < p1.length) := by have := of_decide_eq_false h3; omega
   have hM := hE.trans ((congrArg (fun n => Qbe p0 p1 n v5 i) (show p1.length - i = 0 by omega)).trans (Qbe.eq_1 _ _ _ _))
   have hsb : (bstr v5).size = v5.length := by show v5.toArray.size = _; exact List.size_toArray
   refine ad 2 ?_
   refine Run.mid ⟨85, 0, [(11, .v (.string ((((bstr v5) ++ ⟨#[32, 35]⟩) ++ (Qbn (Qca (bstr v5)))) ++ ⟨#[10]⟩)))], []⟩ ?_ ?_
   ·
    refine dr 10 fun _ _ _ _ _ hb => ?_
    refine tk [0, 3] ?_
    refine o2 1 4 ?_ ?_
    ·
     refine on1 1 [0, 1] (tsM v5) ?_
     refine tx 2 (tca (hs := szt)) ?_
     refine on 4 [0, 1] (tsM v5) ?_
     have hs13 := Qhf (bstr v5)
     refine on 5 [0, 1] (cl (Qj1 (bstr v5) szt) Yhi) ?_
     have hs14 := Qef (p0 := (Qca (bstr v5))) (by first | assumption | (unfold I64; omega))
     refine on 6 [0, 1] (cl (Qfi (Qca (bstr v5)) (by first | assumption | (unfold I64; omega))) Qxj) ?_
     refine tx 7 (tca (hs := szt)) ?_
     refine tx 8 (tca (hs := szt)) ?_
     refine tk [9] ?_
     refine dn hb ?_
     exact Run.at [] [] su (by decide)
    ·
     refine on1 4 [0, 1] (tsM v5) ?_
     refine o2 1 5 ?_ ?_
     ·
      refine on1 1 [0, 1] (tsM v5) ?_
      refine tx 2 (tca (hs := szt)) ?_
      have hs15 := Qhf (bstr v5)
      refine on 5 [0, 1] (cl (Qj1 (bstr v5) szt) Yhi) ?_
      have hs16 := Qef (p0 := (Qca (bstr v5))) (by first | assumption | (unfold I64; omega))
      refine on 6 [0, 1] (cl (Qfi (Qca (bstr v5)) (by first | assumption | (unfold I64; omega))) Qxj) ?_
      refine tx 7 (tca (hs := szt)) ?_
      refine tx 8 (tca (hs := szt)) ?_
      refine tk [9] ?_
      refine dn hb ?_
      exact Run.at [] [] su (by decide)
     ·
      have hs17 := Qhf (bstr v5)
      refine on1 5 [0, 1] (cl (Qj1 (bstr v5) szt) Yhi) ?_
      refine o2 1 6 ?_ ?_
      ·
       refine on1 1 [0, 1] (tsM v5) ?_
       refine tx 2 (tca (hs := szt)) ?_
       have hs18 := Qef (p0 := (Qca (bstr v5))) (by first | assumption | (unfold I64; omega))
       refine on 6 [0, 1] (cl (Qfi (Qca (bstr v5)) (by first | assumption | (unfold I64; omega))) Qxj) ?_
       refine tx 7 (tca (hs := szt)) ?_
       refine tx 8 (tca (hs := szt)) ?_
       refine tk [9] ?_
       refine dn hb ?_
       exact Run.at [] [] su (by decide)
      ·
       have hs19 := Qef (p0 := (Qca (bstr v5))) (by first | assumption | (unfold I64; omega))
       refine on1 6 [0, 1] (cl (Qfi (Qca (bstr v5)) (by first | assumption | (unfold I64; omega))) Qxj) ?_
       refine on 1 [0, 1] (tsM v5) ?_
       refine tx 2 (tca (hs := szt)) ?_
       refine tx 7 (tca (hs := szt)) ?_
       refine tx 8 (tca (hs := szt)) ?_
       refine tk [9] ?_
       refine dn hb ?_
       exact Run.at [] [] su (by decide)
   refine ad 7 ?_
   refine cd (fun h20 => ?_) (fun h20 => ?_)
   ·
    have hM := hM.trans (bt h20)
    refine ad 4 ?_
    exact rz (rs := [.tmp 4]) (congrArg (fun x => [Re.c (.string x)]) hM)
   ·
    have hM := hM.trans (bf h20)
    refine ad 6 ?_
    exact rz (rs := [.tmp 4]) (congrArg (fun x => [Re.c (.string x)]) hM)
end
section
open Go.RowKit
theorem Qli (sep : ByteArray) : ∀ (k : Nat) (s : ByteArray), ∀ x ∈ Lib.splitB sep 0 k s, x.size ≤ s.size
  | 0, s => fun x hx => by
    obtain rfl := List.mem_singleton.1 hx
    exact Nat.le_refl _
  | k + 1, s => fun x hx => by
    rcases Lib.indexB_cases s sep with h | ⟨i, h, _⟩
    · rw [Lib.splitB_miss sep 0 (k + 1) s h] at hx
      obtain rfl := List.mem_singleton.1 hx
      exact Nat.le_refl _
    · rw [Lib.splitB_hit sep 0 k s i h] at hx
      rcases List.mem_cons.1 hx with rfl | hx
      · rw [ByteArray.size_extract]
        omega
      · have := Qli sep k _ x hx
        rw [ByteArray.size_extract] at this
        omega
def Qbm (c : UInt8) (s : ByteArray) : List ByteArray := Lib.splitB ⟨#[c]⟩ 0 (Lib.countB s ⟨#[c]⟩) s
theorem Qiv (c : UInt8) (s : ByteArray) : (Qbm c s).length = Lib.countB s ⟨#[c]⟩ + 1 := Lib.splitB_all ⟨#[c]⟩ (Nat.le_refl _) 0 _ s rfl
theorem Qnw (c : UInt8) (s : ByteArray) : (Qbm c s).length ≤ s.size + 1 := by
  have := Lib.countB_le ⟨#[c]⟩ (Nat.le_refl _) s.size s (Nat.le_refl _)
  rw [Qiv]
  omega
theorem Qm5 (c : UInt8) (s : ByteArray) (k : Nat) : (nth (Qbm c s) k).size ≤ s.size := by
  unfold nth
  rw [List.getD_eq_getElem?_getD]
  rcases Nat.lt_or_ge k (Qbm c s).length with h | h
  · rw [List.getElem?_eq_getElem h]
    exact Qli _ _ s _ (List.getElem_mem h)
  · rw [List.getElem?_eq_none h]
    exact Nat.zero_le _
theorem Yf1 (c : UInt8) (s : ByteArray) (hs : s.size ≤ 1048576) : CTs 242 [.o (.c (.string s)), .o (.c (.string ⟨#[c]⟩)), .o (.c (.int .i64 0)), .o (.c (.int .i64 (-1)))] [.sl ByteArray instDatByteArray (Qbm c s)] := fun w vs hG hA => by
  obtain rfl := Qwi (us := [.string s, .string ⟨#[c]⟩, .int .i64 0, .int .i64 (-1)]) hA
  have hc := Lib.countB_le ⟨#[c]⟩ (Nat.le_refl _) s.size s (Nat.le_refl _)
  have cc := Go.Proofs.Any.strings_genSplit_core Tryz.lays221 (by kernel_rfl) s ⟨#[c]⟩ 0 (-1) (Lib.countB s ⟨#[c]⟩ + 1) w (by omega) (Nat.le_refl _) (Nat.zero_le _)
    (fun x cs hx => by
      refine (Go.Proofs.Any.strings_Index_one { Tryz.lays221 with } x c _).mono fun e w' h => ⟨?_, h.2⟩
      rw [h.1]
      show _ = Ending.returned (Value.int .i64 (Lib.index x.data.toList [c]))
      rw [Lib.index_one])
    (by
      refine (Go.Proofs.Any.strings_Count_one { Tryz.lays221 with } s c w).mono fun e w' h => ⟨?_, h.2⟩
      rw [h.1]
      show _ = Ending.returned (Value.int .i64 ((Lib.count s.data.toList [c] : Nat) : Int))
      rw [Lib.count_one]
      rfl)
    (by decide) (by decide) (by rw [if_pos (by decide)]; omega)
  rw [Nat.add_sub_cancel] at cc
  have hlen := Qiv c s
  have e2 : Lib.cellsOf (Qbm c s) (Lib.countB s ⟨#[c]⟩ + 1) = ((Qbm c s).map Value.string).toArray := by rw [← hlen]; exact Lib.cellsOf_full _
  refine cc.mono fun e w2 hr => ?_
  obtain ⟨rfl, rfl⟩ := hr
  have hl := Qnw c s
  have hk : Below w.heap.size w (w.alloc (.cells ((Qbm c s).map Value.string).toArray 9)) := (Below.refl _ w).alloc (Nat.le_refl _) _
  have hrow : (w.alloc (.cells ((Qbm c s).map Value.string).toArray 9)).ownsRow w.heap.size 9 1 (.slice (some ⟨w.heap.size, 0, none⟩) (Qbm c s).length (Qbm c s).length) (Qbm c s).length ((Qbm c s).map Value.string) := by
    refine ⟨by rw [List.length_map, Nat.mul_one], .inr ⟨w.heap.size, (Qbm c s).length, _, rfl, Nat.le_refl _, Array.getElem?_push_size, Nat.le_refl _, by unfold maxLen; omega, ?_, ?_⟩⟩
    · rw [List.size_toArray, List.length_map, Nat.mul_one]
    · rw [Nat.mul_one, List.take_of_length_le (by simp)]
  obtain ⟨F, h1, h2, h3⟩ := Ygv (α := ByteArray) (mk := Value.string) rfl (fun x hx => ⟨⟨rfl, by have := Qli _ _ s x hx; show x.size ≤ maxLen; unfold maxLen; omega⟩, rfl⟩) hrow rfl
  show ∃ _, _
  rw [show Lib.splitB ⟨#[c]⟩ 0 (Lib.countB s ⟨#[c]⟩) s = Qbm c s from rfl, e2, ← hlen]
  refine ⟨_, rfl, Keep.of_below hk fun _ h => h, [_], F ++ [], rfl, ⟨F, [], rfl, h1, rfl⟩, by rw [List.append_nil]; exact h2, fun b hb => ?_⟩
  rw [List.append_nil] at hb
  have := h3 b hb
  show ¬ b < w.heap.size
  omega
def genS (s sep : ByteArray) (a n : Int) : List ByteArray := Qbm (Qak sep 0) s
theorem Ymr (s sep : ByteArray) (a n : Int) (h1 : ∃ c, sep = ⟨#[c]⟩) (h2 : a = 0) (h3 : n = -1) (hs : s.size ≤ 1048576) : CTs 242 [.o (.c (.string s)), .o (.c (.string sep)), .o (.c (.int .i64 a)), .o (.c (.int .i64 n))] [.sl ByteArray instDatByteArray (genS s sep a n)] := by
  obtain ⟨c, rfl⟩ := h1
  subst h2 h3
  exact Yf1 c s hs
def idx1 (s sep : ByteArray) : Int := Lib.indexByte s.data.toList (Qak sep 0)
theorem Ymq (s sep : ByteArray) (h1 : ∃ c, sep = ⟨#[c]⟩) : CTs 270 [.o (.c (.string s)), .o (.c (.string sep))] [.c (.int .i64 (idx1 s sep))] := fun w vs hG hA => by
  obtain ⟨c, rfl⟩ := h1
  obtain rfl := Qwi (us := [.string s, .string ⟨#[c]⟩]) hA
  refine (Tryz.stringslite_Index_one s c w).mono fun e w2 h => ?_
  obtain ⟨rfl, rfl⟩ := h
  refine ⟨_, rfl, Keep.refl _ _, [_], [], rfl, ⟨[], [], rfl, ⟨rfl, rfl⟩, rfl⟩, List.nodup_nil, fun b hb => by cases hb⟩
theorem Yaf (l : List UInt8) (c : UInt8) : -1 ≤ Lib.indexByte l c ∧ Lib.indexByte l c < (l.length : Int) := by
  induction l with
  | nil => exact ⟨Int.le_refl _, by show (-1 : Int) < 0; decide⟩
  | cons b l ih =>
    rw [Lib.indexByte, List.length_cons]
    by_cases hb : (b == c) = true
    · rw [if_pos hb]; omega
    · rw [if_neg hb]
      split <;> simp_all <;> omega
theorem Yhd (s sep : ByteArray) : -1 ≤ idx1 s sep ∧ idx1 s sep < (s.size : Int) := by
  have h := Yaf s.data.toList (Qak sep 0)
  have e : s.data.toList.length = s.size := Array.length_toList
  rw [e] at h
  exact h
end
section
open Go.RowKit
theorem Ym9 : FnOk Tryz.prog 242 := ⟨_, Tryz.func242, rfl, by kernel_rfl⟩
theorem Ym7 : FnOk Tryz.prog 244 := ⟨_, Tryz.func244, rfl, by kernel_rfl⟩
theorem Ym1 : FnOk Tryz.prog 270 := ⟨_, Tryz.func270, rfl, by kernel_rfl⟩
def Qbj (p0 : ByteArray) (p1 : ByteArray) : ByteArray × ByteArray × Bool := bif decide ((idx1 p0 p1) ≥ 0) then (cutS p0 0 ((idx1 p0 p1).toNat), cutS p0 ((IntKind.i64.wrap ((idx1 p0 p1) + (p1.size : Int))).toNat) p0.size, true) else (p0, ⟨#[]⟩, false)
theorem Qjm (p0 : ByteArray) (p1 : ByteArray) (hn : ∃ c, p1 = ⟨#[c]⟩) (hq : p0.size ≤ 1048576) : CTs 244 [.o (.c (.string p0)), .o (.c (.string p1))] [Re.c (.string ((Qbj p0 p1).1)), Re.c (.string ((Qbj p0 p1).2.1)), Re.c (.bool ((Qbj p0 p1).2.2))] := by
 refine en Tryz.func244 Tryz.ntmps244 fun w hG hgd => ?_
 have hM := Qbj.eq_1 p0 p1
 have hp1 : p1.size = 1 := by obtain ⟨c, rfl⟩ := hn; rfl
 refine ad 11 ?_
 have hs1 := Yhd p0 p1
 refine op (cl (Ymq p0 p1 (by assumption)) Ym1) ?_
 refine ad 7 ?_
 refine cd (fun h2 => ?_) (fun h2 => ?_)
 ·
  have hM := hM.trans (bt h2)
  refine ad 1 ?_
  refine Run.mid ⟨23, 0, [(4, .v (.string (cutS p0 0 ((idx1 p0 p1).toNat)))), (5, .v (.string (cutS p0 ((IntKind.i64.wrap ((idx1 p0 p1) + (p1.size : Int))).toNat) p0.size))), (6, .v (.bool true))], []⟩ ?_ ?_
  ·
   refine dr 12 fun _ _ _ _ _ hb => ?_
   refine tk [0, 1, 3, 4, 5, 6, 7] ?_
   refine o2 2 8 ?_ ?_
   ·
    refine on1 2 [] (cu 0 ((idx1 p0 p1).toNat) (hl := rfl)) ?_
    refine tk [9] ?_
    refine on 8 [] (cu ((IntKind.i64.wrap ((idx1 p0 p1) + (p1.size : Int))).toNat) p0.size (hh := rfl)) ?_
    refine tk [10, 11] ?_
    refine dn hb ?_
    exact Run.at [] [] su (by decide)
   ·
    refine on1 8 [] (cu ((IntKind.i64.wrap ((idx1 p0 p1) + (p1.size : Int))).toNat) p0.size (hh := rfl)) ?_
    refine on 2 [] (cu 0 ((idx1 p0 p1).toNat) (hl := rfl)) ?_
    refine tk [9, 10, 11] ?_
    refine dn hb ?_
    exact Run.at [] [] su (by decide)
  exact rz (rs := [.tmp 4, .tmp 5, .tmp 6]) (congrArg (fun x => [Re.c (.string x.1), Re.c (.string x.2.1), Re.c (.bool x.2.2)]) hM)
 ·
  have hM := hM.trans (bf h2)
  refine ad 8 ?_
  exact rz (rs := [.tmp 4, .tmp 5, .tmp 6]) (congrArg (fun x => [Re.c (.string x.1), Re.c (.string x.2.1), Re.c (.bool x.2.2)]) hM)
def Qby (p0 : ByteArray) (p1 : ByteArray) : ByteArray × ByteArray × Bool := ((Qbj p0 p1).1, (Qbj p0 p1).2.1, (Qbj p0 p1).2.2)
theorem Q6g (p0 : ByteArray) (p1 : ByteArray) (hn : ∃ c, p1 = ⟨#[c]⟩) (hq : p0.size ≤ 1048576) : CTs 219 [.o (.c (.string p0)), .o (.c (.string p1))] [Re.c (.string ((Qby p0 p1).1)), Re.c (.string ((Qby p0 p1).2.1)), Re.c (.bool ((Qby p0 p1).2.2))] := by
 refine en Tryz.func219 Tryz.ntmps219 fun w hG hgd => ?_
 have hM := Qby.eq_1 p0 p1
 have hp1 : p1.size = 1 := by obtain ⟨c, rfl⟩ := hn; rfl
 refine ad 10 ?_
 refine op (cl (Qjm p0 p1 (by first | assumption | exact ⟨_, rfl⟩) (by first | assumption | omega | exact om)) Ym7) ?_
 refine ad 7 ?_
 exact rz (rs := [.tmp 4, .tmp 5, .tmp 6]) (congrArg (fun x => [Re.c (.string x.1), Re.c (.string x.2.1), Re.c (.bool x.2.2)]) hM)
def Qab (p0 : ByteArray) (p1 : ByteArray) : (List ByteArray) := (genS p0 p1 0 (-1))
theorem Qxu (p0 : ByteArray) (p1 : ByteArray) (hn : ∃ c, p1 = ⟨#[c]⟩) (hq : p0.size ≤ 1048576) : CTs 217 [.o (.c (.string p0)), .o (.c (.string p1))] [Re.sl ByteArray instDatByteArray (Qab p0 p1)] := by
 refine en Tryz.func217 Tryz.ntmps217 fun w hG hgd => ?_
 have hM := Qab.eq_1 p0 p1
 have hp1 : p1.size = 1 := by obtain ⟨c, rfl⟩ := hn; rfl
 refine ad 8 ?_
 refine og (clg (Ymr p0 p1 0 (-1) (by assumption) rfl rfl (by assumption)) Ym9) fun hgq => ?_
 obtain ⟨hg1, _⟩ := hgq
 refine ad 2 ?_
 exact rz (rs := [.tmp 4]) (congrArg (fun x => [Re.sl ByteArray instDatByteArray x]) hM)
def Qb0 (p0 : ByteArray) (p1 : UInt8) : Nat → (List ByteArray) → Int → Nat → (List ByteArray)
 | 0, v5, v6, i => v5
 | n + 1, v5, v6, i => Qb0 p0 p1 n (bif ((decide ((i : Int) = (p0.size : Int))) || (decide (((Qak p0 i).toNat : Int) = (p1.toNat : Int)))) then (v5 ++ [cutS p0 v6.toNat i]) else v5) (bif ((decide ((i : Int) = (p0.size : Int))) || (decide (((Qak p0 i).toNat : Int) = (p1.toNat : Int)))) then ((i + 1 : Nat) : Int) else v6) (i + 1)
def Qad (p0 : ByteArray) (p1 : UInt8) : (List ByteArray) := Qb0 p0 p1 ((p0.size + 1) - 0) ([] : List ByteArray) 0 0
theorem Qlx (p0 : ByteArray) (p1 : UInt8) (hq : p0.size ≤ 1048576) : CTs 210 [.o (.c (.string p0)), .o (.c (.int .u8 p1.toNat))] [Re.sl ByteArray instDatByteArray (Qad p0 p1)] := by
 refine en Tryz.func210 Tryz.ntmps210 fun w hG hgd => ?_
 have hM := Qad.eq_1 p0 p1
 refine ad 6 ?_
 refine op (l0) ?_
 refine ad 12 ?_
 refine li 0 (d := instDatByteArray) ([] : List ByteArray) ?_
 refine Run.loopM (ι := (List ByteArray) × Int × Nat) (fun s => Qb0 p0 p1 ((p0.size + 1) - s.2.2) s.1 s.2.1 s.2.2) (fun s => ⟨36, 1, [(0, .v (.string p0)), (1, .v (.int .u8 (p1.toNat : Int))), (5, .sl 0 s.1.length), (6, .v (.int .i64 s.2.1)), (7, .v (.int .i64 (s.2.2 : Int)))], [(0, .own ByteArray instDatByteArray s.1)]⟩) (fun s => s.2.2 ≤ (p0.size + 1) ∧ 0 ≤ s.2.1 ∧ s.2.1 ≤ (s.2.2 : Int) ∧ s.1.length ≤ s.2.2) (fun s => (p0.size + 1) - s.2.2) (([] : List ByteArray), 0, 0) [0] [0] hM (by exact ⟨by (try dsimp only); omega, by (try dsimp only); omega, by (try dsimp only); omega, by simp⟩) su (by decide) ?_
 rintro ⟨v5, v6, i⟩ hv hE
 try dsimp only at hE
 obtain ⟨hi, hv0, hv1, hv2⟩ := hv
 try dsimp only at hi hv0 hv1 hv2
 refine ad 8 ?_
 refine cd (fun h1 => ?_) (fun h1 => ?_)
 ·
  have h1l : i < (p0.size + 1) := by have := of_decide_eq_true h1; omega
  have hM := hE.trans ((congrArg (fun n => Qb0 p0 p1 n v5 v6 i) (show (p0.size + 1) - i = ((p0.size + 1) - (i + 1)) + 1 by omega)).trans (Qb0.eq_2 _ _ _ _ _ _))
  refine ad 10 ?_
  refine ag 2 ?_
  refine op (sG (s := p0) i (hk := fun hB => by (try simp at hB); omega)) ?_
  refine ag 3 ?_
  refine ad 1 ?_
  refine Run.mid ⟨36, 1, [(0, .v (.string p0)), (1, .v (.int .u8 (p1.toNat : Int))), (5, .sl 0 ((bif ((decide ((i : Int) = (p0.size : Int))) || (decide (((Qak p0 i).toNat : Int) = (p1.toNat : Int)))) then (v5 ++ [cutS p0 v6.toNat i]) else v5).length)), (6, .v (.int .i64 (bif ((decide ((i : Int) = (p0.size : Int))) || (decide (((Qak p0 i).toNat : Int) = (p1.toNat : Int)))) then ((i + 1 : Nat) : Int) else v6))), (7, .v (.int .i64 (i : Int)))], [(0, .own ByteArray instDatByteArray (bif ((decide ((i : Int) = (p0.size : Int))) || (decide (((Qak p0 i).toNat : Int) = (p1.toNat : Int)))) then (v5 ++ [cutS p0 v6.toNat i]) else v5))]⟩ ?_ ?_
  ·refine cd (fun h2 => ?_) (fun h2 => ?_)
   ·
    refine ad 6 ?_
    refine op (cu v6.toNat i) ?_
    refine ad 1 ?_
    have hg3 : Dat.good (cutS p0 v6.toNat i) := Qlu (by first | assumption | exact om)
    refine op (ap [cutS p0 v6.toNat i] (hg := gdt) (hb := by simp only [List.length_cons, List.length_nil]; first | omega | exact om)) ?_
    refine ad 5 ?_
    rw [Qc9 (i := i) (by first | omega | exact om)]
    refine ad 2 ?_
    exact Run.at [2] [1] (by first | exact su | (rw [h2]; exact su)) (by decide)
   ·
    refine ad 1 ?_
    exact Run.at [0] [0] (by first | exact su | (rw [h2]; exact su)) (by decide)
  refine ad 4 ?_
  rw [Qc9 (i := i) (by first | omega | exact om)]
  refine ad 2 ?_
  exact Run.again (bif ((decide ((i : Int) = (p0.size : Int))) || (decide (((Qak p0 i).toNat : Int) = (p1.toNat : Int)))) then (v5 ++ [cutS p0 v6.toNat i]) else v5, bif ((decide ((i : Int) = (p0.size : Int))) || (decide (((Qak p0 i).toNat : Int) = (p1.toNat : Int)))) then ((i + 1 : Nat) : Int) else v6, (i + 1)) [0] [0] ⟨by exact ⟨by (try dsimp only); omega, by (try dsimp only); ((try simp only [Bool.cond_eq_ite]); (repeat' split) <;> omega), by (try dsimp only); ((try simp only [Bool.cond_eq_ite]); (repeat' split) <;> omega), by (try dsimp only); ((try simp only [Bool.cond_eq_ite]); (repeat' split); all_goals ((try simp only [List.length_append, List.length_cons, List.length_nil]); omega))⟩, hM⟩ rfl (by show _ - _ < _ - _; (try dsimp only); omega) su (by decide)
 ·
  have h1l : ¬ (i < (p0.size + 1)) := by have := of_decide_eq_false h1; omega
  have hM := hE.trans ((congrArg (fun n => Qb0 p0 p1 n v5 v6 i) (show (p0.size + 1) - i = 0 by omega)).trans (Qb0.eq_1 _ _ _ _ _))
  refine ad 6 ?_
  exact rz (rs := [.tmp 4]) (congrArg (fun x => [Re.sl ByteArray instDatByteArray x]) hM)
end
section
open Go.RowKit
theorem Q58 {c : UInt8} : ∀ l : List UInt8, (∀ y ∈ l, y ≠ c) → Lib.indexByte l c = -1
  | [], _ => rfl
  | b :: l, h => by
    have h1 : (b == c) = false := beq_eq_false_iff_ne.2 (h b List.mem_cons_self)
    rw [Lib.indexByte, h1, Q58 l (fun y hy => h y (List.mem_cons_of_mem _ hy))]
    rfl
theorem Yjd {c : UInt8} : ∀ (k : Nat) (l : List UInt8), (∀ j, j < k → l[j]? ≠ some c) → l[k]? = some c → Lib.indexByte l c = k
  | 0, [], _, h => by cases h
  | 0, b :: l, _, h => by
    have h1 : (b == c) = true := beq_iff_eq.2 (by simpa using h)
    rw [Lib.indexByte, h1]
    rfl
  | k + 1, [], _, h => by cases h
  | k + 1, b :: l, hn, h => by
    have h1 : (b == c) = false := beq_eq_false_iff_ne.2 (fun e => hn 0 (by omega) (by rw [e]; rfl))
    have ih := Yjd k l (fun j hj => hn (j + 1) (by omega)) h
    rw [Lib.indexByte, h1, ih, if_neg (by decide), if_neg (by rw [beq_iff_eq]; omega)]
    omega
theorem Qkn {c : UInt8} {x : ByteArray} (h : Lib.indexB x ⟨#[c]⟩ = -1) : Qbm c x = [x] := Lib.splitB_miss _ _ _ _ h
theorem Qma {c : UInt8} {x : ByteArray} {i : Nat} (h : Lib.indexB x ⟨#[c]⟩ = i) : Qbm c x = x.extract 0 i :: Qbm c (x.extract (i + 1) x.size) := by
  have hc := Lib.countB_hit x ⟨#[c]⟩ i (Nat.le_refl _) h
  unfold Qbm
  rw [hc, Nat.add_comm 1, Lib.splitB_hit _ _ _ _ _ h]
  rfl
theorem Qkz {s : ByteArray} {j : Nat} (h : j < s.size) : s.data.toList[j]? = some (Qak s j) := by
  unfold Qak
  rw [Array.getD_eq_getD_getElem?, Array.getElem?_toList]
  have h' : j < s.data.size := h
  rw [Array.getElem?_eq_getElem h']
  rfl
theorem Qhz (c : UInt8) (x : ByteArray) : Lib.indexB x ⟨#[c]⟩ = Lib.indexByte x.data.toList c := Lib.index_one _ _
theorem Ybq (s : ByteArray) {b i : Nat} (hb : b ≤ i) (hi : i < s.size) : (s.extract b s.size).extract 0 (i - b) = s.extract b i ∧ (s.extract b s.size).extract (i - b + 1) (s.extract b s.size).size = s.extract (i + 1) s.size := by
  constructor
  · apply ByteArray.ext
    apply Array.toList_inj.1
    rw [Lib.extract_from_zero, Lib.extract_to_end, Lib.extract_data]
  · apply ByteArray.ext
    apply Array.toList_inj.1
    rw [Lib.extract_to_end, Lib.extract_to_end, Lib.extract_to_end, List.drop_drop]
    congr 1
    omega
theorem Ymo (c : UInt8) (p0 : ByteArray) : ∀ n i (v : List ByteArray) (b : Nat), i + n = p0.size → b ≤ i → (∀ j, b ≤ j → j < i → Qak p0 j ≠ c) → Qb0 p0 c (n + 1) v (b : Int) i = v ++ Qbm c (p0.extract b p0.size) := by
  intro n
  induction n with
  | zero =>
    intro i v b hi hb hno
    obtain rfl : i = p0.size := by omega
    rw [Qb0, Qb0, decide_eq_true rfl]
    show v ++ [cutS p0 (b : Int).toNat p0.size] = _
    rw [Int.toNat_natCast, Qkn]
    · rfl
    · rw [Qhz, Lib.extract_to_end]
      refine Q58 _ fun y hy => ?_
      obtain ⟨j, e⟩ := List.mem_iff_getElem?.1 hy
      rw [List.getElem?_drop] at e
      have hlt : b + j < p0.data.toList.length := (List.getElem?_eq_some_iff.1 e).1
      have hlt' : b + j < p0.size := by rw [Array.length_toList] at hlt; exact hlt
      rw [Qkz hlt'] at e
      injection e with e
      rw [← e]
      exact hno _ (by omega) hlt'
  | succ n ih =>
    intro i v b hi hb hno
    have hlt : i < p0.size := by omega
    rw [Qb0, decide_eq_false (show ¬ (i : Int) = (p0.size : Int) by omega), Bool.false_or]
    by_cases h10 : Qak p0 i = c
    · rw [h10, decide_eq_true rfl]
      show Qb0 p0 c (n + 1) (v ++ [cutS p0 (b : Int).toNat i]) ((i + 1 : Nat) : Int) (i + 1) = _
      rw [ih (i + 1) _ (i + 1) (by omega) (Nat.le_refl _) (fun j h1 h2 => by omega), Int.toNat_natCast]
      have hx : Lib.indexB (p0.extract b p0.size) ⟨#[c]⟩ = ((i - b : Nat) : Int) := by
        rw [Qhz, Lib.extract_to_end]
        refine Yjd _ _ (fun j hj e => ?_) ?_
        · rw [List.getElem?_drop, Qkz (by omega)] at e
          injection e with e
          exact hno (b + j) (by omega) (by omega) e
        · rw [List.getElem?_drop, show b + (i - b) = i by omega, Qkz hlt, h10]
      rw [Qma hx, (Ybq p0 hb hlt).1, (Ybq p0 hb hlt).2, List.append_assoc]
      rfl
    · rw [decide_eq_false (show ¬ ((Qak p0 i).toNat : Int) = ((c.toNat : Nat) : Int) from fun e => h10 (UInt8.toNat_inj.1 (by omega)))]
      show Qb0 p0 c (n + 1) v (b : Int) (i + 1) = _
      refine ih (i + 1) v b (by omega) (by omega) fun j h1 h2 => ?_
      rcases Nat.lt_or_ge j i with h3 | h3
      · exact hno j h1 h3
      · obtain rfl : j = i := by omega
        exact h10
theorem Qib (c : UInt8) (p0 : ByteArray) : Qad p0 c = Qbm c p0 := by
  unfold Qad
  rw [Nat.sub_zero]
  have := Ymo c p0 p0.size 0 [] 0 (by omega) (Nat.le_refl _) (fun j _ h => absurd h (by omega))
  rw [show p0.extract 0 p0.size = p0 from by apply ByteArray.ext; apply Array.toList_inj.1; rw [Lib.extract_to_end]; rfl, List.nil_append] at this
  exact this
theorem Qm4 (c : UInt8) (p0 : ByteArray) : Qab p0 ⟨#[c]⟩ = Qbm c p0 := rfl
theorem Ycp (c : UInt8) (p0 : ByteArray) (k : Nat) : (nth (Qad p0 c) k).size ≤ p0.size := by
  rw [Qib]
  exact Qm5 c p0 k
theorem Ybj (c : UInt8) (p0 : ByteArray) : 1 ≤ (Qad p0 c).length ∧ (Qad p0 c).length ≤ p0.size + 1 := by
  rw [Qib]
  exact ⟨by rw [Qiv]; omega, Qnw c p0⟩
theorem Q5i (c : UInt8) (p0 : ByteArray) (k : Nat) : (nth (Qab p0 ⟨#[c]⟩) k).size ≤ p0.size := Qm5 c p0 k
theorem Q92 (c : UInt8) (p0 : ByteArray) : 1 ≤ (Qab p0 ⟨#[c]⟩).length ∧ (Qab p0 ⟨#[c]⟩).length ≤ p0.size + 1 := ⟨by rw [Qm4, Qiv]; omega, Qnw c p0⟩
theorem Yhu (p0 p1 : ByteArray) : (Qby p0 p1).1.size ≤ p0.size ∧ (Qby p0 p1).2.1.size ≤ p0.size := by
  unfold Qby Qbj
  cases decide (idx1 p0 p1 ≥ 0) with
  | false => exact ⟨Nat.le_refl _, Nat.zero_le _⟩
  | true => exact ⟨Yan (Nat.le_refl _), Yan (Nat.le_refl _)⟩
theorem Yhv {xs : List ByteArray} {m : Nat} (h : ∀ k, (nth xs k).size ≤ m) (l u i : Nat) : (nth (cutL xs l u) i).size ≤ m := by
  unfold cutL nth
  rw [List.getD_eq_getElem?_getD, List.getElem?_drop, List.getElem?_take]
  by_cases hi : l + i < u
  · rw [if_pos hi]
    have := h (l + i)
    unfold nth at this
    rwa [List.getD_eq_getElem?_getD] at this
  · rw [if_neg hi]
    exact Nat.zero_le _
theorem Yao {xs : List ByteArray} {l u : Nat} (h : l ≤ u) (hu : u ≤ xs.length) : (cutL xs l u).length = u - l := by
  unfold cutL
  rw [List.length_drop, List.length_take]
  omega
end
section
open Go.RowKit
set_option maxHeartbeats 4000000
theorem Yhn : FnOk Tryz.prog 106 := ⟨_, Tryz.func106, rfl, by kernel_rfl⟩
theorem Ykk : FnOk Tryz.prog 173 := ⟨_, Tryz.func173, rfl, by kernel_rfl⟩
theorem Yhk : FnOk Tryz.prog 180 := ⟨_, Tryz.func180, rfl, by kernel_rfl⟩
theorem Ykg : FnOk Tryz.prog 210 := ⟨_, Tryz.func210, rfl, by kernel_rfl⟩
theorem Yni : FnOk Tryz.prog 211 := ⟨_, Tryz.func211, rfl, by kernel_rfl⟩
theorem Ynf : FnOk Tryz.prog 217 := ⟨_, Tryz.func217, rfl, by kernel_rfl⟩
theorem Yke : FnOk Tryz.prog 218 := ⟨_, Tryz.func218, rfl, by kernel_rfl⟩
theorem Yne : FnOk Tryz.prog 219 := ⟨_, Tryz.func219, rfl, by kernel_rfl⟩
theorem Ynd : FnOk Tryz.prog 220 := ⟨_, Tryz.func220, rfl, by kernel_rfl⟩
def Qbs (p0 : ByteArray) : Nat → (List Cell) → Nat → Int × (List Cell) × Bool
 | 0, v8, i => bif (decide (p0 = ⟨#[]⟩)) || (!decide ((Qfm ((Qav (nth (Qab p0 ⟨#[32]⟩) 0)).1) v8) = p0)) then (0, [], false) else ((Qav (nth (Qab p0 ⟨#[32]⟩) 0)).1, v8, true)
 | n + 1, v8, i => Qbs p0 n (v8 ++ [(Cell.mk ((Qck ((Qby (nth (cutL (Qab p0 ⟨#[32]⟩) 1 ((IntKind.i64.wrap ((max ((Qab p0 ⟨#[32]⟩).length : Int) 2) - 1)).toNat)) i) ⟨#[61]⟩).1)).1) ((Qck ((Qby (nth (cutL (Qab p0 ⟨#[32]⟩) 1 ((IntKind.i64.wrap ((max ((Qab p0 ⟨#[32]⟩).length : Int) 2) - 1)).toNat)) i) ⟨#[61]⟩).2.1)).1))]) (i + 1)
def Qa3 (p0 : ByteArray) : Int × (List Cell) × Bool := bif decide ((p0.size : Int) > 4000) then (0, [], false) else (Qbs p0 (((cutL (Qab p0 ⟨#[32]⟩) 1 ((IntKind.i64.wrap ((max ((Qab p0 ⟨#[32]⟩).length : Int) 2) - 1)).toNat)).length) - 0) [] 0)
theorem Qp1 (p0 : ByteArray) : CTs 162 [.o (.c (.string p0))] [Re.c (.int .i64 ((Qa3 p0).1)), Re.sl Cell instDatCell ((Qa3 p0).2.1), Re.c (.bool ((Qa3 p0).2.2))] := by
 refine en Tryz.func162 Tryz.ntmps162 fun w hG hgd => ?_
 have hM := Qa3.eq_1 p0
 refine ad 13 ?_
 refine cd (fun h1 => ?_) (fun h1 => ?_)
 ·
  have hM := hM.trans (bt h1)
  refine ad 6 ?_
  exact rz (rs := [.tmp 2, .tmp 3, .tmp 4]) (congrArg (fun x => [Re.c (.int .i64 x.1), Re.sl Cell instDatCell x.2.1, Re.c (.bool x.2.2)]) hM)
 ·
  have hM := hM.trans (bf h1)
  have hz1 : p0.size ≤ 4000 := by have := of_decide_eq_false h1; omega
  have hz2 : p0.size ≤ 1048576 := by omega
  have hsl := Q92 32 p0
  have hs0 := Q5i 32 p0 0
  have hwi : (IntKind.i64.wrap ((max ((Qab p0 ⟨#[32]⟩).length : Int) 2) - 1)) = (max ((Qab p0 ⟨#[32]⟩).length : Int) 2) - 1 := IntWalk.i64_in _ (by omega)
  have hcl := Yao (xs := (Qab p0 ⟨#[32]⟩)) (l := 1) (u := (IntKind.i64.wrap ((max ((Qab p0 ⟨#[32]⟩).length : Int) 2) - 1)).toNat) (by omega) (by omega)
  refine ad 4 ?_
  refine og (clg (Qxu p0 ⟨#[32]⟩ (by first | assumption | exact ⟨_, rfl⟩) (by first | assumption | omega | exact om)) Ynf) fun hgq => ?_
  obtain ⟨hg2, _⟩ := hgq
  refine ad 5 ?_
  refine fz 0 ?_
  refine op (ix (xs := (Qab p0 ⟨#[32]⟩)) 0 om) ?_
  refine ad 1 ?_
  refine op (cl (Qjt (nth (Qab p0 ⟨#[32]⟩) 0) (by first | assumption | exact om)) Yke) ?_
  refine ad 16 ?_
  refine op (bX) ?_
  refine ad 1 ?_
  refine op (pa 1 ((IntKind.i64.wrap ((max ((Qab p0 ⟨#[32]⟩).length : Int) 2) - 1)).toNat)) ?_
  refine ad 4 ?_
  refine Run.nil 8 (α := Cell) (d := instDatCell) rfl ?_
  refine Run.loopM (ι := (List Cell) × Nat) (fun s => Qbs p0 (((cutL (Qab p0 ⟨#[32]⟩) 1 ((IntKind.i64.wrap ((max ((Qab p0 ⟨#[32]⟩).length : Int) 2) - 1)).toNat)).length) - s.2) s.1 s.2) (fun s => ⟨75, 2, [(0, .v (.string p0)), (6, .v (.int .i64 ((Qav (nth (Qab p0 ⟨#[32]⟩) 0)).1))), (8, .sl 1 s.1.length), (35, .sl 0 ((cutL (Qab p0 ⟨#[32]⟩) 1 ((IntKind.i64.wrap ((max ((Qab p0 ⟨#[32]⟩).length : Int) 2) - 1)).toNat)).length)), (36, .v (.int .i64 ((cutL (Qab p0 ⟨#[32]⟩) 1 ((IntKind.i64.wrap ((max ((Qab p0 ⟨#[32]⟩).length : Int) 2) - 1)).toNat)).length : Int))), (37, .v (.int .i64 (s.2 : Int)))], [(0, .ros ByteArray instDatByteArray (cutL (Qab p0 ⟨#[32]⟩) 1 ((IntKind.i64.wrap ((max ((Qab p0 ⟨#[32]⟩).length : Int) 2) - 1)).toNat))), (1, .own Cell instDatCell s.1)]⟩) (fun s => s.2 ≤ (cutL (Qab p0 ⟨#[32]⟩) 1 ((IntKind.i64.wrap ((max ((Qab p0 ⟨#[32]⟩).length : Int) 2) - 1)).toNat)).length ∧ s.1.length ≤ s.2) (fun s => ((cutL (Qab p0 ⟨#[32]⟩) 1 ((IntKind.i64.wrap ((max ((Qab p0 ⟨#[32]⟩).length : Int) 2) - 1)).toNat)).length) - s.2) ([], 0) [2, 3] [1, 0] hM (by exact ⟨by (try dsimp only); omega, by simp⟩) su (by decide) ?_
  rintro ⟨v8, i⟩ hv hE
  try dsimp only at hE
  obtain ⟨hi, hv0⟩ := hv
  try dsimp only at hi hv0
  refine ad 5 ?_
  refine cd (fun h4 => ?_) (fun h4 => ?_)
  ·
   have h4l : i < (cutL (Qab p0 ⟨#[32]⟩) 1 ((IntKind.i64.wrap ((max ((Qab p0 ⟨#[32]⟩).length : Int) 2) - 1)).toNat)).length := by have := of_decide_eq_true h4; omega
   have hM := hE.trans ((congrArg (fun n => Qbs p0 n v8 i) (show ((cutL (Qab p0 ⟨#[32]⟩) 1 ((IntKind.i64.wrap ((max ((Qab p0 ⟨#[32]⟩).length : Int) 2) - 1)).toNat)).length) - i = (((cutL (Qab p0 ⟨#[32]⟩) 1 ((IntKind.i64.wrap ((max ((Qab p0 ⟨#[32]⟩).length : Int) 2) - 1)).toNat)).length) - (i + 1)) + 1 by omega)).trans (Qbs.eq_2 _ _ _ _))
   have hci : (nth (cutL (Qab p0 ⟨#[32]⟩) 1 ((IntKind.i64.wrap ((max ((Qab p0 ⟨#[32]⟩).length : Int) 2) - 1)).toNat)) i).size ≤ p0.size := Yhv (Q5i 32 p0) _ _ i
   have hcs := Yhu (nth (cutL (Qab p0 ⟨#[32]⟩) 1 ((IntKind.i64.wrap ((max ((Qab p0 ⟨#[32]⟩).length : Int) 2) - 1)).toNat)) i) ⟨#[61]⟩
   have hu1 := Qjc (Qby (nth (cutL (Qab p0 ⟨#[32]⟩) 1 ((IntKind.i64.wrap ((max ((Qab p0 ⟨#[32]⟩).length : Int) 2) - 1)).toNat)) i) ⟨#[61]⟩).1
   have hu2 := Qjc (Qby (nth (cutL (Qab p0 ⟨#[32]⟩) 1 ((IntKind.i64.wrap ((max ((Qab p0 ⟨#[32]⟩).length : Int) 2) - 1)).toNat)) i) ⟨#[61]⟩).2.1
   refine ad 5 ?_
   refine op (ix (xs := (cutL (Qab p0 ⟨#[32]⟩) 1 ((IntKind.i64.wrap ((max ((Qab p0 ⟨#[32]⟩).length : Int) 2) - 1)).toNat))) i om) ?_
   refine ad 6 ?_
   refine op (cl (Q6g (nth (cutL (Qab p0 ⟨#[32]⟩) 1 ((IntKind.i64.wrap ((max ((Qab p0 ⟨#[32]⟩).length : Int) 2) - 1)).toNat)) i) ⟨#[61]⟩ (by first | assumption | exact ⟨_, rfl⟩) (by first | assumption | omega | exact om)) Yne) ?_
   refine ad 11 ?_
   refine op (cl (Ql2 ((Qby (nth (cutL (Qab p0 ⟨#[32]⟩) 1 ((IntKind.i64.wrap ((max ((Qab p0 ⟨#[32]⟩).length : Int) 2) - 1)).toNat)) i) ⟨#[61]⟩).1) (by first | assumption | exact om)) Yhk) ?_
   refine ad 9 ?_
   refine op (cl (Ql2 ((Qby (nth (cutL (Qab p0 ⟨#[32]⟩) 1 ((IntKind.i64.wrap ((max ((Qab p0 ⟨#[32]⟩).length : Int) 2) - 1)).toNat)) i) ⟨#[61]⟩).2.1) (by first | assumption | exact om)) Yhk) ?_
   refine ad 12 ?_
   refine op (ap [(Cell.mk ((Qck ((Qby (nth (cutL (Qab p0 ⟨#[32]⟩) 1 ((IntKind.i64.wrap ((max ((Qab p0 ⟨#[32]⟩).length : Int) 2) - 1)).toNat)) i) ⟨#[61]⟩).1)).1) ((Qck ((Qby (nth (cutL (Qab p0 ⟨#[32]⟩) 1 ((IntKind.i64.wrap ((max ((Qab p0 ⟨#[32]⟩).length : Int) 2) - 1)).toNat)) i) ⟨#[61]⟩).2.1)).1))] (hg := gdt) (hb := by simp only [List.length_cons, List.length_nil]; first | omega | exact om)) ?_
   refine ad 5 ?_
   rw [Qc9 (i := i) (by first | omega | exact om)]
   refine ad 2 ?_
   exact Run.again ((v8 ++ [(Cell.mk ((Qck ((Qby (nth (cutL (Qab p0 ⟨#[32]⟩) 1 ((IntKind.i64.wrap ((max ((Qab p0 ⟨#[32]⟩).length : Int) 2) - 1)).toNat)) i) ⟨#[61]⟩).1)).1) ((Qck ((Qby (nth (cutL (Qab p0 ⟨#[32]⟩) 1 ((IntKind.i64.wrap ((max ((Qab p0 ⟨#[32]⟩).length : Int) 2) - 1)).toNat)) i) ⟨#[61]⟩).2.1)).1))]), (i + 1)) [0, 4] [2, 3] ⟨by exact ⟨by (try dsimp only); omega, by (try dsimp only); (try simp only [List.length_append, List.length_cons, List.length_nil]); omega⟩, hM⟩ rfl (by show _ - _ < _ - _; (try dsimp only); omega) su (by decide)
  ·
   have h4l : ¬ (i < (cutL (Qab p0 ⟨#[32]⟩) 1 ((IntKind.i64.wrap ((max ((Qab p0 ⟨#[32]⟩).length : Int) 2) - 1)).toNat)).length) := by have := of_decide_eq_false h4; omega
   have hM := hE.trans ((congrArg (fun n => Qbs p0 n v8 i) (show ((cutL (Qab p0 ⟨#[32]⟩) 1 ((IntKind.i64.wrap ((max ((Qab p0 ⟨#[32]⟩).length : Int) 2) - 1)).toNat)).length) - i = 0 by omega)).trans (Qbs.eq_1 _ _ _))
   refine ad 7 ?_
   refine ag 2 ?_
   refine op (cG (hct := fun hB => (Qp0 ((Qav (nth (Qab p0 ⟨#[32]⟩) 0)).1) v8)) (hfn := Ynd)) ?_
   refine ag 3 ?_
   refine ad 1 ?_
   refine cd (fun h6 => ?_) (fun h6 => ?_)
   ·
    have hM := hM.trans (bt h6)
    refine ad 6 ?_
    exact rz (rs := [.tmp 2, .tmp 3, .tmp 4]) (congrArg (fun x => [Re.c (.int .i64 x.1), Re.sl Cell instDatCell x.2.1, Re.c (.bool x.2.2)]) hM)
   ·
    have hM := hM.trans (bf h6)
    refine ad 9 ?_
    exact rz (rs := [.tmp 2, .tmp 3, .tmp 4]) (congrArg (fun x => [Re.c (.int .i64 x.1), Re.sl Cell instDatCell x.2.1, Re.c (.bool x.2.2)]) hM)
def Qa9 (p0 : ByteArray) : Nat → (List Cell) → Nat → Int × (List Cell) × Bool
 | 0, v9, i => bif ((!((Qan (nth (Qad p0 (32 : UInt8)) 0)).2)) || (decide ((Qbu ((Qan (nth (Qad p0 (32 : UInt8)) 0)).1) v9) = ⟨#[]⟩))) || (!decide ((Qbu ((Qan (nth (Qad p0 (32 : UInt8)) 0)).1) v9) = p0)) then (0, ([] : List Cell), false) else ((Qan (nth (Qad p0 (32 : UInt8)) 0)).1, v9, true)
 | n + 1, v9, i => bif !decide (((Qad (nth (Qad p0 (32 : UInt8)) i) (61 : UInt8)).length : Int) = 2) then (0, ([] : List Cell), false) else (Qa9 p0 n (v9 ++ [(Cell.mk ((Qcr (nth (Qad (nth (Qad p0 (32 : UInt8)) i) (61 : UInt8)) 0)).1) ((Qcr (nth (Qad (nth (Qad p0 (32 : UInt8)) i) (61 : UInt8)) 1)).1))]) (i + 1))
def Qay (p0 : ByteArray) : Int × (List Cell) × Bool := bif decide ((p0.size : Int) > 4000) then (0, ([] : List Cell), false) else (Qa9 p0 (((IntKind.i64.wrap (((Qad p0 (32 : UInt8)).length : Int) - 1)).toNat) - 1) ([] : List Cell) 1)
theorem Qpz (p0 : ByteArray) : CTs 150 [.o (.c (.string p0))] [Re.c (.int .i64 ((Qay p0).1)), Re.sl Cell instDatCell ((Qay p0).2.1), Re.c (.bool ((Qay p0).2.2))] := by
 refine en Tryz.func150 Tryz.ntmps150 fun w hG hgd => ?_
 have hM := Qay.eq_1 p0
 refine ad 8 ?_
 refine op (l0) ?_
 refine ad 9 ?_
 refine cd (fun h1 => ?_) (fun h1 => ?_)
 ·
  have hM := hM.trans (bt h1)
  refine ad 7 ?_
  refine li 0 (d := instDatCell) ([] : List Cell) ?_
  exact rz (rs := [.tmp 2, .tmp 3, .tmp 4]) (congrArg (fun x => [Re.c (.int .i64 x.1), Re.sl Cell instDatCell x.2.1, Re.c (.bool x.2.2)]) hM)
 ·
  have hM := hM.trans (bf h1)
  have hz1 : p0.size ≤ 4000 := by have := of_decide_eq_false h1; omega
  have hz2 : p0.size ≤ 1048576 := by omega
  have hsl := Ybj 32 p0
  have hs0 := Ycp 32 p0 0
  have hwi : IntKind.i64.wrap (((Qad p0 (32 : UInt8)).length : Int) - 1) = ((Qad p0 (32 : UInt8)).length : Int) - 1 := IntWalk.i64_in _ (by omega)
  refine ad 4 ?_
  refine og (clg (Qlx p0 (32 : UInt8) (by first | assumption | omega | exact om)) Ykg) fun hgq => ?_
  obtain ⟨hg2, _⟩ := hgq
  refine ad 5 ?_
  refine fz 1 ?_
  refine op (ix (xs := (Qad p0 (32 : UInt8))) 0 om) ?_
  refine ad 1 ?_
  refine op (cl (Qjs (nth (Qad p0 (32 : UInt8)) 0) (Yhg hg2 _)) Ykk) ?_
  refine ad 8 ?_
  refine op (l0) ?_
  refine ad 8 ?_
  refine li 3 (d := instDatCell) ([] : List Cell) ?_
  refine Run.loopM (ι := (List Cell) × Nat) (fun s => Qa9 p0 (((IntKind.i64.wrap (((Qad p0 (32 : UInt8)).length : Int) - 1)).toNat) - s.2) s.1 s.2) (fun s => ⟨85, 3, [(0, .v (.string p0)), (5, .sl 0 0), (6, .sl 1 ((Qad p0 (32 : UInt8)).length)), (7, .v (.int .i64 ((Qan (nth (Qad p0 (32 : UInt8)) 0)).1))), (8, .v (.bool ((Qan (nth (Qad p0 (32 : UInt8)) 0)).2))), (9, .sl 2 s.1.length), (10, .v (.int .i64 (s.2 : Int)))], [(0, .lit [] 114 0), (1, .ros ByteArray instDatByteArray (Qad p0 (32 : UInt8))), (2, .own Cell instDatCell s.1)]⟩) (fun s => True ∧ s.1.length ≤ s.2) (fun s => ((IntKind.i64.wrap (((Qad p0 (32 : UInt8)).length : Int) - 1)).toNat) - s.2) (([] : List Cell), 1) [0, 1, 3] [3, 2, 0] hM (by exact ⟨trivial, by simp⟩) su (by decide) ?_
  rintro ⟨v9, i⟩ hv hE
  try dsimp only at hE
  obtain ⟨hi, hv0⟩ := hv
  try dsimp only at hi hv0
  refine ad 9 ?_
  refine cd (fun h4 => ?_) (fun h4 => ?_)
  ·
   have h4l : i < (IntKind.i64.wrap (((Qad p0 (32 : UInt8)).length : Int) - 1)).toNat := by have := of_decide_eq_true h4; omega
   have hM := hE.trans ((congrArg (fun n => Qa9 p0 n v9 i) (show ((IntKind.i64.wrap (((Qad p0 (32 : UInt8)).length : Int) - 1)).toNat) - i = (((IntKind.i64.wrap (((Qad p0 (32 : UInt8)).length : Int) - 1)).toNat) - (i + 1)) + 1 by omega)).trans (Qa9.eq_2 _ _ _ _))
   have hci := Ycp 32 p0 i
   have hsm := Ybj 61 (nth (Qad p0 (32 : UInt8)) i)
   have hu1 := Qi0 (nth (Qad (nth (Qad p0 (32 : UInt8)) i) (61 : UInt8)) 0)
   have hu2 := Qi0 (nth (Qad (nth (Qad p0 (32 : UInt8)) i) (61 : UInt8)) 1)
   refine ad 7 ?_
   refine op (ix (xs := (Qad p0 (32 : UInt8))) i om) ?_
   refine ad 1 ?_
   refine og (clg (Qlx (nth (Qad p0 (32 : UInt8)) i) (61 : UInt8) (by first | assumption | omega | exact om)) Ykg) fun hgq => ?_
   obtain ⟨hg6, _⟩ := hgq
   refine ad 9 ?_
   refine cd (fun h7 => ?_) (fun h7 => ?_)
   ·
    have hM := hM.trans (bt h7)
    refine ad 7 ?_
    refine li 0 (d := instDatCell) ([] : List Cell) ?_
    exact rz (rs := [.tmp 2, .tmp 3, .tmp 4]) (congrArg (fun x => [Re.c (.int .i64 x.1), Re.sl Cell instDatCell x.2.1, Re.c (.bool x.2.2)]) hM)
   ·
    have hM := hM.trans (bf h7)
    have hy2 : (Qad (nth (Qad p0 (32 : UInt8)) i) (61 : UInt8)).length = 2 := by have := of_decide_eq_true (by simpa using h7); omega
    refine ad 4 ?_
    refine fz 4 ?_
    refine op (ix (xs := (Qad (nth (Qad p0 (32 : UInt8)) i) (61 : UInt8))) 0 om) ?_
    refine ad 1 ?_
    refine op (cl (Qlz (nth (Qad (nth (Qad p0 (32 : UInt8)) i) (61 : UInt8)) 0)) Yhn) ?_
    refine ad 9 ?_
    refine op (ix (xs := (Qad (nth (Qad p0 (32 : UInt8)) i) (61 : UInt8))) 1 om) ?_
    refine ad 1 ?_
    refine op (cl (Qlz (nth (Qad (nth (Qad p0 (32 : UInt8)) i) (61 : UInt8)) 1)) Yhn) ?_
    refine ad 12 ?_
    refine op (ap [(Cell.mk ((Qcr (nth (Qad (nth (Qad p0 (32 : UInt8)) i) (61 : UInt8)) 0)).1) ((Qcr (nth (Qad (nth (Qad p0 (32 : UInt8)) i) (61 : UInt8)) 1)).1))] (hg := gdt) (hb := by simp only [List.length_cons, List.length_nil]; first | omega | exact om)) ?_
    refine ad 6 ?_
    rw [Qc9 (i := i) (by first | omega | exact om)]
    refine ad 2 ?_
    exact Run.again ((v9 ++ [(Cell.mk ((Qcr (nth (Qad (nth (Qad p0 (32 : UInt8)) i) (61 : UInt8)) 0)).1) ((Qcr (nth (Qad (nth (Qad p0 (32 : UInt8)) i) (61 : UInt8)) 1)).1))]), (i + 1)) [0, 1, 8] [5, 6, 7] ⟨by exact ⟨trivial, by (try dsimp only); (try simp only [List.length_append, List.length_cons, List.length_nil]); omega⟩, hM⟩ rfl (by show _ - _ < _ - _; (try dsimp only); omega) su (by decide)
  ·
   have h4l : ¬ (i < (IntKind.i64.wrap (((Qad p0 (32 : UInt8)).length : Int) - 1)).toNat) := by have := of_decide_eq_false h4; omega
   have hM := hE.trans ((congrArg (fun n => Qa9 p0 n v9 i) (show ((IntKind.i64.wrap (((Qad p0 (32 : UInt8)).length : Int) - 1)).toNat) - i = 0 by omega)).trans (Qa9.eq_1 _ _ _))
   refine ad 5 ?_
   refine op (cl (Qpy ((Qan (nth (Qad p0 (32 : UInt8)) 0)).1) v9) Yni) ?_
   refine ad 8 ?_
   refine ag 3 ?_
   refine ad 1 ?_
   refine ag 4 ?_
   refine ad 1 ?_
   refine cd (fun h10 => ?_) (fun h10 => ?_)
   ·
    have hM := hM.trans (bt h10)
    refine ad 7 ?_
    refine li 0 (d := instDatCell) ([] : List Cell) ?_
    exact rz (rs := [.tmp 2, .tmp 3, .tmp 4]) (congrArg (fun x => [Re.c (.int .i64 x.1), Re.sl Cell instDatCell x.2.1, Re.c (.bool x.2.2)]) hM)
   ·
    have hM := hM.trans (bf h10)
    refine ad 9 ?_
    exact rz (rs := [.tmp 2, .tmp 3, .tmp 4]) (congrArg (fun x => [Re.c (.int .i64 x.1), Re.sl Cell instDatCell x.2.1, Re.c (.bool x.2.2)]) hM)
end
section
open Go.RowKit
theorem Qnx (p0 : List Cell) (p1 p2 : ByteArray) : ∀ n v b i, (Qbc p0 p1 p2 n v b i).length ≤ v.length + n + (bif b then 0 else 1) := by
  intro n
  induction n with
  | zero =>
    intro v b i
    rw [Qbc]
    cases b <;> simp
  | succ n ih =>
    intro v b i
    rw [Qbc]
    refine Nat.le_trans (ih _ _ _) ?_
    generalize (!(ltB ((nth p0 i).Key) p1 || decide (((nth p0 i).Key) = p1))) = q
    cases (!decide (((nth p0 i).Key) = p1)) <;> cases b <;> cases q <;> simp <;> omega
theorem Qhd (p0 : List Cell) (p1 p2 : ByteArray) : (Qe5 p0 p1 p2).length ≤ p0.length + 1 := by
  unfold Qe5
  cases (!(Qfl p1)) || (decide ((p2.size : Int) > 60)) with
  | true => show ([] ++ p0).length ≤ _; rw [List.nil_append]; omega
  | false =>
    show (Qbc p0 p1 p2 (p0.length - 0) [] _ 0).length ≤ _
    have := Qnx p0 p1 p2 (p0.length - 0) [] (decide (p2 = ⟨#[]⟩)) 0
    revert this
    cases decide (p2 = ⟨#[]⟩) <;> simp <;> omega
theorem Yag (p0 : List Cell) (p1 p2 : ByteArray) (hb : p0.length ≤ 9223372036854775806) : (Qit p0 p1 p2).length ≤ p0.length + 1 := by
  have hdl := Qm0 p0 p1 hb
  unfold Qit
  cases (!(Qg6 p1)) || (decide ((p2.size : Int) > 60)) with
  | true => show p0.length ≤ _; omega
  | false =>
    simp only [cond_false]
    cases decide (p2 = ⟨#[]⟩) with
    | true => show (Qag p0 p1).length ≤ _; omega
    | false =>
      show (insL _ _ _).length ≤ _
      unfold insL
      rw [List.length_append, List.length_take, List.length_cons, List.length_drop]
      omega
theorem Qlf (p0 : ByteArray) : ∀ n v i, (Qbs p0 n v i).2.1.length ≤ v.length + n := by
  intro n
  induction n with
  | zero =>
    intro v i
    rw [Qbs]
    generalize ((decide (p0 = ⟨#[]⟩)) || _) = q
    cases q
    · exact Nat.le_refl _
    · exact Nat.zero_le _
  | succ n ih =>
    intro v i
    rw [Qbs]
    refine Nat.le_trans (ih _ _) ?_
    rw [List.length_append, List.length_singleton]
    omega
theorem Qnl (p0 : ByteArray) : (Qa3 p0).2.1.length ≤ 4001 := by
  unfold Qa3
  cases h1 : decide ((p0.size : Int) > 4000) with
  | true => exact Nat.zero_le _
  | false =>
    have hz1 : p0.size ≤ 4000 := by have := of_decide_eq_false h1; omega
    have hsl := Q92 32 p0
    refine Nat.le_trans (Qlf p0 _ [] 0) ?_
    unfold cutL
    rw [List.length_drop, List.length_take, List.length_nil]
    omega
theorem Qle (p0 : ByteArray) : ∀ n v i, (Qa9 p0 n v i).2.1.length ≤ v.length + n := by
  intro n
  induction n with
  | zero =>
    intro v i
    rw [Qa9]
    generalize (((!_) || _) || _) = q
    cases q
    · exact Nat.le_refl _
    · exact Nat.zero_le _
  | succ n ih =>
    intro v i
    rw [Qa9]
    generalize (!decide (((Qad (nth (Qad p0 (32 : UInt8)) i) (61 : UInt8)).length : Int) = 2)) = q
    cases q
    · refine Nat.le_trans (ih _ _) ?_
      rw [List.length_append, List.length_singleton]
      omega
    · exact Nat.zero_le _
theorem Qm6 (p0 : ByteArray) : (Qay p0).2.1.length ≤ 4001 := by
  unfold Qay
  cases h1 : decide ((p0.size : Int) > 4000) with
  | true => exact Nat.zero_le _
  | false =>
    have hz1 : p0.size ≤ 4000 := by have := of_decide_eq_false h1; omega
    have hsl := Ybj 32 p0
    rw [cond_false, IntWalk.i64_in _ (by omega)]
    refine Nat.le_trans (Qle p0 _ [] 1) ?_
    rw [List.length_nil]
    omega
end
end Go.Proofs.YtppialklomgajaaGreatDoor.Fw
