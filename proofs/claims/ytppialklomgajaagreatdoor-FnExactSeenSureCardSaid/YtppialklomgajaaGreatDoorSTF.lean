/-
  The texts HZ, HP, HT, HQ, VL, VP, GEi of this proof, one behind the other: what each proves stands at its head. No condition.
-/
import Derived.Test.YtppialklomgajaaGreatDoorSTA
import Derived.Test.YtppialklomgajaaGreatDoorSTB
import Derived.Test.YtppialklomgajaaGreatDoorSTC
import Derived.Test.YtppialklomgajaaGreatDoorSTD
import Derived.Test.YtppialklomgajaaGreatDoorSTE
set_option linter.unusedVariables false
set_option linter.unusedSimpArgs false
set_option maxRecDepth 100000
namespace Go.Proofs.YtppialklomgajaaGreatDoor.Fw
section
open Go.RowKit
theorem Ymz : FnOk Tryz.prog 31 := ⟨_, Tryz.func31, rfl, by kernel_rfl⟩
theorem Yq5 : FnOk Tryz.prog 32 := ⟨_, Tryz.func32, rfl, by kernel_rfl⟩
theorem Yq4 : FnOk Tryz.prog 33 := ⟨_, Tryz.func33, rfl, by kernel_rfl⟩
theorem Yq3 : FnOk Tryz.prog 34 := ⟨_, Tryz.func34, rfl, by kernel_rfl⟩
theorem Ylt : FnOk Tryz.prog 35 := ⟨_, Tryz.func35, rfl, by kernel_rfl⟩
theorem Yqo : FnOk Tryz.prog 74 := ⟨_, Tryz.func74, rfl, by kernel_rfl⟩
theorem Yqn : FnOk Tryz.prog 75 := ⟨_, Tryz.func75, rfl, by kernel_rfl⟩
theorem Yqm : FnOk Tryz.prog 76 := ⟨_, Tryz.func76, rfl, by kernel_rfl⟩
theorem Yql : FnOk Tryz.prog 77 := ⟨_, Tryz.func77, rfl, by kernel_rfl⟩
theorem Yqk : FnOk Tryz.prog 78 := ⟨_, Tryz.func78, rfl, by kernel_rfl⟩
theorem Yoe : FnOk Tryz.prog 140 := ⟨_, Tryz.func140, rfl, by kernel_rfl⟩
theorem Ykp : FnOk Tryz.prog 141 := ⟨_, Tryz.func141, rfl, by kernel_rfl⟩
theorem Yod : FnOk Tryz.prog 142 := ⟨_, Tryz.func142, rfl, by kernel_rfl⟩
theorem Yoc : FnOk Tryz.prog 143 := ⟨_, Tryz.func143, rfl, by kernel_rfl⟩
theorem Yob : FnOk Tryz.prog 144 := ⟨_, Tryz.func144, rfl, by kernel_rfl⟩
theorem Yoa : FnOk Tryz.prog 145 := ⟨_, Tryz.func145, rfl, by kernel_rfl⟩
theorem Ykh : FnOk Tryz.prog 206 := ⟨_, Tryz.func206, rfl, by kernel_rfl⟩
theorem Ynk : FnOk Tryz.prog 207 := ⟨_, Tryz.func207, rfl, by kernel_rfl⟩
theorem Ynj : FnOk Tryz.prog 208 := ⟨_, Tryz.func208, rfl, by kernel_rfl⟩
def Qe8 (p0 : Cell) (p1 : Int) : Int := bif decide ((IntKind.i64.wrap (p1 - (p0.Key.size : Int))) < 0) then (-1) else (bif decide ((IntKind.i64.wrap ((IntKind.i64.wrap (p1 - (p0.Key.size : Int))) - (p0.Val.size : Int))) < 0) then (-1) else (IntKind.i64.wrap ((IntKind.i64.wrap (p1 - (p0.Key.size : Int))) - (p0.Val.size : Int))))
theorem Q6t (p0 : Cell) (p1 : Int) : CTs 74 [.o (.st Cell _ inferInstance p0), .o (.c (.int .i64 p1))] [Re.c (.int .i64 (Qe8 p0 p1))] := by
 refine en Tryz.func74 Tryz.ntmps74 fun w hG hgd => ?_
 obtain ⟨hg_p0, _⟩ := hgd
 have hM := Qe8.eq_1 p0 p1
 refine ad 20 ?_
 refine cd (fun h1 => ?_) (fun h1 => ?_)
 ·
  have hM := hM.trans (bt h1)
  refine ad 4 ?_
  exact rz (rs := [.tmp 4]) (congrArg (fun x => [Re.c (.int .i64 x)]) hM)
 ·
  have hM := hM.trans (bf h1)
  refine ad 16 ?_
  refine cd (fun h2 => ?_) (fun h2 => ?_)
  ·
   have hM := hM.trans (bt h2)
   refine ad 4 ?_
   exact rz (rs := [.tmp 4]) (congrArg (fun x => [Re.c (.int .i64 x)]) hM)
  ·
   have hM := hM.trans (bf h2)
   refine ad 6 ?_
   exact rz (rs := [.tmp 4]) (congrArg (fun x => [Re.c (.int .i64 x)]) hM)
def Qd2 (p0 : List Cell) (p1 : Int) : Nat → Int → Nat → Int
 | 0, v1, i => v1
 | n + 1, v1, i => bif decide ((Qe8 (nth p0 i) v1) < 0) then (-1) else (Qd2 p0 p1 n (Qe8 (nth p0 i) v1) (i + 1))
def Qa5 (p0 : List Cell) (p1 : Int) : Int := bif decide ((IntKind.i64.wrap (p1 - (p0.length : Int))) < 0) then (-1) else (Qd2 p0 p1 (p0.length - 0) (IntKind.i64.wrap (p1 - (p0.length : Int))) 0)
theorem Qmw (p0 : List Cell) (p1 : Int) : CTs 31 [.o (.sl Cell instDatCell p0), .o (.c (.int .i64 p1))] [Re.c (.int .i64 (Qa5 p0 p1))] := by
 refine en Tryz.func31 Tryz.ntmps31 fun w hG hgd => ?_
 obtain ⟨hg_p0, _⟩ := hgd
 have hl_p0 : p0.length ≤ 9223372036854775807 := hg_p0.1
 have hM := Qa5.eq_1 p0 p1
 refine ad 18 ?_
 refine cd (fun h1 => ?_) (fun h1 => ?_)
 ·
  have hM := hM.trans (bt h1)
  refine ad 4 ?_
  exact rz (rs := [.tmp 4]) (congrArg (fun x => [Re.c (.int .i64 x)]) hM)
 ·
  have hM := hM.trans (bf h1)
  refine ad 7 ?_
  refine Run.loopM (ι := Int × Nat) (fun s => Qd2 p0 p1 (p0.length - s.2) s.1 s.2) (fun s => ⟨27, 1, [(0, .sl 0 p0.length), (1, .v (.int .i64 s.1)), (5, .v (.int .i64 (s.2 : Int)))], [(0, .ros Cell instDatCell p0)]⟩) (fun s => s.2 ≤ p0.length) (fun s => p0.length - s.2) (IntKind.i64.wrap (p1 - (p0.length : Int)), 0) [0] [0] hM (by first | exact ⟨by omega, by simp⟩ | omega | simp | (dsimp only; omega)) su (by decide) ?_
  rintro ⟨v1, i⟩ hv hE
  try dsimp only at hE
  have hi := hv
  try dsimp only at hi
  refine ad 8 ?_
  refine cd (fun h2 => ?_) (fun h2 => ?_)
  ·
   have h2l : i < p0.length := by have := of_decide_eq_true h2; omega
   have hM := hE.trans ((congrArg (fun n => Qd2 p0 p1 n v1 i) (show p0.length - i = (p0.length - (i + 1)) + 1 by omega)).trans (Qd2.eq_2 _ _ _ _ _))
   refine ad 7 ?_
   have hg4 := Qar (k := i) hg_p0 om
   refine op (ix (xs := p0) i om) ?_
   refine ad 2 ?_
   have hg5 : Dat.good (nth p0 i : Cell) := hg4
   refine op (cl (Q6t (nth p0 i) v1) Yqo) ?_
   refine ad 7 ?_
   refine cd (fun h6 => ?_) (fun h6 => ?_)
   ·
    have hM := hM.trans (bt h6)
    refine ad 4 ?_
    exact rz (rs := [.tmp 4]) (congrArg (fun x => [Re.c (.int .i64 x)]) hM)
   ·
    have hM := hM.trans (bf h6)
    refine ad 5 ?_
    rw [Qc9 (i := i) (by first | omega | exact om)]
    refine ad 2 ?_
    exact Run.again ((Qe8 (nth p0 i) v1), (i + 1)) [0] [1] ⟨by first | omega | exact trivial | (dsimp only; omega) | (refine ⟨by omega, ?_⟩; simp_all; try omega), hM⟩ rfl (by show _ - _ < _ - _; (try dsimp only); omega) su (by decide)
  ·
   have h2l : ¬ (i < p0.length) := by have := of_decide_eq_false h2; omega
   have hM := hE.trans ((congrArg (fun n => Qd2 p0 p1 n v1 i) (show p0.length - i = 0 by omega)).trans (Qd2.eq_1 _ _ _ _))
   refine ad 6 ?_
   exact rz (rs := [.tmp 4]) (congrArg (fun x => [Re.c (.int .i64 x)]) hM)
def Qd4 (p0 : Call) (p1 : Int) : Int := bif decide ((IntKind.i64.wrap (p1 - (p0.Name.size : Int))) < 0) then (-1) else (bif decide ((IntKind.i64.wrap ((IntKind.i64.wrap (p1 - (p0.Name.size : Int))) - (p0.To.size : Int))) < 0) then (-1) else (bif decide ((IntKind.i64.wrap ((IntKind.i64.wrap ((IntKind.i64.wrap (p1 - (p0.Name.size : Int))) - (p0.To.size : Int))) - (p0.Text.size : Int))) < 0) then (-1) else (IntKind.i64.wrap ((IntKind.i64.wrap ((IntKind.i64.wrap (p1 - (p0.Name.size : Int))) - (p0.To.size : Int))) - (p0.Text.size : Int)))))
theorem Qo2 (p0 : Call) (p1 : Int) : CTs 206 [.o (.st Call _ inferInstance p0), .o (.c (.int .i64 p1))] [Re.c (.int .i64 (Qd4 p0 p1))] := by
 refine en Tryz.func206 Tryz.ntmps206 fun w hG hgd => ?_
 obtain ⟨hg_p0, _⟩ := hgd
 have hM := Qd4.eq_1 p0 p1
 refine ad 20 ?_
 refine cd (fun h1 => ?_) (fun h1 => ?_)
 ·
  have hM := hM.trans (bt h1)
  refine ad 4 ?_
  exact rz (rs := [.tmp 4]) (congrArg (fun x => [Re.c (.int .i64 x)]) hM)
 ·
  have hM := hM.trans (bf h1)
  refine ad 16 ?_
  refine cd (fun h2 => ?_) (fun h2 => ?_)
  ·
   have hM := hM.trans (bt h2)
   refine ad 4 ?_
   exact rz (rs := [.tmp 4]) (congrArg (fun x => [Re.c (.int .i64 x)]) hM)
  ·
   have hM := hM.trans (bf h2)
   refine ad 16 ?_
   refine cd (fun h3 => ?_) (fun h3 => ?_)
   ·
    have hM := hM.trans (bt h3)
    refine ad 4 ?_
    exact rz (rs := [.tmp 4]) (congrArg (fun x => [Re.c (.int .i64 x)]) hM)
   ·
    have hM := hM.trans (bf h3)
    refine ad 6 ?_
    exact rz (rs := [.tmp 4]) (congrArg (fun x => [Re.c (.int .i64 x)]) hM)
def Qd3 (p0 : List Call) (p1 : Int) : Nat → Int → Nat → Int
 | 0, v1, i => v1
 | n + 1, v1, i => bif decide ((Qd4 (nth p0 i) v1) < 0) then (-1) else (Qd3 p0 p1 n (Qd4 (nth p0 i) v1) (i + 1))
def Qbp (p0 : List Call) (p1 : Int) : Int := bif decide ((IntKind.i64.wrap (p1 - (p0.length : Int))) < 0) then (-1) else (Qd3 p0 p1 (p0.length - 0) (IntKind.i64.wrap (p1 - (p0.length : Int))) 0)
theorem Qzi (p0 : List Call) (p1 : Int) : CTs 140 [.o (.sl Call instDatCall p0), .o (.c (.int .i64 p1))] [Re.c (.int .i64 (Qbp p0 p1))] := by
 refine en Tryz.func140 Tryz.ntmps140 fun w hG hgd => ?_
 obtain ⟨hg_p0, _⟩ := hgd
 have hl_p0 : p0.length ≤ 9223372036854775807 := hg_p0.1
 have hM := Qbp.eq_1 p0 p1
 refine ad 18 ?_
 refine cd (fun h1 => ?_) (fun h1 => ?_)
 ·
  have hM := hM.trans (bt h1)
  refine ad 4 ?_
  exact rz (rs := [.tmp 4]) (congrArg (fun x => [Re.c (.int .i64 x)]) hM)
 ·
  have hM := hM.trans (bf h1)
  refine ad 7 ?_
  refine Run.loopM (ι := Int × Nat) (fun s => Qd3 p0 p1 (p0.length - s.2) s.1 s.2) (fun s => ⟨27, 1, [(0, .sl 0 p0.length), (1, .v (.int .i64 s.1)), (5, .v (.int .i64 (s.2 : Int)))], [(0, .ros Call instDatCall p0)]⟩) (fun s => s.2 ≤ p0.length) (fun s => p0.length - s.2) (IntKind.i64.wrap (p1 - (p0.length : Int)), 0) [0] [0] hM (by first | exact ⟨by omega, by simp⟩ | omega | simp | (dsimp only; omega)) su (by decide) ?_
  rintro ⟨v1, i⟩ hv hE
  try dsimp only at hE
  have hi := hv
  try dsimp only at hi
  refine ad 8 ?_
  refine cd (fun h2 => ?_) (fun h2 => ?_)
  ·
   have h2l : i < p0.length := by have := of_decide_eq_true h2; omega
   have hM := hE.trans ((congrArg (fun n => Qd3 p0 p1 n v1 i) (show p0.length - i = (p0.length - (i + 1)) + 1 by omega)).trans (Qd3.eq_2 _ _ _ _ _))
   refine ad 7 ?_
   have hg4 := Qar (k := i) hg_p0 om
   refine op (ix (xs := p0) i om) ?_
   refine ad 2 ?_
   have hg5 : Dat.good (nth p0 i : Call) := hg4
   refine op (cl (Qo2 (nth p0 i) v1) Ykh) ?_
   refine ad 7 ?_
   refine cd (fun h6 => ?_) (fun h6 => ?_)
   ·
    have hM := hM.trans (bt h6)
    refine ad 4 ?_
    exact rz (rs := [.tmp 4]) (congrArg (fun x => [Re.c (.int .i64 x)]) hM)
   ·
    have hM := hM.trans (bf h6)
    refine ad 5 ?_
    rw [Qc9 (i := i) (by first | omega | exact om)]
    refine ad 2 ?_
    exact Run.again ((Qd4 (nth p0 i) v1), (i + 1)) [0] [1] ⟨by first | omega | exact trivial | (dsimp only; omega) | (refine ⟨by omega, ?_⟩; simp_all; try omega), hM⟩ rfl (by show _ - _ < _ - _; (try dsimp only); omega) su (by decide)
  ·
   have h2l : ¬ (i < p0.length) := by have := of_decide_eq_false h2; omega
   have hM := hE.trans ((congrArg (fun n => Qd3 p0 p1 n v1 i) (show p0.length - i = 0 by omega)).trans (Qd3.eq_1 _ _ _ _))
   refine ad 6 ?_
   exact rz (rs := [.tmp 4]) (congrArg (fun x => [Re.c (.int .i64 x)]) hM)
def Qd5 (p0 : Answer) (p1 : Int) : Int := bif decide ((IntKind.i64.wrap (p1 - (p0.Text.size : Int))) < 0) then (-1) else (IntKind.i64.wrap (p1 - (p0.Text.size : Int)))
theorem Qx3 (p0 : Answer) (p1 : Int) : CTs 207 [.o (.st Answer _ inferInstance p0), .o (.c (.int .i64 p1))] [Re.c (.int .i64 (Qd5 p0 p1))] := by
 refine en Tryz.func207 Tryz.ntmps207 fun w hG hgd => ?_
 obtain ⟨hg_p0, _⟩ := hgd
 have hM := Qd5.eq_1 p0 p1
 refine ad 20 ?_
 refine cd (fun h1 => ?_) (fun h1 => ?_)
 ·
  have hM := hM.trans (bt h1)
  refine ad 4 ?_
  exact rz (rs := [.tmp 4]) (congrArg (fun x => [Re.c (.int .i64 x)]) hM)
 ·
  have hM := hM.trans (bf h1)
  refine ad 6 ?_
  exact rz (rs := [.tmp 4]) (congrArg (fun x => [Re.c (.int .i64 x)]) hM)
def Qc5 (p0 : List Answer) (p1 : Int) : Nat → Int → Nat → Int
 | 0, v1, i => v1
 | n + 1, v1, i => bif decide ((Qd5 (nth p0 i) v1) < 0) then (-1) else (Qc5 p0 p1 n (Qd5 (nth p0 i) v1) (i + 1))
def Qbd (p0 : List Answer) (p1 : Int) : Int := bif decide ((IntKind.i64.wrap (p1 - (p0.length : Int))) < 0) then (-1) else (Qc5 p0 p1 (p0.length - 0) (IntKind.i64.wrap (p1 - (p0.length : Int))) 0)
theorem Qlb (p0 : List Answer) (p1 : Int) : CTs 141 [.o (.sl Answer instDatAnswer p0), .o (.c (.int .i64 p1))] [Re.c (.int .i64 (Qbd p0 p1))] := by
 refine en Tryz.func141 Tryz.ntmps141 fun w hG hgd => ?_
 obtain ⟨hg_p0, _⟩ := hgd
 have hl_p0 : p0.length ≤ 9223372036854775807 := hg_p0.1
 have hM := Qbd.eq_1 p0 p1
 refine ad 18 ?_
 refine cd (fun h1 => ?_) (fun h1 => ?_)
 ·
  have hM := hM.trans (bt h1)
  refine ad 4 ?_
  exact rz (rs := [.tmp 4]) (congrArg (fun x => [Re.c (.int .i64 x)]) hM)
 ·
  have hM := hM.trans (bf h1)
  refine ad 7 ?_
  refine Run.loopM (ι := Int × Nat) (fun s => Qc5 p0 p1 (p0.length - s.2) s.1 s.2) (fun s => ⟨27, 1, [(0, .sl 0 p0.length), (1, .v (.int .i64 s.1)), (5, .v (.int .i64 (s.2 : Int)))], [(0, .ros Answer instDatAnswer p0)]⟩) (fun s => s.2 ≤ p0.length) (fun s => p0.length - s.2) (IntKind.i64.wrap (p1 - (p0.length : Int)), 0) [0] [0] hM (by first | exact ⟨by omega, by simp⟩ | omega | simp | (dsimp only; omega)) su (by decide) ?_
  rintro ⟨v1, i⟩ hv hE
  try dsimp only at hE
  have hi := hv
  try dsimp only at hi
  refine ad 8 ?_
  refine cd (fun h2 => ?_) (fun h2 => ?_)
  ·
   have h2l : i < p0.length := by have := of_decide_eq_true h2; omega
   have hM := hE.trans ((congrArg (fun n => Qc5 p0 p1 n v1 i) (show p0.length - i = (p0.length - (i + 1)) + 1 by omega)).trans (Qc5.eq_2 _ _ _ _ _))
   refine ad 7 ?_
   have hg4 := Qar (k := i) hg_p0 om
   refine op (ix (xs := p0) i om) ?_
   refine ad 2 ?_
   have hg5 : Dat.good (nth p0 i : Answer) := hg4
   refine op (cl (Qx3 (nth p0 i) v1) Ynk) ?_
   refine ad 7 ?_
   refine cd (fun h6 => ?_) (fun h6 => ?_)
   ·
    have hM := hM.trans (bt h6)
    refine ad 4 ?_
    exact rz (rs := [.tmp 4]) (congrArg (fun x => [Re.c (.int .i64 x)]) hM)
   ·
    have hM := hM.trans (bf h6)
    refine ad 5 ?_
    rw [Qc9 (i := i) (by first | omega | exact om)]
    refine ad 2 ?_
    exact Run.again ((Qd5 (nth p0 i) v1), (i + 1)) [0] [1] ⟨by first | omega | exact trivial | (dsimp only; omega) | (refine ⟨by omega, ?_⟩; simp_all; try omega), hM⟩ rfl (by show _ - _ < _ - _; (try dsimp only); omega) su (by decide)
  ·
   have h2l : ¬ (i < p0.length) := by have := of_decide_eq_false h2; omega
   have hM := hE.trans ((congrArg (fun n => Qc5 p0 p1 n v1 i) (show p0.length - i = 0 by omega)).trans (Qc5.eq_1 _ _ _ _))
   refine ad 6 ?_
   exact rz (rs := [.tmp 4]) (congrArg (fun x => [Re.c (.int .i64 x)]) hM)
def Qc3 (p0 : List ByteArray) (p1 : Int) : Nat → Int → Nat → Int
 | 0, v1, i => v1
 | n + 1, v1, i => bif decide ((IntKind.i64.wrap (v1 - ((nth p0 i).size : Int))) < 0) then (-1) else (Qc3 p0 p1 n (IntKind.i64.wrap (v1 - ((nth p0 i).size : Int))) (i + 1))
def Qbg (p0 : List ByteArray) (p1 : Int) : Int := bif decide ((IntKind.i64.wrap (p1 - (p0.length : Int))) < 0) then (-1) else (Qc3 p0 p1 (p0.length - 0) (IntKind.i64.wrap (p1 - (p0.length : Int))) 0)
theorem Qim (p0 : List ByteArray) (p1 : Int) : CTs 35 [.o (.sl ByteArray instDatByteArray p0), .o (.c (.int .i64 p1))] [Re.c (.int .i64 (Qbg p0 p1))] := by
 refine en Tryz.func35 Tryz.ntmps35 fun w hG hgd => ?_
 obtain ⟨hg_p0, _⟩ := hgd
 have hl_p0 : p0.length ≤ 9223372036854775807 := hg_p0.1
 have hM := Qbg.eq_1 p0 p1
 refine ad 18 ?_
 refine cd (fun h1 => ?_) (fun h1 => ?_)
 ·
  have hM := hM.trans (bt h1)
  refine ad 4 ?_
  exact rz (rs := [.tmp 4]) (congrArg (fun x => [Re.c (.int .i64 x)]) hM)
 ·
  have hM := hM.trans (bf h1)
  refine ad 7 ?_
  refine Run.loopM (ι := Int × Nat) (fun s => Qc3 p0 p1 (p0.length - s.2) s.1 s.2) (fun s => ⟨28, 1, [(0, .sl 0 p0.length), (1, .v (.int .i64 s.1)), (5, .v (.int .i64 (s.2 : Int)))], [(0, .ros ByteArray instDatByteArray p0)]⟩) (fun s => s.2 ≤ p0.length) (fun s => p0.length - s.2) (IntKind.i64.wrap (p1 - (p0.length : Int)), 0) [0] [0] hM (by first | exact ⟨by omega, by simp⟩ | omega | simp | (dsimp only; omega)) su (by decide) ?_
  rintro ⟨v1, i⟩ hv hE
  try dsimp only at hE
  have hi := hv
  try dsimp only at hi
  refine ad 8 ?_
  refine cd (fun h2 => ?_) (fun h2 => ?_)
  ·
   have h2l : i < p0.length := by have := of_decide_eq_true h2; omega
   have hM := hE.trans ((congrArg (fun n => Qc3 p0 p1 n v1 i) (show p0.length - i = (p0.length - (i + 1)) + 1 by omega)).trans (Qc3.eq_2 _ _ _ _ _))
   refine ad 8 ?_
   have hg4 := Qar (k := i) hg_p0 om
   refine op (ix (xs := p0) i om) ?_
   refine ad 10 ?_
   refine cd (fun h5 => ?_) (fun h5 => ?_)
   ·
    have hM := hM.trans (bt h5)
    refine ad 4 ?_
    exact rz (rs := [.tmp 4]) (congrArg (fun x => [Re.c (.int .i64 x)]) hM)
   ·
    have hM := hM.trans (bf h5)
    refine ad 5 ?_
    rw [Qc9 (i := i) (by first | omega | exact om)]
    refine ad 2 ?_
    exact Run.again (IntKind.i64.wrap (v1 - ((nth p0 i).size : Int)), (i + 1)) [0] [1] ⟨by first | omega | exact trivial | (dsimp only; omega) | (refine ⟨by omega, ?_⟩; simp_all; try omega), hM⟩ rfl (by show _ - _ < _ - _; (try dsimp only); omega) su (by decide)
  ·
   have h2l : ¬ (i < p0.length) := by have := of_decide_eq_false h2; omega
   have hM := hE.trans ((congrArg (fun n => Qc3 p0 p1 n v1 i) (show p0.length - i = 0 by omega)).trans (Qc3.eq_1 _ _ _ _))
   refine ad 6 ?_
   exact rz (rs := [.tmp 4]) (congrArg (fun x => [Re.c (.int .i64 x)]) hM)
def Qdm (p0 : Touch) (p1 : Int) : Int := bif decide ((Qbg p0.Reads p1) < 0) then (-1) else (bif decide ((Qbg p0.Writes (Qbg p0.Reads p1)) < 0) then (-1) else (Qbg p0.Writes (Qbg p0.Reads p1)))
theorem Qze (p0 : Touch) (p1 : Int) : CTs 142 [.o (.st Touch _ inferInstance p0), .o (.c (.int .i64 p1))] [Re.c (.int .i64 (Qdm p0 p1))] := by
 refine en Tryz.func142 Tryz.ntmps142 fun w hG hgd => ?_
 obtain ⟨hg_p0, _⟩ := hgd
 have hM := Qdm.eq_1 p0 p1
 refine ad 10 ?_
 refine op (cl (Qim p0.Reads p1) Ylt) ?_
 refine ad 8 ?_
 refine cd (fun h1 => ?_) (fun h1 => ?_)
 ·
  have hM := hM.trans (bt h1)
  refine ad 4 ?_
  exact rz (rs := [.tmp 4]) (congrArg (fun x => [Re.c (.int .i64 x)]) hM)
 ·
  have hM := hM.trans (bf h1)
  refine ad 6 ?_
  refine op (cl (Qim p0.Writes (Qbg p0.Reads p1)) Ylt) ?_
  refine ad 8 ?_
  refine cd (fun h2 => ?_) (fun h2 => ?_)
  ·
   have hM := hM.trans (bt h2)
   refine ad 4 ?_
   exact rz (rs := [.tmp 4]) (congrArg (fun x => [Re.c (.int .i64 x)]) hM)
  ·
   have hM := hM.trans (bf h2)
   refine ad 6 ?_
   exact rz (rs := [.tmp 4]) (congrArg (fun x => [Re.c (.int .i64 x)]) hM)
def Qfu (p0 : List Int) (p1 : Int) : Int := bif decide ((IntKind.i64.wrap (p1 - (p0.length : Int))) < 0) then (-1) else (IntKind.i64.wrap (p1 - (p0.length : Int)))
theorem Q6r (p0 : List Int) (p1 : Int) : CTs 143 [.o (.sl Int instDatInt p0), .o (.c (.int .i64 p1))] [Re.c (.int .i64 (Qfu p0 p1))] := by
 refine en Tryz.func143 Tryz.ntmps143 fun w hG hgd => ?_
 obtain ⟨hg_p0, _⟩ := hgd
 have hl_p0 : p0.length ≤ 9223372036854775807 := hg_p0.1
 have hM := Qfu.eq_1 p0 p1
 refine ad 18 ?_
 refine cd (fun h1 => ?_) (fun h1 => ?_)
 ·
  have hM := hM.trans (bt h1)
  refine ad 4 ?_
  exact rz (rs := [.tmp 4]) (congrArg (fun x => [Re.c (.int .i64 x)]) hM)
 ·
  have hM := hM.trans (bf h1)
  refine ad 6 ?_
  exact rz (rs := [.tmp 4]) (congrArg (fun x => [Re.c (.int .i64 x)]) hM)
def Qga (p0 : Tx) (p1 : Int) : Int := bif decide ((Qbp p0.Calls p1) < 0) then (-1) else (bif decide ((Qbd p0.Answers (Qbp p0.Calls p1)) < 0) then (-1) else (bif decide ((Qdm p0.Touch (Qbd p0.Answers (Qbp p0.Calls p1))) < 0) then (-1) else (bif decide ((Qfu p0.Marks (Qdm p0.Touch (Qbd p0.Answers (Qbp p0.Calls p1)))) < 0) then (-1) else (Qfu p0.Marks (Qdm p0.Touch (Qbd p0.Answers (Qbp p0.Calls p1)))))))
theorem Ybx (p0 : Tx) (p1 : Int) : CTs 75 [.o (.st Tx _ inferInstance p0), .o (.c (.int .i64 p1))] [Re.c (.int .i64 (Qga p0 p1))] := by
 refine en Tryz.func75 Tryz.ntmps75 fun w hG hgd => ?_
 obtain ⟨hg_p0, _⟩ := hgd
 have hM := Qga.eq_1 p0 p1
 refine ad 10 ?_
 refine op (cl (Qzi p0.Calls p1) Yoe) ?_
 refine ad 8 ?_
 refine cd (fun h1 => ?_) (fun h1 => ?_)
 ·
  have hM := hM.trans (bt h1)
  refine ad 4 ?_
  exact rz (rs := [.tmp 4]) (congrArg (fun x => [Re.c (.int .i64 x)]) hM)
 ·
  have hM := hM.trans (bf h1)
  refine ad 6 ?_
  refine op (cl (Qlb p0.Answers (Qbp p0.Calls p1)) Ykp) ?_
  refine ad 8 ?_
  refine cd (fun h2 => ?_) (fun h2 => ?_)
  ·
   have hM := hM.trans (bt h2)
   refine ad 4 ?_
   exact rz (rs := [.tmp 4]) (congrArg (fun x => [Re.c (.int .i64 x)]) hM)
  ·
   have hM := hM.trans (bf h2)
   refine ad 6 ?_
   have hg3 : Dat.good (p0.Touch : Touch) := hg_p0.2.2.2.2.2.2.1
   refine op (cl (Qze p0.Touch (Qbd p0.Answers (Qbp p0.Calls p1))) Yod) ?_
   refine ad 8 ?_
   refine cd (fun h4 => ?_) (fun h4 => ?_)
   ·
    have hM := hM.trans (bt h4)
    refine ad 4 ?_
    exact rz (rs := [.tmp 4]) (congrArg (fun x => [Re.c (.int .i64 x)]) hM)
   ·
    have hM := hM.trans (bf h4)
    refine ad 6 ?_
    refine op (cl (Q6r p0.Marks (Qdm p0.Touch (Qbd p0.Answers (Qbp p0.Calls p1)))) Yoc) ?_
    refine ad 8 ?_
    refine cd (fun h5 => ?_) (fun h5 => ?_)
    ·
     have hM := hM.trans (bt h5)
     refine ad 4 ?_
     exact rz (rs := [.tmp 4]) (congrArg (fun x => [Re.c (.int .i64 x)]) hM)
    ·
     have hM := hM.trans (bf h5)
     refine ad 6 ?_
     exact rz (rs := [.tmp 4]) (congrArg (fun x => [Re.c (.int .i64 x)]) hM)
def Qew (p0 : List Tx) (p1 : Int) : Nat → Int → Nat → Int
 | 0, v1, i => v1
 | n + 1, v1, i => bif decide ((Qga (nth p0 i) v1) < 0) then (-1) else (Qew p0 p1 n (Qga (nth p0 i) v1) (i + 1))
def Qcj (p0 : List Tx) (p1 : Int) : Int := bif decide ((IntKind.i64.wrap (p1 - (p0.length : Int))) < 0) then (-1) else (Qew p0 p1 (p0.length - 0) (IntKind.i64.wrap (p1 - (p0.length : Int))) 0)
theorem Yat (p0 : List Tx) (p1 : Int) : CTs 32 [.o (.sl Tx instDatTx p0), .o (.c (.int .i64 p1))] [Re.c (.int .i64 (Qcj p0 p1))] := by
 refine en Tryz.func32 Tryz.ntmps32 fun w hG hgd => ?_
 obtain ⟨hg_p0, _⟩ := hgd
 have hl_p0 : p0.length ≤ 9223372036854775807 := hg_p0.1
 have hM := Qcj.eq_1 p0 p1
 refine ad 18 ?_
 refine cd (fun h1 => ?_) (fun h1 => ?_)
 ·
  have hM := hM.trans (bt h1)
  refine ad 4 ?_
  exact rz (rs := [.tmp 4]) (congrArg (fun x => [Re.c (.int .i64 x)]) hM)
 ·
  have hM := hM.trans (bf h1)
  refine ad 7 ?_
  refine Run.loopM (ι := Int × Nat) (fun s => Qew p0 p1 (p0.length - s.2) s.1 s.2) (fun s => ⟨27, 1, [(0, .sl 0 p0.length), (1, .v (.int .i64 s.1)), (5, .v (.int .i64 (s.2 : Int)))], [(0, .ros Tx instDatTx p0)]⟩) (fun s => s.2 ≤ p0.length) (fun s => p0.length - s.2) (IntKind.i64.wrap (p1 - (p0.length : Int)), 0) [0] [0] hM (by first | exact ⟨by omega, by simp⟩ | omega | simp | (dsimp only; omega)) su (by decide) ?_
  rintro ⟨v1, i⟩ hv hE
  try dsimp only at hE
  have hi := hv
  try dsimp only at hi
  refine ad 8 ?_
  refine cd (fun h2 => ?_) (fun h2 => ?_)
  ·
   have h2l : i < p0.length := by have := of_decide_eq_true h2; omega
   have hM := hE.trans ((congrArg (fun n => Qew p0 p1 n v1 i) (show p0.length - i = (p0.length - (i + 1)) + 1 by omega)).trans (Qew.eq_2 _ _ _ _ _))
   refine ad 7 ?_
   have hg4 := Qar (k := i) hg_p0 om
   refine op (ix (xs := p0) i om) ?_
   refine ad 2 ?_
   have hg5 : Dat.good (nth p0 i : Tx) := hg4
   refine op (cl (Ybx (nth p0 i) v1) Yqn) ?_
   refine ad 7 ?_
   refine cd (fun h6 => ?_) (fun h6 => ?_)
   ·
    have hM := hM.trans (bt h6)
    refine ad 4 ?_
    exact rz (rs := [.tmp 4]) (congrArg (fun x => [Re.c (.int .i64 x)]) hM)
   ·
    have hM := hM.trans (bf h6)
    refine ad 5 ?_
    rw [Qc9 (i := i) (by first | omega | exact om)]
    refine ad 2 ?_
    exact Run.again ((Qga (nth p0 i) v1), (i + 1)) [0] [6] ⟨by first | omega | exact trivial | (dsimp only; omega) | (refine ⟨by omega, ?_⟩; simp_all; try omega), hM⟩ rfl (by show _ - _ < _ - _; (try dsimp only); omega) su (by decide)
  ·
   have h2l : ¬ (i < p0.length) := by have := of_decide_eq_false h2; omega
   have hM := hE.trans ((congrArg (fun n => Qew p0 p1 n v1 i) (show p0.length - i = 0 by omega)).trans (Qew.eq_1 _ _ _ _))
   refine ad 6 ?_
   exact rz (rs := [.tmp 4]) (congrArg (fun x => [Re.c (.int .i64 x)]) hM)
def Qe7 (p0 : Slot) (p1 : Int) : Int := bif decide ((Qa5 p0.Cells p1) < 0) then (-1) else (Qa5 p0.Cells p1)
theorem Q6q (p0 : Slot) (p1 : Int) : CTs 144 [.o (.st Slot _ inferInstance p0), .o (.c (.int .i64 p1))] [Re.c (.int .i64 (Qe7 p0 p1))] := by
 refine en Tryz.func144 Tryz.ntmps144 fun w hG hgd => ?_
 obtain ⟨hg_p0, _⟩ := hgd
 have hM := Qe7.eq_1 p0 p1
 refine ad 10 ?_
 refine op (cl (Qmw p0.Cells p1) Ymz) ?_
 refine ad 8 ?_
 refine cd (fun h1 => ?_) (fun h1 => ?_)
 ·
  have hM := hM.trans (bt h1)
  refine ad 4 ?_
  exact rz (rs := [.tmp 4]) (congrArg (fun x => [Re.c (.int .i64 x)]) hM)
 ·
  have hM := hM.trans (bf h1)
  refine ad 6 ?_
  exact rz (rs := [.tmp 4]) (congrArg (fun x => [Re.c (.int .i64 x)]) hM)
def Qd1 (p0 : List Slot) (p1 : Int) : Nat → Int → Nat → Int
 | 0, v1, i => v1
 | n + 1, v1, i => bif decide ((Qe7 (nth p0 i) v1) < 0) then (-1) else (Qd1 p0 p1 n (Qe7 (nth p0 i) v1) (i + 1))
def Qdo (p0 : List Slot) (p1 : Int) : Int := bif decide ((IntKind.i64.wrap (p1 - (p0.length : Int))) < 0) then (-1) else (Qd1 p0 p1 (p0.length - 0) (IntKind.i64.wrap (p1 - (p0.length : Int))) 0)
theorem Qzg (p0 : List Slot) (p1 : Int) : CTs 76 [.o (.sl Slot instDatSlot p0), .o (.c (.int .i64 p1))] [Re.c (.int .i64 (Qdo p0 p1))] := by
 refine en Tryz.func76 Tryz.ntmps76 fun w hG hgd => ?_
 obtain ⟨hg_p0, _⟩ := hgd
 have hl_p0 : p0.length ≤ 9223372036854775807 := hg_p0.1
 have hM := Qdo.eq_1 p0 p1
 refine ad 18 ?_
 refine cd (fun h1 => ?_) (fun h1 => ?_)
 ·
  have hM := hM.trans (bt h1)
  refine ad 4 ?_
  exact rz (rs := [.tmp 4]) (congrArg (fun x => [Re.c (.int .i64 x)]) hM)
 ·
  have hM := hM.trans (bf h1)
  refine ad 7 ?_
  refine Run.loopM (ι := Int × Nat) (fun s => Qd1 p0 p1 (p0.length - s.2) s.1 s.2) (fun s => ⟨27, 1, [(0, .sl 0 p0.length), (1, .v (.int .i64 s.1)), (5, .v (.int .i64 (s.2 : Int)))], [(0, .ros Slot instDatSlot p0)]⟩) (fun s => s.2 ≤ p0.length) (fun s => p0.length - s.2) (IntKind.i64.wrap (p1 - (p0.length : Int)), 0) [0] [0] hM (by first | exact ⟨by omega, by simp⟩ | omega | simp | (dsimp only; omega)) su (by decide) ?_
  rintro ⟨v1, i⟩ hv hE
  try dsimp only at hE
  have hi := hv
  try dsimp only at hi
  refine ad 8 ?_
  refine cd (fun h2 => ?_) (fun h2 => ?_)
  ·
   have h2l : i < p0.length := by have := of_decide_eq_true h2; omega
   have hM := hE.trans ((congrArg (fun n => Qd1 p0 p1 n v1 i) (show p0.length - i = (p0.length - (i + 1)) + 1 by omega)).trans (Qd1.eq_2 _ _ _ _ _))
   refine ad 7 ?_
   have hg4 := Qar (k := i) hg_p0 om
   refine op (ix (xs := p0) i om) ?_
   refine ad 2 ?_
   have hg5 : Dat.good (nth p0 i : Slot) := hg4
   refine op (cl (Q6q (nth p0 i) v1) Yob) ?_
   refine ad 7 ?_
   refine cd (fun h6 => ?_) (fun h6 => ?_)
   ·
    have hM := hM.trans (bt h6)
    refine ad 4 ?_
    exact rz (rs := [.tmp 4]) (congrArg (fun x => [Re.c (.int .i64 x)]) hM)
   ·
    have hM := hM.trans (bf h6)
    refine ad 5 ?_
    rw [Qc9 (i := i) (by first | omega | exact om)]
    refine ad 2 ?_
    exact Run.again ((Qe7 (nth p0 i) v1), (i + 1)) [0] [2] ⟨by first | omega | exact trivial | (dsimp only; omega) | (refine ⟨by omega, ?_⟩; simp_all; try omega), hM⟩ rfl (by show _ - _ < _ - _; (try dsimp only); omega) su (by decide)
  ·
   have h2l : ¬ (i < p0.length) := by have := of_decide_eq_false h2; omega
   have hM := hE.trans ((congrArg (fun n => Qd1 p0 p1 n v1 i) (show p0.length - i = 0 by omega)).trans (Qd1.eq_1 _ _ _ _))
   refine ad 6 ?_
   exact rz (rs := [.tmp 4]) (congrArg (fun x => [Re.c (.int .i64 x)]) hM)
def Qem (p0 : Journal) (p1 : Int) : Int := bif decide ((IntKind.i64.wrap (p1 - (p0.Text.size : Int))) < 0) then (-1) else (IntKind.i64.wrap (p1 - (p0.Text.size : Int)))
theorem Qwd (p0 : Journal) (p1 : Int) : CTs 77 [.o (.st Journal _ inferInstance p0), .o (.c (.int .i64 p1))] [Re.c (.int .i64 (Qem p0 p1))] := by
 refine en Tryz.func77 Tryz.ntmps77 fun w hG hgd => ?_
 obtain ⟨hg_p0, _⟩ := hgd
 have hM := Qem.eq_1 p0 p1
 refine ad 20 ?_
 refine cd (fun h1 => ?_) (fun h1 => ?_)
 ·
  have hM := hM.trans (bt h1)
  refine ad 4 ?_
  exact rz (rs := [.tmp 4]) (congrArg (fun x => [Re.c (.int .i64 x)]) hM)
 ·
  have hM := hM.trans (bf h1)
  refine ad 6 ?_
  exact rz (rs := [.tmp 4]) (congrArg (fun x => [Re.c (.int .i64 x)]) hM)
def Qcu (p0 : Disk) (p1 : Int) : Int := bif decide ((Qdo p0.Slots p1) < 0) then (-1) else (bif decide ((Qem p0.Journal (Qdo p0.Slots p1)) < 0) then (-1) else (Qem p0.Journal (Qdo p0.Slots p1)))
theorem Q6s (p0 : Disk) (p1 : Int) : CTs 33 [.o (.st Disk _ inferInstance p0), .o (.c (.int .i64 p1))] [Re.c (.int .i64 (Qcu p0 p1))] := by
 refine en Tryz.func33 Tryz.ntmps33 fun w hG hgd => ?_
 obtain ⟨hg_p0, _⟩ := hgd
 have hM := Qcu.eq_1 p0 p1
 refine ad 10 ?_
 refine op (cl (Qzg p0.Slots p1) Yqm) ?_
 refine ad 8 ?_
 refine cd (fun h1 => ?_) (fun h1 => ?_)
 ·
  have hM := hM.trans (bt h1)
  refine ad 4 ?_
  exact rz (rs := [.tmp 4]) (congrArg (fun x => [Re.c (.int .i64 x)]) hM)
 ·
  have hM := hM.trans (bf h1)
  refine ad 6 ?_
  have hg2 : Dat.good (p0.Journal : Journal) := hg_p0.2
  refine op (cl (Qwd p0.Journal (Qdo p0.Slots p1)) Yql) ?_
  refine ad 8 ?_
  refine cd (fun h3 => ?_) (fun h3 => ?_)
  ·
   have hM := hM.trans (bt h3)
   refine ad 4 ?_
   exact rz (rs := [.tmp 4]) (congrArg (fun x => [Re.c (.int .i64 x)]) hM)
  ·
   have hM := hM.trans (bf h3)
   refine ad 6 ?_
   exact rz (rs := [.tmp 4]) (congrArg (fun x => [Re.c (.int .i64 x)]) hM)
def Qe6 (p0 : Step) (p1 : Int) : Int := bif decide ((Qd4 p0.Call p1) < 0) then (-1) else (Qd4 p0.Call p1)
theorem Q6p (p0 : Step) (p1 : Int) : CTs 208 [.o (.st Step _ inferInstance p0), .o (.c (.int .i64 p1))] [Re.c (.int .i64 (Qe6 p0 p1))] := by
 refine en Tryz.func208 Tryz.ntmps208 fun w hG hgd => ?_
 obtain ⟨hg_p0, _⟩ := hgd
 have hM := Qe6.eq_1 p0 p1
 refine ad 10 ?_
 have hg1 : Dat.good (p0.Call : Call) := hg_p0.2
 refine op (cl (Qo2 p0.Call p1) Ykh) ?_
 refine ad 8 ?_
 refine cd (fun h2 => ?_) (fun h2 => ?_)
 ·
  have hM := hM.trans (bt h2)
  refine ad 4 ?_
  exact rz (rs := [.tmp 4]) (congrArg (fun x => [Re.c (.int .i64 x)]) hM)
 ·
  have hM := hM.trans (bf h2)
  refine ad 6 ?_
  exact rz (rs := [.tmp 4]) (congrArg (fun x => [Re.c (.int .i64 x)]) hM)
def Qd0 (p0 : List Step) (p1 : Int) : Nat → Int → Nat → Int
 | 0, v1, i => v1
 | n + 1, v1, i => bif decide ((Qe6 (nth p0 i) v1) < 0) then (-1) else (Qd0 p0 p1 n (Qe6 (nth p0 i) v1) (i + 1))
def Qdn (p0 : List Step) (p1 : Int) : Int := bif decide ((IntKind.i64.wrap (p1 - (p0.length : Int))) < 0) then (-1) else (Qd0 p0 p1 (p0.length - 0) (IntKind.i64.wrap (p1 - (p0.length : Int))) 0)
theorem Qzf (p0 : List Step) (p1 : Int) : CTs 145 [.o (.sl Step instDatStep p0), .o (.c (.int .i64 p1))] [Re.c (.int .i64 (Qdn p0 p1))] := by
 refine en Tryz.func145 Tryz.ntmps145 fun w hG hgd => ?_
 obtain ⟨hg_p0, _⟩ := hgd
 have hl_p0 : p0.length ≤ 9223372036854775807 := hg_p0.1
 have hM := Qdn.eq_1 p0 p1
 refine ad 18 ?_
 refine cd (fun h1 => ?_) (fun h1 => ?_)
 ·
  have hM := hM.trans (bt h1)
  refine ad 4 ?_
  exact rz (rs := [.tmp 4]) (congrArg (fun x => [Re.c (.int .i64 x)]) hM)
 ·
  have hM := hM.trans (bf h1)
  refine ad 7 ?_
  refine Run.loopM (ι := Int × Nat) (fun s => Qd0 p0 p1 (p0.length - s.2) s.1 s.2) (fun s => ⟨27, 1, [(0, .sl 0 p0.length), (1, .v (.int .i64 s.1)), (5, .v (.int .i64 (s.2 : Int)))], [(0, .ros Step instDatStep p0)]⟩) (fun s => s.2 ≤ p0.length) (fun s => p0.length - s.2) (IntKind.i64.wrap (p1 - (p0.length : Int)), 0) [0] [0] hM (by first | exact ⟨by omega, by simp⟩ | omega | simp | (dsimp only; omega)) su (by decide) ?_
  rintro ⟨v1, i⟩ hv hE
  try dsimp only at hE
  have hi := hv
  try dsimp only at hi
  refine ad 8 ?_
  refine cd (fun h2 => ?_) (fun h2 => ?_)
  ·
   have h2l : i < p0.length := by have := of_decide_eq_true h2; omega
   have hM := hE.trans ((congrArg (fun n => Qd0 p0 p1 n v1 i) (show p0.length - i = (p0.length - (i + 1)) + 1 by omega)).trans (Qd0.eq_2 _ _ _ _ _))
   refine ad 7 ?_
   have hg4 := Qar (k := i) hg_p0 om
   refine op (ix (xs := p0) i om) ?_
   refine ad 2 ?_
   have hg5 : Dat.good (nth p0 i : Step) := hg4
   refine op (cl (Q6p (nth p0 i) v1) Ynj) ?_
   refine ad 7 ?_
   refine cd (fun h6 => ?_) (fun h6 => ?_)
   ·
    have hM := hM.trans (bt h6)
    refine ad 4 ?_
    exact rz (rs := [.tmp 4]) (congrArg (fun x => [Re.c (.int .i64 x)]) hM)
   ·
    have hM := hM.trans (bf h6)
    refine ad 5 ?_
    rw [Qc9 (i := i) (by first | omega | exact om)]
    refine ad 2 ?_
    exact Run.again ((Qe6 (nth p0 i) v1), (i + 1)) [0] [1] ⟨by first | omega | exact trivial | (dsimp only; omega) | (refine ⟨by omega, ?_⟩; simp_all; try omega), hM⟩ rfl (by show _ - _ < _ - _; (try dsimp only); omega) su (by decide)
  ·
   have h2l : ¬ (i < p0.length) := by have := of_decide_eq_false h2; omega
   have hM := hE.trans ((congrArg (fun n => Qd0 p0 p1 n v1 i) (show p0.length - i = 0 by omega)).trans (Qd0.eq_1 _ _ _ _))
   refine ad 6 ?_
   exact rz (rs := [.tmp 4]) (congrArg (fun x => [Re.c (.int .i64 x)]) hM)
def Qeq (p0 : Entry) (p1 : Int) : Int := bif decide ((Qdn p0.Steps p1) < 0) then (-1) else (bif decide ((Qbd p0.Answers (Qdn p0.Steps p1)) < 0) then (-1) else (Qbd p0.Answers (Qdn p0.Steps p1)))
theorem Qzh (p0 : Entry) (p1 : Int) : CTs 78 [.o (.st Entry _ inferInstance p0), .o (.c (.int .i64 p1))] [Re.c (.int .i64 (Qeq p0 p1))] := by
 refine en Tryz.func78 Tryz.ntmps78 fun w hG hgd => ?_
 obtain ⟨hg_p0, _⟩ := hgd
 have hM := Qeq.eq_1 p0 p1
 refine ad 10 ?_
 refine op (cl (Qzf p0.Steps p1) Yoa) ?_
 refine ad 8 ?_
 refine cd (fun h1 => ?_) (fun h1 => ?_)
 ·
  have hM := hM.trans (bt h1)
  refine ad 4 ?_
  exact rz (rs := [.tmp 4]) (congrArg (fun x => [Re.c (.int .i64 x)]) hM)
 ·
  have hM := hM.trans (bf h1)
  refine ad 6 ?_
  refine op (cl (Qlb p0.Answers (Qdn p0.Steps p1)) Ykp) ?_
  refine ad 8 ?_
  refine cd (fun h2 => ?_) (fun h2 => ?_)
  ·
   have hM := hM.trans (bt h2)
   refine ad 4 ?_
   exact rz (rs := [.tmp 4]) (congrArg (fun x => [Re.c (.int .i64 x)]) hM)
  ·
   have hM := hM.trans (bf h2)
   refine ad 6 ?_
   exact rz (rs := [.tmp 4]) (congrArg (fun x => [Re.c (.int .i64 x)]) hM)
def Qdg (p0 : List Entry) (p1 : Int) : Nat → Int → Nat → Int
 | 0, v1, i => v1
 | n + 1, v1, i => bif decide ((Qeq (nth p0 i) v1) < 0) then (-1) else (Qdg p0 p1 n (Qeq (nth p0 i) v1) (i + 1))
def Qc4 (p0 : List Entry) (p1 : Int) : Int := bif decide ((IntKind.i64.wrap (p1 - (p0.length : Int))) < 0) then (-1) else (Qdg p0 p1 (p0.length - 0) (IntKind.i64.wrap (p1 - (p0.length : Int))) 0)
theorem Qx2 (p0 : List Entry) (p1 : Int) : CTs 34 [.o (.sl Entry instDatEntry p0), .o (.c (.int .i64 p1))] [Re.c (.int .i64 (Qc4 p0 p1))] := by
 refine en Tryz.func34 Tryz.ntmps34 fun w hG hgd => ?_
 obtain ⟨hg_p0, _⟩ := hgd
 have hl_p0 : p0.length ≤ 9223372036854775807 := hg_p0.1
 have hM := Qc4.eq_1 p0 p1
 refine ad 18 ?_
 refine cd (fun h1 => ?_) (fun h1 => ?_)
 ·
  have hM := hM.trans (bt h1)
  refine ad 4 ?_
  exact rz (rs := [.tmp 4]) (congrArg (fun x => [Re.c (.int .i64 x)]) hM)
 ·
  have hM := hM.trans (bf h1)
  refine ad 7 ?_
  refine Run.loopM (ι := Int × Nat) (fun s => Qdg p0 p1 (p0.length - s.2) s.1 s.2) (fun s => ⟨27, 1, [(0, .sl 0 p0.length), (1, .v (.int .i64 s.1)), (5, .v (.int .i64 (s.2 : Int)))], [(0, .ros Entry instDatEntry p0)]⟩) (fun s => s.2 ≤ p0.length) (fun s => p0.length - s.2) (IntKind.i64.wrap (p1 - (p0.length : Int)), 0) [0] [0] hM (by first | exact ⟨by omega, by simp⟩ | omega | simp | (dsimp only; omega)) su (by decide) ?_
  rintro ⟨v1, i⟩ hv hE
  try dsimp only at hE
  have hi := hv
  try dsimp only at hi
  refine ad 8 ?_
  refine cd (fun h2 => ?_) (fun h2 => ?_)
  ·
   have h2l : i < p0.length := by have := of_decide_eq_true h2; omega
   have hM := hE.trans ((congrArg (fun n => Qdg p0 p1 n v1 i) (show p0.length - i = (p0.length - (i + 1)) + 1 by omega)).trans (Qdg.eq_2 _ _ _ _ _))
   refine ad 7 ?_
   have hg4 := Qar (k := i) hg_p0 om
   refine op (ix (xs := p0) i om) ?_
   refine ad 2 ?_
   have hg5 : Dat.good (nth p0 i : Entry) := hg4
   refine op (cl (Qzh (nth p0 i) v1) Yqk) ?_
   refine ad 7 ?_
   refine cd (fun h6 => ?_) (fun h6 => ?_)
   ·
    have hM := hM.trans (bt h6)
    refine ad 4 ?_
    exact rz (rs := [.tmp 4]) (congrArg (fun x => [Re.c (.int .i64 x)]) hM)
   ·
    have hM := hM.trans (bf h6)
    refine ad 5 ?_
    rw [Qc9 (i := i) (by first | omega | exact om)]
    refine ad 2 ?_
    exact Run.again ((Qeq (nth p0 i) v1), (i + 1)) [0] [3] ⟨by first | omega | exact trivial | (dsimp only; omega) | (refine ⟨by omega, ?_⟩; simp_all; try omega), hM⟩ rfl (by show _ - _ < _ - _; (try dsimp only); omega) su (by decide)
  ·
   have h2l : ¬ (i < p0.length) := by have := of_decide_eq_false h2; omega
   have hM := hE.trans ((congrArg (fun n => Qdg p0 p1 n v1 i) (show p0.length - i = 0 by omega)).trans (Qdg.eq_1 _ _ _ _))
   refine ad 6 ?_
   exact rz (rs := [.tmp 4]) (congrArg (fun x => [Re.c (.int .i64 x)]) hM)
def Qfd (p0 : Kernel) (p1 : Int) : Int := bif decide ((Qa5 p0.Store p1) < 0) then (-1) else (bif decide ((Qcj p0.Txs (Qa5 p0.Store p1)) < 0) then (-1) else (bif decide ((Qcu p0.Disk (Qcj p0.Txs (Qa5 p0.Store p1))) < 0) then (-1) else (bif decide ((Qc4 p0.History (Qcu p0.Disk (Qcj p0.Txs (Qa5 p0.Store p1)))) < 0) then (-1) else (bif decide ((Qbg p0.Seen (Qc4 p0.History (Qcu p0.Disk (Qcj p0.Txs (Qa5 p0.Store p1))))) < 0) then (-1) else (Qbg p0.Seen (Qc4 p0.History (Qcu p0.Disk (Qcj p0.Txs (Qa5 p0.Store p1)))))))))
theorem Qx1 (p0 : Kernel) (p1 : Int) : CTs 9 [.o (.st Kernel _ inferInstance p0), .o (.c (.int .i64 p1))] [Re.c (.int .i64 (Qfd p0 p1))] := by
 refine en Tryz.func9 Tryz.ntmps9 fun w hG hgd => ?_
 obtain ⟨hg_p0, _⟩ := hgd
 have hM := Qfd.eq_1 p0 p1
 refine ad 10 ?_
 refine op (cl (Qmw p0.Store p1) Ymz) ?_
 refine ad 8 ?_
 refine cd (fun h1 => ?_) (fun h1 => ?_)
 ·
  have hM := hM.trans (bt h1)
  refine ad 4 ?_
  exact rz (rs := [.tmp 4]) (congrArg (fun x => [Re.c (.int .i64 x)]) hM)
 ·
  have hM := hM.trans (bf h1)
  refine ad 6 ?_
  refine op (cl (Yat p0.Txs (Qa5 p0.Store p1)) Yq5) ?_
  refine ad 8 ?_
  refine cd (fun h2 => ?_) (fun h2 => ?_)
  ·
   have hM := hM.trans (bt h2)
   refine ad 4 ?_
   exact rz (rs := [.tmp 4]) (congrArg (fun x => [Re.c (.int .i64 x)]) hM)
  ·
   have hM := hM.trans (bf h2)
   refine ad 6 ?_
   have hg3 : Dat.good (p0.Disk : Disk) := hg_p0.2.2.1
   refine op (cl (Q6s p0.Disk (Qcj p0.Txs (Qa5 p0.Store p1))) Yq4) ?_
   refine ad 8 ?_
   refine cd (fun h4 => ?_) (fun h4 => ?_)
   ·
    have hM := hM.trans (bt h4)
    refine ad 4 ?_
    exact rz (rs := [.tmp 4]) (congrArg (fun x => [Re.c (.int .i64 x)]) hM)
   ·
    have hM := hM.trans (bf h4)
    refine ad 6 ?_
    refine op (cl (Qx2 p0.History (Qcu p0.Disk (Qcj p0.Txs (Qa5 p0.Store p1)))) Yq3) ?_
    refine ad 8 ?_
    refine cd (fun h5 => ?_) (fun h5 => ?_)
    ·
     have hM := hM.trans (bt h5)
     refine ad 4 ?_
     exact rz (rs := [.tmp 4]) (congrArg (fun x => [Re.c (.int .i64 x)]) hM)
    ·
     have hM := hM.trans (bf h5)
     refine ad 6 ?_
     refine op (cl (Qim p0.Seen (Qc4 p0.History (Qcu p0.Disk (Qcj p0.Txs (Qa5 p0.Store p1))))) Ylt) ?_
     refine ad 8 ?_
     refine cd (fun h6 => ?_) (fun h6 => ?_)
     ·
      have hM := hM.trans (bt h6)
      refine ad 4 ?_
      exact rz (rs := [.tmp 4]) (congrArg (fun x => [Re.c (.int .i64 x)]) hM)
     ·
      have hM := hM.trans (bf h6)
      refine ad 6 ?_
      exact rz (rs := [.tmp 4]) (congrArg (fun x => [Re.c (.int .i64 x)]) hM)
end
section
open Go.RowKit
theorem Yj3 {α : Type} [Inhabited α] {xs : List α} {i : Nat} {x : α} (h : xs[i]? = some x) : nth xs i = x := by
  simp [nth, List.getD_eq_getElem?_getD, h]
def szL {α : Type} [Inhabited α] (f : α → Int → Int) (xs : List α) : Nat → Int → Nat → Int
  | 0, s, _ => s
  | n + 1, s, i => bif decide (f (nth xs i) s < 0) then (-1) else szL f xs n (f (nth xs i) s) (i + 1)
theorem Qh2 {α : Type} [Inhabited α] [Dat α] {f : α → Int → Int} {xs : List α} (hf : ∀ x s, 0 ≤ s → s ≤ 1048576 → Dat.good x → ¬ f x s < 0 → Dat.small 1048576 x ∧ 0 ≤ f x s ∧ f x s ≤ 1048576) (hg : ∀ x ∈ xs, Dat.good x) :
    ∀ (n : Nat) (s : Int) (i : Nat), n = xs.length - i → 0 ≤ s → s ≤ 1048576 → ¬ szL f xs n s i < 0 → (∀ j x, i ≤ j → xs[j]? = some x → Dat.small 1048576 x) ∧ 0 ≤ szL f xs n s i ∧ szL f xs n s i ≤ 1048576 := by
  intro n
  induction n with
  | zero =>
    intro s i hn h0 h1 _
    refine ⟨fun j x hj hx => ?_, h0, h1⟩
    have := (List.getElem?_eq_some_iff.1 hx).1
    omega
  | succ n ih =>
    intro s i hn h0 h1 h
    unfold szL at h ⊢
    by_cases hc : f (nth xs i) s < 0
    · rw [decide_eq_true hc] at h
      exact absurd (show ((-1 : Int)) < 0 by decide) h
    · rw [decide_eq_false hc] at h ⊢
      have hi : i < xs.length := by omega
      have hx : xs[i]? = some xs[i] := List.getElem?_eq_getElem hi
      have hgi : Dat.good (nth xs i) := by rw [Yj3 hx]; exact hg _ (List.getElem_mem hi)
      obtain ⟨h2, h3, h4⟩ := hf _ _ h0 h1 hgi hc
      obtain ⟨h5, h6, h7⟩ := ih _ (i + 1) (by omega) h3 h4 h
      refine ⟨fun j x hj hjx => ?_, h6, h7⟩
      by_cases e : j = i
      · subst e
        rw [← Yj3 hjx]
        exact h2
      · exact h5 j x (by omega) hjx
theorem Qjr {s : ByteArray} (h : Dat.good s) : s.size ≤ 9223372036854775807 := by
  have h' : s.size ≤ maxLen := h
  unfold maxLen at h'
  omega
theorem Qfa {a : Int} {n : Nat} (h0 : 0 ≤ a) (h1 : a ≤ 1048576) (hn : n ≤ 9223372036854775807) : IntKind.i64.wrap (a - (n : Int)) = a - n := IntWalk.i64_in _ (by omega)
def Qgi (x : ByteArray) (s : Int) : Int := IntKind.i64.wrap (s - (x.size : Int))
theorem Qnc (p0 : ByteArray) (p1 : Int) (h0 : 0 ≤ p1) (h1 : p1 ≤ 1048576) (hg : Dat.good p0) (h : ¬ Qgi p0 p1 < 0) : Dat.small 1048576 p0 ∧ 0 ≤ Qgi p0 p1 ∧ Qgi p0 p1 ≤ 1048576 := by
  unfold Qgi at h ⊢
  rw [Qfa h0 h1 (Qjr hg)] at h ⊢
  have e : p0.size ≤ 1048576 := by omega
  exact ⟨e, by omega, by omega⟩
theorem Qer {a : Int} {x : Int} (h : ¬ (bif decide (a < 0) then (-1 : Int) else x) < 0) : ¬ a < 0 := fun hc => h (by rw [decide_eq_true hc]; show (-1 : Int) < 0; decide)
theorem Qpn (p0 : Cell) (p1 : Int) (h0 : 0 ≤ p1) (h1 : p1 ≤ 1048576) (hg : Dat.good p0) (h : ¬ Qe8 p0 p1 < 0) : Dat.small 1048576 p0 ∧ 0 ≤ Qe8 p0 p1 ∧ Qe8 p0 p1 ≤ 1048576 := by
  unfold Qe8 at h ⊢
  obtain ⟨g0, g1⟩ := hg
  rw [Qfa (a := p1) h0 h1 (n := p0.Key.size) (Qjr g0)] at h ⊢
  have c1 : ¬ (p1 - (p0.Key.size : Int)) < 0 := Qer h
  rw [decide_eq_false c1, cond_false] at h ⊢
  have b1 : 0 ≤ (p1 - (p0.Key.size : Int)) := by omega
  have e1 : (p1 - (p0.Key.size : Int)) ≤ 1048576 := by omega
  have s0 : p0.Key.size ≤ 1048576 := by omega
  rw [Qfa (a := (p1 - (p0.Key.size : Int))) b1 e1 (n := p0.Val.size) (Qjr g1)] at h ⊢
  have c2 : ¬ ((p1 - (p0.Key.size : Int)) - (p0.Val.size : Int)) < 0 := Qer h
  rw [decide_eq_false c2, cond_false] at h ⊢
  have b2 : 0 ≤ ((p1 - (p0.Key.size : Int)) - (p0.Val.size : Int)) := by omega
  have e2 : ((p1 - (p0.Key.size : Int)) - (p0.Val.size : Int)) ≤ 1048576 := by omega
  have s1 : p0.Val.size ≤ 1048576 := by omega
  exact ⟨⟨s0, s1⟩, b2, e2⟩
theorem Qof (p0 : List Cell) (p1 : Int) : ∀ n s i, Qd2 p0 p1 n s i = szL Qe8 p0 n s i := by
  intro n
  induction n with
  | zero => intro s i; rfl
  | succ n ih => intro s i; rw [Qd2, szL, ih]
theorem Qjp (p0 : List Cell) (p1 : Int) (h0 : 0 ≤ p1) (h1 : p1 ≤ 1048576) (hg : Dat.good p0) (h : ¬ Qa5 p0 p1 < 0) : Dat.small 1048576 p0 ∧ 0 ≤ Qa5 p0 p1 ∧ Qa5 p0 p1 ≤ 1048576 := by
  unfold Qa5 at h ⊢
  rw [Qfa h0 h1 hg.1] at h ⊢
  have hc := Qer h
  rw [decide_eq_false hc, cond_false, Qof] at h ⊢
  obtain ⟨h2, h3, h4⟩ := Qh2 (f := Qe8) (xs := p0) Qpn hg.2 _ _ 0 rfl (by omega) (by omega) h
  refine ⟨⟨by omega, fun x hx => ?_⟩, h3, h4⟩
  obtain ⟨j, hj⟩ := List.getElem?_of_mem hx
  exact h2 j x (Nat.zero_le _) hj
theorem Qkb (p0 : Call) (p1 : Int) (h0 : 0 ≤ p1) (h1 : p1 ≤ 1048576) (hg : Dat.good p0) (h : ¬ Qd4 p0 p1 < 0) : Dat.small 1048576 p0 ∧ 0 ≤ Qd4 p0 p1 ∧ Qd4 p0 p1 ≤ 1048576 := by
  unfold Qd4 at h ⊢
  obtain ⟨g0, g1, g2, g3, g4, g5⟩ := hg
  rw [Qfa (a := p1) h0 h1 (n := p0.Name.size) (Qjr g1)] at h ⊢
  have c1 : ¬ (p1 - (p0.Name.size : Int)) < 0 := Qer h
  rw [decide_eq_false c1, cond_false] at h ⊢
  have b1 : 0 ≤ (p1 - (p0.Name.size : Int)) := by omega
  have e1 : (p1 - (p0.Name.size : Int)) ≤ 1048576 := by omega
  have s1 : p0.Name.size ≤ 1048576 := by omega
  rw [Qfa (a := (p1 - (p0.Name.size : Int))) b1 e1 (n := p0.To.size) (Qjr g2)] at h ⊢
  have c2 : ¬ ((p1 - (p0.Name.size : Int)) - (p0.To.size : Int)) < 0 := Qer h
  rw [decide_eq_false c2, cond_false] at h ⊢
  have b2 : 0 ≤ ((p1 - (p0.Name.size : Int)) - (p0.To.size : Int)) := by omega
  have e2 : ((p1 - (p0.Name.size : Int)) - (p0.To.size : Int)) ≤ 1048576 := by omega
  have s2 : p0.To.size ≤ 1048576 := by omega
  rw [Qfa (a := ((p1 - (p0.Name.size : Int)) - (p0.To.size : Int))) b2 e2 (n := p0.Text.size) (Qjr g5)] at h ⊢
  have c3 : ¬ (((p1 - (p0.Name.size : Int)) - (p0.To.size : Int)) - (p0.Text.size : Int)) < 0 := Qer h
  rw [decide_eq_false c3, cond_false] at h ⊢
  have b3 : 0 ≤ (((p1 - (p0.Name.size : Int)) - (p0.To.size : Int)) - (p0.Text.size : Int)) := by omega
  have e3 : (((p1 - (p0.Name.size : Int)) - (p0.To.size : Int)) - (p0.Text.size : Int)) ≤ 1048576 := by omega
  have s5 : p0.Text.size ≤ 1048576 := by omega
  exact ⟨⟨trivial, s1, s2, trivial, trivial, s5⟩, b3, e3⟩
theorem Qoh (p0 : List Call) (p1 : Int) : ∀ n s i, Qd3 p0 p1 n s i = szL Qd4 p0 n s i := by
  intro n
  induction n with
  | zero => intro s i; rfl
  | succ n ih => intro s i; rw [Qd3, szL, ih]
theorem Qog (p0 : List Call) (p1 : Int) (h0 : 0 ≤ p1) (h1 : p1 ≤ 1048576) (hg : Dat.good p0) (h : ¬ Qbp p0 p1 < 0) : Dat.small 1048576 p0 ∧ 0 ≤ Qbp p0 p1 ∧ Qbp p0 p1 ≤ 1048576 := by
  unfold Qbp at h ⊢
  rw [Qfa h0 h1 hg.1] at h ⊢
  have hc := Qer h
  rw [decide_eq_false hc, cond_false, Qoh] at h ⊢
  obtain ⟨h2, h3, h4⟩ := Qh2 (f := Qd4) (xs := p0) Qkb hg.2 _ _ 0 rfl (by omega) (by omega) h
  refine ⟨⟨by omega, fun x hx => ?_⟩, h3, h4⟩
  obtain ⟨j, hj⟩ := List.getElem?_of_mem hx
  exact h2 j x (Nat.zero_le _) hj
theorem Qng (p0 : Answer) (p1 : Int) (h0 : 0 ≤ p1) (h1 : p1 ≤ 1048576) (hg : Dat.good p0) (h : ¬ Qd5 p0 p1 < 0) : Dat.small 1048576 p0 ∧ 0 ≤ Qd5 p0 p1 ∧ Qd5 p0 p1 ≤ 1048576 := by
  unfold Qd5 at h ⊢
  obtain ⟨g0, g1, g2⟩ := hg
  rw [Qfa (a := p1) h0 h1 (n := p0.Text.size) (Qjr g2)] at h ⊢
  have c1 : ¬ (p1 - (p0.Text.size : Int)) < 0 := Qer h
  rw [decide_eq_false c1, cond_false] at h ⊢
  have b1 : 0 ≤ (p1 - (p0.Text.size : Int)) := by omega
  have e1 : (p1 - (p0.Text.size : Int)) ≤ 1048576 := by omega
  have s2 : p0.Text.size ≤ 1048576 := by omega
  exact ⟨⟨trivial, trivial, s2⟩, b1, e1⟩
theorem Qmj (p0 : List Answer) (p1 : Int) : ∀ n s i, Qc5 p0 p1 n s i = szL Qd5 p0 n s i := by
  intro n
  induction n with
  | zero => intro s i; rfl
  | succ n ih => intro s i; rw [Qc5, szL, ih]
theorem Qiq (p0 : List Answer) (p1 : Int) (h0 : 0 ≤ p1) (h1 : p1 ≤ 1048576) (hg : Dat.good p0) (h : ¬ Qbd p0 p1 < 0) : Dat.small 1048576 p0 ∧ 0 ≤ Qbd p0 p1 ∧ Qbd p0 p1 ≤ 1048576 := by
  unfold Qbd at h ⊢
  rw [Qfa h0 h1 hg.1] at h ⊢
  have hc := Qer h
  rw [decide_eq_false hc, cond_false, Qmj] at h ⊢
  obtain ⟨h2, h3, h4⟩ := Qh2 (f := Qd5) (xs := p0) Qng hg.2 _ _ 0 rfl (by omega) (by omega) h
  refine ⟨⟨by omega, fun x hx => ?_⟩, h3, h4⟩
  obtain ⟨j, hj⟩ := List.getElem?_of_mem hx
  exact h2 j x (Nat.zero_le _) hj
theorem Qmh (p0 : List ByteArray) (p1 : Int) : ∀ n s i, Qc3 p0 p1 n s i = szL Qgi p0 n s i := by
  intro n
  induction n with
  | zero => intro s i; rfl
  | succ n ih => intro s i; rw [Qc3, szL, ih]; rfl
theorem Qgn (p0 : List ByteArray) (p1 : Int) (h0 : 0 ≤ p1) (h1 : p1 ≤ 1048576) (hg : Dat.good p0) (h : ¬ Qbg p0 p1 < 0) : Dat.small 1048576 p0 ∧ 0 ≤ Qbg p0 p1 ∧ Qbg p0 p1 ≤ 1048576 := by
  unfold Qbg at h ⊢
  rw [Qfa h0 h1 hg.1] at h ⊢
  have hc := Qer h
  rw [decide_eq_false hc, cond_false, Qmh] at h ⊢
  obtain ⟨h2, h3, h4⟩ := Qh2 (f := Qgi) (xs := p0) Qnc hg.2 _ _ 0 rfl (by omega) (by omega) h
  refine ⟨⟨by omega, fun x hx => ?_⟩, h3, h4⟩
  obtain ⟨j, hj⟩ := List.getElem?_of_mem hx
  exact h2 j x (Nat.zero_le _) hj
theorem Qn9 (p0 : Touch) (p1 : Int) (h0 : 0 ≤ p1) (h1 : p1 ≤ 1048576) (hg : Dat.good p0) (h : ¬ Qdm p0 p1 < 0) : Dat.small 1048576 p0 ∧ 0 ≤ Qdm p0 p1 ∧ Qdm p0 p1 ≤ 1048576 := by
  unfold Qdm at h ⊢
  obtain ⟨g0, g1⟩ := hg
  have c1 : ¬ (Qbg p0.Reads p1) < 0 := Qer h
  rw [decide_eq_false c1, cond_false] at h ⊢
  obtain ⟨s0, b1, e1⟩ := Qgn p0.Reads p1 h0 h1 g0 c1
  have c2 : ¬ (Qbg p0.Writes (Qbg p0.Reads p1)) < 0 := Qer h
  rw [decide_eq_false c2, cond_false] at h ⊢
  obtain ⟨s1, b2, e2⟩ := Qgn p0.Writes (Qbg p0.Reads p1) b1 e1 g1 c2
  exact ⟨⟨s0, s1⟩, b2, e2⟩
theorem Qpl (p0 : List Int) (p1 : Int) (h0 : 0 ≤ p1) (h1 : p1 ≤ 1048576) (hg : Dat.good p0) (h : ¬ Qfu p0 p1 < 0) : Dat.small 1048576 p0 ∧ 0 ≤ Qfu p0 p1 ∧ Qfu p0 p1 ≤ 1048576 := by
  unfold Qfu at h ⊢
  rw [Qfa h0 h1 hg.1] at h ⊢
  have hc := Qer h
  rw [decide_eq_false hc] at h ⊢
  exact ⟨⟨by omega, fun _ _ => trivial⟩, by show 0 ≤ p1 - (p0.length : Int); omega, by show p1 - (p0.length : Int) ≤ 1048576; omega⟩
theorem Qxd (p0 : Tx) (p1 : Int) (h0 : 0 ≤ p1) (h1 : p1 ≤ 1048576) (hg : Dat.good p0) (h : ¬ Qga p0 p1 < 0) : Dat.small 1048576 p0 ∧ 0 ≤ Qga p0 p1 ∧ Qga p0 p1 ≤ 1048576 := by
  unfold Qga at h ⊢
  obtain ⟨g0, g1, g2, g3, g4, g5, g6, g7, g8⟩ := hg
  have c1 : ¬ (Qbp p0.Calls p1) < 0 := Qer h
  rw [decide_eq_false c1, cond_false] at h ⊢
  obtain ⟨s4, b1, e1⟩ := Qog p0.Calls p1 h0 h1 g4 c1
  have c2 : ¬ (Qbd p0.Answers (Qbp p0.Calls p1)) < 0 := Qer h
  rw [decide_eq_false c2, cond_false] at h ⊢
  obtain ⟨s5, b2, e2⟩ := Qiq p0.Answers (Qbp p0.Calls p1) b1 e1 g5 c2
  have c3 : ¬ (Qdm p0.Touch (Qbd p0.Answers (Qbp p0.Calls p1))) < 0 := Qer h
  rw [decide_eq_false c3, cond_false] at h ⊢
  obtain ⟨s6, b3, e3⟩ := Qn9 p0.Touch (Qbd p0.Answers (Qbp p0.Calls p1)) b2 e2 g6 c3
  have c4 : ¬ (Qfu p0.Marks (Qdm p0.Touch (Qbd p0.Answers (Qbp p0.Calls p1)))) < 0 := Qer h
  rw [decide_eq_false c4, cond_false] at h ⊢
  obtain ⟨s7, b4, e4⟩ := Qpl p0.Marks (Qdm p0.Touch (Qbd p0.Answers (Qbp p0.Calls p1))) b3 e3 g7 c4
  exact ⟨⟨trivial, trivial, trivial, trivial, s4, s5, s6, s7, trivial⟩, b4, e4⟩
theorem Qv0 (p0 : List Tx) (p1 : Int) : ∀ n s i, Qew p0 p1 n s i = szL Qga p0 n s i := by
  intro n
  induction n with
  | zero => intro s i; rfl
  | succ n ih => intro s i; rw [Qew, szL, ih]
theorem Qvz (p0 : List Tx) (p1 : Int) (h0 : 0 ≤ p1) (h1 : p1 ≤ 1048576) (hg : Dat.good p0) (h : ¬ Qcj p0 p1 < 0) : Dat.small 1048576 p0 ∧ 0 ≤ Qcj p0 p1 ∧ Qcj p0 p1 ≤ 1048576 := by
  unfold Qcj at h ⊢
  rw [Qfa h0 h1 hg.1] at h ⊢
  have hc := Qer h
  rw [decide_eq_false hc, cond_false, Qv0] at h ⊢
  obtain ⟨h2, h3, h4⟩ := Qh2 (f := Qga) (xs := p0) Qxd hg.2 _ _ 0 rfl (by omega) (by omega) h
  refine ⟨⟨by omega, fun x hx => ?_⟩, h3, h4⟩
  obtain ⟨j, hj⟩ := List.getElem?_of_mem hx
  exact h2 j x (Nat.zero_le _) hj
theorem Qpk (p0 : Slot) (p1 : Int) (h0 : 0 ≤ p1) (h1 : p1 ≤ 1048576) (hg : Dat.good p0) (h : ¬ Qe7 p0 p1 < 0) : Dat.small 1048576 p0 ∧ 0 ≤ Qe7 p0 p1 ∧ Qe7 p0 p1 ≤ 1048576 := by
  unfold Qe7 at h ⊢
  obtain ⟨g0, g1, g2⟩ := hg
  have c1 : ¬ (Qa5 p0.Cells p1) < 0 := Qer h
  rw [decide_eq_false c1, cond_false] at h ⊢
  obtain ⟨s1, b1, e1⟩ := Qjp p0.Cells p1 h0 h1 g1 c1
  exact ⟨⟨trivial, s1, trivial⟩, b1, e1⟩
theorem Qod (p0 : List Slot) (p1 : Int) : ∀ n s i, Qd1 p0 p1 n s i = szL Qe7 p0 n s i := by
  intro n
  induction n with
  | zero => intro s i; rfl
  | succ n ih => intro s i; rw [Qd1, szL, ih]
theorem Qoc (p0 : List Slot) (p1 : Int) (h0 : 0 ≤ p1) (h1 : p1 ≤ 1048576) (hg : Dat.good p0) (h : ¬ Qdo p0 p1 < 0) : Dat.small 1048576 p0 ∧ 0 ≤ Qdo p0 p1 ∧ Qdo p0 p1 ≤ 1048576 := by
  unfold Qdo at h ⊢
  rw [Qfa h0 h1 hg.1] at h ⊢
  have hc := Qer h
  rw [decide_eq_false hc, cond_false, Qod] at h ⊢
  obtain ⟨h2, h3, h4⟩ := Qh2 (f := Qe7) (xs := p0) Qpk hg.2 _ _ 0 rfl (by omega) (by omega) h
  refine ⟨⟨by omega, fun x hx => ?_⟩, h3, h4⟩
  obtain ⟨j, hj⟩ := List.getElem?_of_mem hx
  exact h2 j x (Nat.zero_le _) hj
theorem Qmi (p0 : Journal) (p1 : Int) (h0 : 0 ≤ p1) (h1 : p1 ≤ 1048576) (hg : Dat.good p0) (h : ¬ Qem p0 p1 < 0) : Dat.small 1048576 p0 ∧ 0 ≤ Qem p0 p1 ∧ Qem p0 p1 ≤ 1048576 := by
  unfold Qem at h ⊢
  obtain ⟨g0, g1⟩ := hg
  rw [Qfa (a := p1) h0 h1 (n := p0.Text.size) (Qjr g0)] at h ⊢
  have c1 : ¬ (p1 - (p0.Text.size : Int)) < 0 := Qer h
  rw [decide_eq_false c1, cond_false] at h ⊢
  have b1 : 0 ≤ (p1 - (p0.Text.size : Int)) := by omega
  have e1 : (p1 - (p0.Text.size : Int)) ≤ 1048576 := by omega
  have s0 : p0.Text.size ≤ 1048576 := by omega
  exact ⟨⟨s0, trivial⟩, b1, e1⟩
theorem Qpm (p0 : Disk) (p1 : Int) (h0 : 0 ≤ p1) (h1 : p1 ≤ 1048576) (hg : Dat.good p0) (h : ¬ Qcu p0 p1 < 0) : Dat.small 1048576 p0 ∧ 0 ≤ Qcu p0 p1 ∧ Qcu p0 p1 ≤ 1048576 := by
  unfold Qcu at h ⊢
  obtain ⟨g0, g1⟩ := hg
  have c1 : ¬ (Qdo p0.Slots p1) < 0 := Qer h
  rw [decide_eq_false c1, cond_false] at h ⊢
  obtain ⟨s0, b1, e1⟩ := Qoc p0.Slots p1 h0 h1 g0 c1
  have c2 : ¬ (Qem p0.Journal (Qdo p0.Slots p1)) < 0 := Qer h
  rw [decide_eq_false c2, cond_false] at h ⊢
  obtain ⟨s1, b2, e2⟩ := Qmi p0.Journal (Qdo p0.Slots p1) b1 e1 g1 c2
  exact ⟨⟨s0, s1⟩, b2, e2⟩
theorem Qpj (p0 : Step) (p1 : Int) (h0 : 0 ≤ p1) (h1 : p1 ≤ 1048576) (hg : Dat.good p0) (h : ¬ Qe6 p0 p1 < 0) : Dat.small 1048576 p0 ∧ 0 ≤ Qe6 p0 p1 ∧ Qe6 p0 p1 ≤ 1048576 := by
  unfold Qe6 at h ⊢
  obtain ⟨g0, g1⟩ := hg
  have c1 : ¬ (Qd4 p0.Call p1) < 0 := Qer h
  rw [decide_eq_false c1, cond_false] at h ⊢
  obtain ⟨s1, b1, e1⟩ := Qkb p0.Call p1 h0 h1 g1 c1
  exact ⟨⟨trivial, s1⟩, b1, e1⟩
theorem Qob (p0 : List Step) (p1 : Int) : ∀ n s i, Qd0 p0 p1 n s i = szL Qe6 p0 n s i := by
  intro n
  induction n with
  | zero => intro s i; rfl
  | succ n ih => intro s i; rw [Qd0, szL, ih]
theorem Qoa (p0 : List Step) (p1 : Int) (h0 : 0 ≤ p1) (h1 : p1 ≤ 1048576) (hg : Dat.good p0) (h : ¬ Qdn p0 p1 < 0) : Dat.small 1048576 p0 ∧ 0 ≤ Qdn p0 p1 ∧ Qdn p0 p1 ≤ 1048576 := by
  unfold Qdn at h ⊢
  rw [Qfa h0 h1 hg.1] at h ⊢
  have hc := Qer h
  rw [decide_eq_false hc, cond_false, Qob] at h ⊢
  obtain ⟨h2, h3, h4⟩ := Qh2 (f := Qe6) (xs := p0) Qpj hg.2 _ _ 0 rfl (by omega) (by omega) h
  refine ⟨⟨by omega, fun x hx => ?_⟩, h3, h4⟩
  obtain ⟨j, hj⟩ := List.getElem?_of_mem hx
  exact h2 j x (Nat.zero_le _) hj
theorem Qoe (p0 : Entry) (p1 : Int) (h0 : 0 ≤ p1) (h1 : p1 ≤ 1048576) (hg : Dat.good p0) (h : ¬ Qeq p0 p1 < 0) : Dat.small 1048576 p0 ∧ 0 ≤ Qeq p0 p1 ∧ Qeq p0 p1 ≤ 1048576 := by
  unfold Qeq at h ⊢
  obtain ⟨g0, g1, g2, g3, g4, g5, g6, g7⟩ := hg
  have c1 : ¬ (Qdn p0.Steps p1) < 0 := Qer h
  rw [decide_eq_false c1, cond_false] at h ⊢
  obtain ⟨s3, b1, e1⟩ := Qoa p0.Steps p1 h0 h1 g3 c1
  have c2 : ¬ (Qbd p0.Answers (Qdn p0.Steps p1)) < 0 := Qer h
  rw [decide_eq_false c2, cond_false] at h ⊢
  obtain ⟨s4, b2, e2⟩ := Qiq p0.Answers (Qdn p0.Steps p1) b1 e1 g4 c2
  exact ⟨⟨trivial, trivial, trivial, s3, s4, trivial, trivial, trivial⟩, b2, e2⟩
theorem Qnf (p0 : List Entry) (p1 : Int) : ∀ n s i, Qdg p0 p1 n s i = szL Qeq p0 n s i := by
  intro n
  induction n with
  | zero => intro s i; rfl
  | succ n ih => intro s i; rw [Qdg, szL, ih]
theorem Qne (p0 : List Entry) (p1 : Int) (h0 : 0 ≤ p1) (h1 : p1 ≤ 1048576) (hg : Dat.good p0) (h : ¬ Qc4 p0 p1 < 0) : Dat.small 1048576 p0 ∧ 0 ≤ Qc4 p0 p1 ∧ Qc4 p0 p1 ≤ 1048576 := by
  unfold Qc4 at h ⊢
  rw [Qfa h0 h1 hg.1] at h ⊢
  have hc := Qer h
  rw [decide_eq_false hc, cond_false, Qnf] at h ⊢
  obtain ⟨h2, h3, h4⟩ := Qh2 (f := Qeq) (xs := p0) Qoe hg.2 _ _ 0 rfl (by omega) (by omega) h
  refine ⟨⟨by omega, fun x hx => ?_⟩, h3, h4⟩
  obtain ⟨j, hj⟩ := List.getElem?_of_mem hx
  exact h2 j x (Nat.zero_le _) hj
theorem Qnd (p0 : Kernel) (p1 : Int) (h0 : 0 ≤ p1) (h1 : p1 ≤ 1048576) (hg : Dat.good p0) (h : ¬ Qfd p0 p1 < 0) : Dat.small 1048576 p0 ∧ 0 ≤ Qfd p0 p1 ∧ Qfd p0 p1 ≤ 1048576 := by
  unfold Qfd at h ⊢
  obtain ⟨g0, g1, g2, g3, g4, g5, g6, g7, g8⟩ := hg
  have c1 : ¬ (Qa5 p0.Store p1) < 0 := Qer h
  rw [decide_eq_false c1, cond_false] at h ⊢
  obtain ⟨s0, b1, e1⟩ := Qjp p0.Store p1 h0 h1 g0 c1
  have c2 : ¬ (Qcj p0.Txs (Qa5 p0.Store p1)) < 0 := Qer h
  rw [decide_eq_false c2, cond_false] at h ⊢
  obtain ⟨s1, b2, e2⟩ := Qvz p0.Txs (Qa5 p0.Store p1) b1 e1 g1 c2
  have c3 : ¬ (Qcu p0.Disk (Qcj p0.Txs (Qa5 p0.Store p1))) < 0 := Qer h
  rw [decide_eq_false c3, cond_false] at h ⊢
  obtain ⟨s2, b3, e3⟩ := Qpm p0.Disk (Qcj p0.Txs (Qa5 p0.Store p1)) b2 e2 g2 c3
  have c4 : ¬ (Qc4 p0.History (Qcu p0.Disk (Qcj p0.Txs (Qa5 p0.Store p1)))) < 0 := Qer h
  rw [decide_eq_false c4, cond_false] at h ⊢
  obtain ⟨s6, b4, e4⟩ := Qne p0.History (Qcu p0.Disk (Qcj p0.Txs (Qa5 p0.Store p1))) b3 e3 g6 c4
  have c5 : ¬ (Qbg p0.Seen (Qc4 p0.History (Qcu p0.Disk (Qcj p0.Txs (Qa5 p0.Store p1))))) < 0 := Qer h
  rw [decide_eq_false c5, cond_false] at h ⊢
  obtain ⟨s7, b5, e5⟩ := Qgn p0.Seen (Qc4 p0.History (Qcu p0.Disk (Qcj p0.Txs (Qa5 p0.Store p1)))) b4 e4 g7 c5
  exact ⟨⟨s0, s1, s2, trivial, trivial, trivial, s6, s7, trivial⟩, b5, e5⟩
end
section
open Go.RowKit
set_option maxHeartbeats 2000000
theorem Ylu : FnOk Tryz.prog 18 := ⟨_, Tryz.func18, rfl, by kernel_rfl⟩
theorem Yq6 : FnOk Tryz.prog 24 := ⟨_, Tryz.func24, rfl, by kernel_rfl⟩
theorem Ymy : FnOk Tryz.prog 38 := ⟨_, Tryz.func38, rfl, by kernel_rfl⟩
theorem Yq1 : FnOk Tryz.prog 39 := ⟨_, Tryz.func39, rfl, by kernel_rfl⟩
theorem Yq0 : FnOk Tryz.prog 40 := ⟨_, Tryz.func40, rfl, by kernel_rfl⟩
theorem Yqz : FnOk Tryz.prog 41 := ⟨_, Tryz.func41, rfl, by kernel_rfl⟩
theorem Yls : FnOk Tryz.prog 42 := ⟨_, Tryz.func42, rfl, by kernel_rfl⟩
theorem Ymx : FnOk Tryz.prog 45 := ⟨_, Tryz.func45, rfl, by kernel_rfl⟩
theorem Yqx : FnOk Tryz.prog 46 := ⟨_, Tryz.func46, rfl, by kernel_rfl⟩
theorem Yqw : FnOk Tryz.prog 47 := ⟨_, Tryz.func47, rfl, by kernel_rfl⟩
theorem Yqp : FnOk Tryz.prog 63 := ⟨_, Tryz.func63, rfl, by kernel_rfl⟩
theorem Yqh : FnOk Tryz.prog 83 := ⟨_, Tryz.func83, rfl, by kernel_rfl⟩
theorem Yqg : FnOk Tryz.prog 84 := ⟨_, Tryz.func84, rfl, by kernel_rfl⟩
theorem Yqf : FnOk Tryz.prog 85 := ⟨_, Tryz.func85, rfl, by kernel_rfl⟩
theorem Yqe : FnOk Tryz.prog 86 := ⟨_, Tryz.func86, rfl, by kernel_rfl⟩
theorem Yqd : FnOk Tryz.prog 87 := ⟨_, Tryz.func87, rfl, by kernel_rfl⟩
theorem Yqa : FnOk Tryz.prog 94 := ⟨_, Tryz.func94, rfl, by kernel_rfl⟩
theorem Yp9 : FnOk Tryz.prog 95 := ⟨_, Tryz.func95, rfl, by kernel_rfl⟩
theorem Yp8 : FnOk Tryz.prog 96 := ⟨_, Tryz.func96, rfl, by kernel_rfl⟩
theorem Yp7 : FnOk Tryz.prog 97 := ⟨_, Tryz.func97, rfl, by kernel_rfl⟩
theorem Yof : FnOk Tryz.prog 122 := ⟨_, Tryz.func122, rfl, by kernel_rfl⟩
theorem Ykq : FnOk Tryz.prog 123 := ⟨_, Tryz.func123, rfl, by kernel_rfl⟩
theorem Yn5 : FnOk Tryz.prog 152 := ⟨_, Tryz.func152, rfl, by kernel_rfl⟩
theorem Ykn : FnOk Tryz.prog 153 := ⟨_, Tryz.func153, rfl, by kernel_rfl⟩
theorem Yn4 : FnOk Tryz.prog 154 := ⟨_, Tryz.func154, rfl, by kernel_rfl⟩
theorem Yn3 : FnOk Tryz.prog 155 := ⟨_, Tryz.func155, rfl, by kernel_rfl⟩
theorem Yn2 : FnOk Tryz.prog 156 := ⟨_, Tryz.func156, rfl, by kernel_rfl⟩
theorem Yn1 : FnOk Tryz.prog 157 := ⟨_, Tryz.func157, rfl, by kernel_rfl⟩
theorem Ynu : FnOk Tryz.prog 169 := ⟨_, Tryz.func169, rfl, by kernel_rfl⟩
theorem Ynt : FnOk Tryz.prog 170 := ⟨_, Tryz.func170, rfl, by kernel_rfl⟩
theorem Yns : FnOk Tryz.prog 171 := ⟨_, Tryz.func171, rfl, by kernel_rfl⟩
theorem Ynr : FnOk Tryz.prog 172 := ⟨_, Tryz.func172, rfl, by kernel_rfl⟩
theorem Ynm : FnOk Tryz.prog 183 := ⟨_, Tryz.func183, rfl, by kernel_rfl⟩
theorem Ynl : FnOk Tryz.prog 184 := ⟨_, Tryz.func184, rfl, by kernel_rfl⟩
theorem Ykf : FnOk Tryz.prog 212 := ⟨_, Tryz.func212, rfl, by kernel_rfl⟩
theorem Ynh : FnOk Tryz.prog 213 := ⟨_, Tryz.func213, rfl, by kernel_rfl⟩
theorem Yng : FnOk Tryz.prog 214 := ⟨_, Tryz.func214, rfl, by kernel_rfl⟩
theorem Ykd : FnOk Tryz.prog 223 := ⟨_, Tryz.func223, rfl, by kernel_rfl⟩
def Qf9 (p0 : Cell) : Cell := p0
theorem Q6o (p0 : Cell) : CTs 83 [.o (.st Cell _ inferInstance p0)] [Re.st Cell _ inferInstance (Qf9 p0)] := by
 refine en Tryz.func83 Tryz.ntmps83 fun w hG hgd => ?_
 obtain ⟨hg_p0, _⟩ := hgd
 have hM := Qf9.eq_1 p0
 refine ad 28 ?_
 exact rz (rs := [.cell 2 114]) (congrArg (fun x => [Re.st Cell _ inferInstance x]) hM)
def Qdy (p0 : List Cell) : Nat → (List Cell) → Nat → (List Cell)
 | 0, w1, i => w1
 | n + 1, w1, i => Qdy p0 n (w1.set i (Qf9 (nth p0 i))) (i + 1)
def Qfp (p0 : List Cell) : (List Cell) := Qdy p0 (p0.length - 0) (List.replicate p0.length (Cell.mk ⟨#[]⟩ ⟨#[]⟩)) 0
theorem Qmv (p0 : List Cell) (hs : Dat.small 1048576 p0) : CTs 38 [.o (.sl Cell instDatCell p0)] [Re.sl Cell instDatCell (Qfp p0)] := by
 refine en Tryz.func38 Tryz.ntmps38 fun w hG hgd => ?_
 obtain ⟨hg_p0, _⟩ := hgd
 have hl_p0 : p0.length ≤ 9223372036854775807 := hg_p0.1
 have hM := Qfp.eq_1 p0
 have hs0 : p0.length ≤ 1048576 := hs.1
 refine ad 8 ?_
 refine op (ma p0.length (Cell.mk ⟨#[]⟩ ⟨#[]⟩)) ?_
 refine ad 8 ?_
 refine Run.loopM (ι := (List Cell) × Nat) (fun s => Qdy p0 (p0.length - s.2) s.1 s.2) (fun s => ⟨23, 2, [(0, .sl 0 p0.length), (3, .sl 1 s.1.length), (4, .v (.int .i64 (s.2 : Int)))], [(0, .ros Cell instDatCell p0), (1, .own Cell instDatCell s.1)]⟩) (fun s => s.2 ≤ p0.length ∧ s.1.length = p0.length) (fun s => p0.length - s.2) ((List.replicate p0.length (Cell.mk ⟨#[]⟩ ⟨#[]⟩)), 0) [0, 1] [1, 0] hM (by first | exact ⟨by omega, by simp⟩ | omega | simp | (dsimp only; omega)) su (by decide) ?_
 rintro ⟨w1, i⟩ hv hE
 try dsimp only at hE
 obtain ⟨hi, hv0⟩ := hv
 try dsimp only at hi hv0
 refine ad 8 ?_
 refine cd (fun h1 => ?_) (fun h1 => ?_)
 ·
  have h1l : i < p0.length := by have := of_decide_eq_true h1; omega
  have hM := hE.trans ((congrArg (fun n => Qdy p0 n w1 i) (show p0.length - i = (p0.length - (i + 1)) + 1 by omega)).trans (Qdy.eq_2 _ _ _ _))
  refine ad 8 ?_
  have hg3 := Qar (k := i) hg_p0 om
  refine op (ix (xs := p0) i om) ?_
  refine ad 1 ?_
  have hg4 : Dat.good (nth p0 i : Cell) := hg3
  refine og (clg (Q6o (nth p0 i)) Yqh) fun hgq => ?_
  obtain ⟨hg5, _⟩ := hgq
  refine op (oi (xs := w1) i om) ?_
  refine op (se (xs := w1) i (Qf9 (nth p0 i)) hg5 om) ?_
  refine ad 5 ?_
  rw [Qc9 (i := i) (by first | omega | exact om)]
  refine ad 2 ?_
  exact Run.again ((w1.set i (Qf9 (nth p0 i))), (i + 1)) [0, 3] [2, 0] ⟨by first | omega | exact trivial | (dsimp only; omega) | (refine ⟨by omega, ?_⟩; simp_all; try omega), hM⟩ rfl (by show _ - _ < _ - _; (try dsimp only); omega) su (by decide)
 ·
  have h1l : ¬ (i < p0.length) := by have := of_decide_eq_false h1; omega
  have hM := hE.trans ((congrArg (fun n => Qdy p0 n w1 i) (show p0.length - i = 0 by omega)).trans (Qdy.eq_1 _ _ _))
  refine ad 6 ?_
  exact rz (rs := [.tmp 2]) (congrArg (fun x => [Re.sl Cell instDatCell x]) hM)
def Qfg (p0 : Call) : Call := p0
theorem Qo1 (p0 : Call) : CTs 212 [.o (.st Call _ inferInstance p0)] [Re.st Call _ inferInstance (Qfg p0)] := by
 refine en Tryz.func212 Tryz.ntmps212 fun w hG hgd => ?_
 obtain ⟨hg_p0, _⟩ := hgd
 have hM := Qfg.eq_1 p0
 refine ad 56 ?_
 exact rz (rs := [.cell 2 149]) (congrArg (fun x => [Re.st Call _ inferInstance x]) hM)
def Qdz (p0 : List Call) : Nat → (List Call) → Nat → (List Call)
 | 0, w1, i => w1
 | n + 1, w1, i => Qdz p0 n (w1.set i (Qfg (nth p0 i))) (i + 1)
def Qg1 (p0 : List Call) : (List Call) := Qdz p0 (p0.length - 0) (List.replicate p0.length (Call.mk 0 ⟨#[]⟩ ⟨#[]⟩ 0 0 ⟨#[]⟩)) 0
theorem Qzd (p0 : List Call) (hs : Dat.small 1048576 p0) : CTs 152 [.o (.sl Call instDatCall p0)] [Re.sl Call instDatCall (Qg1 p0)] := by
 refine en Tryz.func152 Tryz.ntmps152 fun w hG hgd => ?_
 obtain ⟨hg_p0, _⟩ := hgd
 have hl_p0 : p0.length ≤ 9223372036854775807 := hg_p0.1
 have hM := Qg1.eq_1 p0
 have hs0 : p0.length ≤ 1048576 := hs.1
 refine ad 8 ?_
 refine op (ma p0.length (Call.mk 0 ⟨#[]⟩ ⟨#[]⟩ 0 0 ⟨#[]⟩) (ho := gdz)) ?_
 refine ad 8 ?_
 refine Run.loopM (ι := (List Call) × Nat) (fun s => Qdz p0 (p0.length - s.2) s.1 s.2) (fun s => ⟨23, 2, [(0, .sl 0 p0.length), (3, .sl 1 s.1.length), (4, .v (.int .i64 (s.2 : Int)))], [(0, .ros Call instDatCall p0), (1, .own Call instDatCall s.1)]⟩) (fun s => s.2 ≤ p0.length ∧ s.1.length = p0.length) (fun s => p0.length - s.2) ((List.replicate p0.length (Call.mk 0 ⟨#[]⟩ ⟨#[]⟩ 0 0 ⟨#[]⟩)), 0) [0, 1] [1, 0] hM (by first | exact ⟨by omega, by simp⟩ | omega | simp | (dsimp only; omega)) su (by decide) ?_
 rintro ⟨w1, i⟩ hv hE
 try dsimp only at hE
 obtain ⟨hi, hv0⟩ := hv
 try dsimp only at hi hv0
 refine ad 8 ?_
 refine cd (fun h1 => ?_) (fun h1 => ?_)
 ·
  have h1l : i < p0.length := by have := of_decide_eq_true h1; omega
  have hM := hE.trans ((congrArg (fun n => Qdz p0 n w1 i) (show p0.length - i = (p0.length - (i + 1)) + 1 by omega)).trans (Qdz.eq_2 _ _ _ _))
  refine ad 8 ?_
  have hg3 := Qar (k := i) hg_p0 om
  refine op (ix (xs := p0) i om) ?_
  refine ad 1 ?_
  have hg4 : Dat.good (nth p0 i : Call) := hg3
  refine og (clg (Qo1 (nth p0 i)) Ykf) fun hgq => ?_
  obtain ⟨hg5, _⟩ := hgq
  refine op (oi (xs := w1) i om) ?_
  refine op (se (xs := w1) i (Qfg (nth p0 i)) hg5 om) ?_
  refine ad 5 ?_
  rw [Qc9 (i := i) (by first | omega | exact om)]
  refine ad 2 ?_
  exact Run.again ((w1.set i (Qfg (nth p0 i))), (i + 1)) [0, 3] [2, 0] ⟨by first | omega | exact trivial | (dsimp only; omega) | (refine ⟨by omega, ?_⟩; simp_all; try omega), hM⟩ rfl (by show _ - _ < _ - _; (try dsimp only); omega) su (by decide)
 ·
  have h1l : ¬ (i < p0.length) := by have := of_decide_eq_false h1; omega
  have hM := hE.trans ((congrArg (fun n => Qdz p0 n w1 i) (show p0.length - i = 0 by omega)).trans (Qdz.eq_1 _ _ _))
  refine ad 6 ?_
  exact rz (rs := [.tmp 2]) (congrArg (fun x => [Re.sl Call instDatCall x]) hM)
def Qfc (p0 : Answer) : Answer := p0
theorem Qx0 (p0 : Answer) : CTs 213 [.o (.st Answer _ inferInstance p0)] [Re.st Answer _ inferInstance (Qfc p0)] := by
 refine en Tryz.func213 Tryz.ntmps213 fun w hG hgd => ?_
 obtain ⟨hg_p0, _⟩ := hgd
 have hM := Qfc.eq_1 p0
 refine ad 35 ?_
 exact rz (rs := [.cell 2 154]) (congrArg (fun x => [Re.st Answer _ inferInstance x]) hM)
def Qc2 (p0 : List Answer) : Nat → (List Answer) → Nat → (List Answer)
 | 0, w1, i => w1
 | n + 1, w1, i => Qc2 p0 n (w1.set i (Qfc (nth p0 i))) (i + 1)
def Qe1 (p0 : List Answer) : (List Answer) := Qc2 p0 (p0.length - 0) (List.replicate p0.length (Answer.mk 0 0 ⟨#[]⟩)) 0
theorem Qla (p0 : List Answer) (hs : Dat.small 1048576 p0) : CTs 153 [.o (.sl Answer instDatAnswer p0)] [Re.sl Answer instDatAnswer (Qe1 p0)] := by
 refine en Tryz.func153 Tryz.ntmps153 fun w hG hgd => ?_
 obtain ⟨hg_p0, _⟩ := hgd
 have hl_p0 : p0.length ≤ 9223372036854775807 := hg_p0.1
 have hM := Qe1.eq_1 p0
 have hs0 : p0.length ≤ 1048576 := hs.1
 refine ad 8 ?_
 refine op (ma p0.length (Answer.mk 0 0 ⟨#[]⟩) (ho := gdz)) ?_
 refine ad 8 ?_
 refine Run.loopM (ι := (List Answer) × Nat) (fun s => Qc2 p0 (p0.length - s.2) s.1 s.2) (fun s => ⟨23, 2, [(0, .sl 0 p0.length), (3, .sl 1 s.1.length), (4, .v (.int .i64 (s.2 : Int)))], [(0, .ros Answer instDatAnswer p0), (1, .own Answer instDatAnswer s.1)]⟩) (fun s => s.2 ≤ p0.length ∧ s.1.length = p0.length) (fun s => p0.length - s.2) ((List.replicate p0.length (Answer.mk 0 0 ⟨#[]⟩)), 0) [0, 1] [1, 0] hM (by first | exact ⟨by omega, by simp⟩ | omega | simp | (dsimp only; omega)) su (by decide) ?_
 rintro ⟨w1, i⟩ hv hE
 try dsimp only at hE
 obtain ⟨hi, hv0⟩ := hv
 try dsimp only at hi hv0
 refine ad 8 ?_
 refine cd (fun h1 => ?_) (fun h1 => ?_)
 ·
  have h1l : i < p0.length := by have := of_decide_eq_true h1; omega
  have hM := hE.trans ((congrArg (fun n => Qc2 p0 n w1 i) (show p0.length - i = (p0.length - (i + 1)) + 1 by omega)).trans (Qc2.eq_2 _ _ _ _))
  refine ad 8 ?_
  have hg3 := Qar (k := i) hg_p0 om
  refine op (ix (xs := p0) i om) ?_
  refine ad 1 ?_
  have hg4 : Dat.good (nth p0 i : Answer) := hg3
  refine og (clg (Qx0 (nth p0 i)) Ynh) fun hgq => ?_
  obtain ⟨hg5, _⟩ := hgq
  refine op (oi (xs := w1) i om) ?_
  refine op (se (xs := w1) i (Qfc (nth p0 i)) hg5 om) ?_
  refine ad 5 ?_
  rw [Qc9 (i := i) (by first | omega | exact om)]
  refine ad 2 ?_
  exact Run.again ((w1.set i (Qfc (nth p0 i))), (i + 1)) [0, 3] [2, 0] ⟨by first | omega | exact trivial | (dsimp only; omega) | (refine ⟨by omega, ?_⟩; simp_all; try omega), hM⟩ rfl (by show _ - _ < _ - _; (try dsimp only); omega) su (by decide)
 ·
  have h1l : ¬ (i < p0.length) := by have := of_decide_eq_false h1; omega
  have hM := hE.trans ((congrArg (fun n => Qc2 p0 n w1 i) (show p0.length - i = 0 by omega)).trans (Qc2.eq_1 _ _ _))
  refine ad 6 ?_
  exact rz (rs := [.tmp 2]) (congrArg (fun x => [Re.sl Answer instDatAnswer x]) hM)
def Qc0 (p0 : List ByteArray) : Nat → (List ByteArray) → Nat → (List ByteArray)
 | 0, w1, i => w1
 | n + 1, w1, i => Qc0 p0 n (w1.set i (nth p0 i)) (i + 1)
def Qdr (p0 : List ByteArray) : (List ByteArray) := Qc0 p0 (p0.length - 0) (List.replicate p0.length (⟨#[]⟩ : ByteArray)) 0
theorem Qil (p0 : List ByteArray) (hs : Dat.small 1048576 p0) : CTs 42 [.o (.sl ByteArray instDatByteArray p0)] [Re.sl ByteArray instDatByteArray (Qdr p0)] := by
 refine en Tryz.func42 Tryz.ntmps42 fun w hG hgd => ?_
 obtain ⟨hg_p0, _⟩ := hgd
 have hl_p0 : p0.length ≤ 9223372036854775807 := hg_p0.1
 have hM := Qdr.eq_1 p0
 have hs0 : p0.length ≤ 1048576 := hs.1
 refine ad 8 ?_
 refine op (ma p0.length (⟨#[]⟩ : ByteArray)) ?_
 refine ad 8 ?_
 refine Run.loopM (ι := (List ByteArray) × Nat) (fun s => Qc0 p0 (p0.length - s.2) s.1 s.2) (fun s => ⟨22, 2, [(0, .sl 0 p0.length), (3, .sl 1 s.1.length), (4, .v (.int .i64 (s.2 : Int)))], [(0, .ros ByteArray instDatByteArray p0), (1, .own ByteArray instDatByteArray s.1)]⟩) (fun s => s.2 ≤ p0.length ∧ s.1.length = p0.length) (fun s => p0.length - s.2) ((List.replicate p0.length (⟨#[]⟩ : ByteArray)), 0) [0, 1] [1, 0] hM (by first | exact ⟨by omega, by simp⟩ | omega | simp | (dsimp only; omega)) su (by decide) ?_
 rintro ⟨w1, i⟩ hv hE
 try dsimp only at hE
 obtain ⟨hi, hv0⟩ := hv
 try dsimp only at hi hv0
 refine ad 8 ?_
 refine cd (fun h1 => ?_) (fun h1 => ?_)
 ·
  have h1l : i < p0.length := by have := of_decide_eq_true h1; omega
  have hM := hE.trans ((congrArg (fun n => Qc0 p0 n w1 i) (show p0.length - i = (p0.length - (i + 1)) + 1 by omega)).trans (Qc0.eq_2 _ _ _ _))
  refine ad 8 ?_
  have hg3 := Qar (k := i) hg_p0 om
  refine op (ix (xs := p0) i om) ?_
  refine ad 1 ?_
  refine op (oi (xs := w1) i om) ?_
  refine op (se (xs := w1) i (nth p0 i) hg3 om) ?_
  refine ad 5 ?_
  rw [Qc9 (i := i) (by first | omega | exact om)]
  refine ad 2 ?_
  exact Run.again ((w1.set i (nth p0 i)), (i + 1)) [0, 3] [2, 0] ⟨by first | omega | exact trivial | (dsimp only; omega) | (refine ⟨by omega, ?_⟩; simp_all; try omega), hM⟩ rfl (by show _ - _ < _ - _; (try dsimp only); omega) su (by decide)
 ·
  have h1l : ¬ (i < p0.length) := by have := of_decide_eq_false h1; omega
  have hM := hE.trans ((congrArg (fun n => Qc0 p0 n w1 i) (show p0.length - i = 0 by omega)).trans (Qc0.eq_1 _ _ _))
  refine ad 6 ?_
  exact rz (rs := [.tmp 2]) (congrArg (fun x => [Re.sl ByteArray instDatByteArray x]) hM)
def Qgy (p0 : Touch) : Touch := (Touch.mk (Qdr p0.Reads) (Qdr p0.Writes))
theorem Qy9 (p0 : Touch) (hs : Dat.small 1048576 p0) : CTs 154 [.o (.st Touch _ inferInstance p0)] [Re.st Touch _ inferInstance (Qgy p0)] := by
 refine en Tryz.func154 Tryz.ntmps154 fun w hG hgd => ?_
 obtain ⟨hg_p0, _⟩ := hgd
 have hM := Qgy.eq_1 p0
 have hs0 : Dat.small 1048576 p0.Reads := hs.1
 have hs1 : Dat.small 1048576 p0.Writes := hs.2
 refine ad 13 ?_
 refine og (clg (Qil p0.Reads (by first | assumption | exact Qct hs (by omega))) Yls) fun hgq => ?_
 obtain ⟨hg1, _⟩ := hgq
 refine ad 7 ?_
 refine og (clg (Qil p0.Writes (by first | assumption | exact Qct hs (by omega))) Yls) fun hgq => ?_
 obtain ⟨hg2, _⟩ := hgq
 refine ad 8 ?_
 have hg3 : Dat.good (Touch.mk (Qdr p0.Reads) (Qdr p0.Writes) : Touch) := ⟨hg1, hg2⟩
 exact rz (rs := [.cell 2 117]) (congrArg (fun x => [Re.st Touch _ inferInstance x]) hM)
def Qel (p0 : List Int) : Nat → (List Int) → Nat → (List Int)
 | 0, w1, i => w1
 | n + 1, w1, i => Qel p0 n (w1.set i (nth p0 i)) (i + 1)
def Qhu (p0 : List Int) : (List Int) := Qel p0 (p0.length - 0) (List.replicate p0.length (0 : Int)) 0
theorem Q6m (p0 : List Int) (hs : Dat.small 1048576 p0) : CTs 155 [.o (.sl Int instDatInt p0)] [Re.sl Int instDatInt (Qhu p0)] := by
 refine en Tryz.func155 Tryz.ntmps155 fun w hG hgd => ?_
 obtain ⟨hg_p0, _⟩ := hgd
 have hl_p0 : p0.length ≤ 9223372036854775807 := hg_p0.1
 have hM := Qhu.eq_1 p0
 have hs0 : p0.length ≤ 1048576 := hs.1
 refine ad 8 ?_
 refine op (ma p0.length (0 : Int)) ?_
 refine ad 8 ?_
 refine Run.loopM (ι := (List Int) × Nat) (fun s => Qel p0 (p0.length - s.2) s.1 s.2) (fun s => ⟨22, 2, [(0, .sl 0 p0.length), (3, .sl 1 s.1.length), (4, .v (.int .i64 (s.2 : Int)))], [(0, .ros Int instDatInt p0), (1, .own Int instDatInt s.1)]⟩) (fun s => s.2 ≤ p0.length ∧ s.1.length = p0.length) (fun s => p0.length - s.2) ((List.replicate p0.length (0 : Int)), 0) [0, 1] [1, 0] hM (by first | exact ⟨by omega, by simp⟩ | omega | simp | (dsimp only; omega)) su (by decide) ?_
 rintro ⟨w1, i⟩ hv hE
 try dsimp only at hE
 obtain ⟨hi, hv0⟩ := hv
 try dsimp only at hi hv0
 refine ad 8 ?_
 refine cd (fun h1 => ?_) (fun h1 => ?_)
 ·
  have h1l : i < p0.length := by have := of_decide_eq_true h1; omega
  have hM := hE.trans ((congrArg (fun n => Qel p0 n w1 i) (show p0.length - i = (p0.length - (i + 1)) + 1 by omega)).trans (Qel.eq_2 _ _ _ _))
  refine ad 8 ?_
  have hg3 := Qar (k := i) hg_p0 om
  refine op (ix (xs := p0) i om) ?_
  refine ad 1 ?_
  refine op (oi (xs := w1) i om) ?_
  refine op (se (xs := w1) i (nth p0 i) hg3 om) ?_
  refine ad 5 ?_
  rw [Qc9 (i := i) (by first | omega | exact om)]
  refine ad 2 ?_
  exact Run.again ((w1.set i (nth p0 i)), (i + 1)) [0, 3] [2, 0] ⟨by first | omega | exact trivial | (dsimp only; omega) | (refine ⟨by omega, ?_⟩; simp_all; try omega), hM⟩ rfl (by show _ - _ < _ - _; (try dsimp only); omega) su (by decide)
 ·
  have h1l : ¬ (i < p0.length) := by have := of_decide_eq_false h1; omega
  have hM := hE.trans ((congrArg (fun n => Qel p0 n w1 i) (show p0.length - i = 0 by omega)).trans (Qel.eq_1 _ _ _))
  refine ad 6 ?_
  exact rz (rs := [.tmp 2]) (congrArg (fun x => [Re.sl Int instDatInt x]) hM)
def Qh6 (p0 : Tx) : Tx := (Tx.mk p0.Id p0.Age p0.Proc p0.Began (Qg1 p0.Calls) (Qe1 p0.Answers) (Qgy p0.Touch) (Qhu p0.Marks) p0.State)
theorem Ybw (p0 : Tx) (hs : Dat.small 1048576 p0) : CTs 84 [.o (.st Tx _ inferInstance p0)] [Re.st Tx _ inferInstance (Qh6 p0)] := by
 refine en Tryz.func84 Tryz.ntmps84 fun w hG hgd => ?_
 obtain ⟨hg_p0, _⟩ := hgd
 have hM := Qh6.eq_1 p0
 have hs4 : Dat.small 1048576 p0.Calls := hs.2.2.2.2.1
 have hs5 : Dat.small 1048576 p0.Answers := hs.2.2.2.2.2.1
 have hs6 : Dat.small 1048576 p0.Touch := hs.2.2.2.2.2.2.1
 have hs7 : Dat.small 1048576 p0.Marks := hs.2.2.2.2.2.2.2.1
 refine ad 41 ?_
 refine og (clg (Qzd p0.Calls (by first | assumption | exact Qct hs (by omega))) Yn5) fun hgq => ?_
 obtain ⟨hg1, _⟩ := hgq
 refine ad 7 ?_
 refine og (clg (Qla p0.Answers (by first | assumption | exact Qct hs (by omega))) Ykn) fun hgq => ?_
 obtain ⟨hg2, _⟩ := hgq
 refine ad 7 ?_
 have hg3 : Dat.good (p0.Touch : Touch) := hg_p0.2.2.2.2.2.2.1
 refine og (clg (Qy9 p0.Touch (by first | assumption | exact Qct hs (by omega))) Yn4) fun hgq => ?_
 obtain ⟨hg4, _⟩ := hgq
 refine ad 7 ?_
 refine og (clg (Q6m p0.Marks (by first | assumption | exact Qct hs (by omega))) Yn3) fun hgq => ?_
 obtain ⟨hg5, _⟩ := hgq
 refine ad 15 ?_
 have hg6 : Dat.good (Tx.mk p0.Id p0.Age p0.Proc p0.Began (Qg1 p0.Calls) (Qe1 p0.Answers) (Qgy p0.Touch) (Qhu p0.Marks) p0.State : Tx) := ⟨hg_p0.1, hg_p0.2.1, hg_p0.2.2.1, hg_p0.2.2.2.1, hg1, hg2, hg4, hg5, hg_p0.2.2.2.2.2.2.2.2⟩
 exact rz (rs := [.cell 2 119]) (congrArg (fun x => [Re.st Tx _ inferInstance x]) hM)
def Qev (p0 : List Tx) : Nat → (List Tx) → Nat → (List Tx)
 | 0, w1, i => w1
 | n + 1, w1, i => Qev p0 n (w1.set i (Qh6 (nth p0 i))) (i + 1)
def Qiy (p0 : List Tx) : (List Tx) := Qev p0 (p0.length - 0) (List.replicate p0.length (Tx.mk 0 0 0 0 [] [] (Touch.mk [] []) [] 0)) 0
theorem Yas (p0 : List Tx) (hs : Dat.small 1048576 p0) : CTs 39 [.o (.sl Tx instDatTx p0)] [Re.sl Tx instDatTx (Qiy p0)] := by
 refine en Tryz.func39 Tryz.ntmps39 fun w hG hgd => ?_
 obtain ⟨hg_p0, _⟩ := hgd
 have hl_p0 : p0.length ≤ 9223372036854775807 := hg_p0.1
 have hM := Qiy.eq_1 p0
 have hs0 : p0.length ≤ 1048576 := hs.1
 refine ad 8 ?_
 refine op (ma p0.length (Tx.mk 0 0 0 0 [] [] (Touch.mk [] []) [] 0) (ho := gdz)) ?_
 refine ad 8 ?_
 refine Run.loopM (ι := (List Tx) × Nat) (fun s => Qev p0 (p0.length - s.2) s.1 s.2) (fun s => ⟨23, 2, [(0, .sl 0 p0.length), (3, .sl 1 s.1.length), (4, .v (.int .i64 (s.2 : Int)))], [(0, .ros Tx instDatTx p0), (1, .own Tx instDatTx s.1)]⟩) (fun s => s.2 ≤ p0.length ∧ s.1.length = p0.length) (fun s => p0.length - s.2) ((List.replicate p0.length (Tx.mk 0 0 0 0 [] [] (Touch.mk [] []) [] 0)), 0) [0, 1] [1, 0] hM (by first | exact ⟨by omega, by simp⟩ | omega | simp | (dsimp only; omega)) su (by decide) ?_
 rintro ⟨w1, i⟩ hv hE
 try dsimp only at hE
 obtain ⟨hi, hv0⟩ := hv
 try dsimp only at hi hv0
 refine ad 8 ?_
 refine cd (fun h1 => ?_) (fun h1 => ?_)
 ·
  have h1l : i < p0.length := by have := of_decide_eq_true h1; omega
  have hM := hE.trans ((congrArg (fun n => Qev p0 n w1 i) (show p0.length - i = (p0.length - (i + 1)) + 1 by omega)).trans (Qev.eq_2 _ _ _ _))
  refine ad 8 ?_
  have hg3 := Qar (k := i) hg_p0 om
  refine op (ix (xs := p0) i om) ?_
  refine ad 1 ?_
  have hg4 : Dat.good (nth p0 i : Tx) := hg3
  refine og (clg (Ybw (nth p0 i) (by first | assumption | exact Qct hs (by omega))) Yqg) fun hgq => ?_
  obtain ⟨hg5, _⟩ := hgq
  refine op (oi (xs := w1) i om) ?_
  refine op (se (xs := w1) i (Qh6 (nth p0 i)) hg5 om) ?_
  refine ad 5 ?_
  rw [Qc9 (i := i) (by first | omega | exact om)]
  refine ad 2 ?_
  exact Run.again ((w1.set i (Qh6 (nth p0 i))), (i + 1)) [0, 13] [7, 0] ⟨by first | omega | exact trivial | (dsimp only; omega) | (refine ⟨by omega, ?_⟩; simp_all; try omega), hM⟩ rfl (by show _ - _ < _ - _; (try dsimp only); omega) su (by decide)
 ·
  have h1l : ¬ (i < p0.length) := by have := of_decide_eq_false h1; omega
  have hM := hE.trans ((congrArg (fun n => Qev p0 n w1 i) (show p0.length - i = 0 by omega)).trans (Qev.eq_1 _ _ _))
  refine ad 6 ?_
  exact rz (rs := [.tmp 2]) (congrArg (fun x => [Re.sl Tx instDatTx x]) hM)
def Qf8 (p0 : Slot) : Slot := (Slot.mk p0.Seq (Qfp p0.Cells) p0.Whole)
theorem Q6l (p0 : Slot) (hs : Dat.small 1048576 p0) : CTs 156 [.o (.st Slot _ inferInstance p0)] [Re.st Slot _ inferInstance (Qf8 p0)] := by
 refine en Tryz.func156 Tryz.ntmps156 fun w hG hgd => ?_
 obtain ⟨hg_p0, _⟩ := hgd
 have hM := Qf8.eq_1 p0
 have hs1 : Dat.small 1048576 p0.Cells := hs.2.1
 refine ad 20 ?_
 refine og (clg (Qmv p0.Cells (by first | assumption | exact Qct hs (by omega))) Ymy) fun hgq => ?_
 obtain ⟨hg1, _⟩ := hgq
 refine ad 15 ?_
 have hg2 : Dat.good (Slot.mk p0.Seq (Qfp p0.Cells) p0.Whole : Slot) := ⟨hg_p0.1, hg1, hg_p0.2.2⟩
 exact rz (rs := [.cell 2 108]) (congrArg (fun x => [Re.st Slot _ inferInstance x]) hM)
def Qdx (p0 : List Slot) : Nat → (List Slot) → Nat → (List Slot)
 | 0, w1, i => w1
 | n + 1, w1, i => Qdx p0 n (w1.set i (Qf8 (nth p0 i))) (i + 1)
def Qg0 (p0 : List Slot) : (List Slot) := Qdx p0 (p0.length - 0) (List.replicate p0.length (Slot.mk 0 [] false)) 0
theorem Qzb (p0 : List Slot) (hs : Dat.small 1048576 p0) : CTs 85 [.o (.sl Slot instDatSlot p0)] [Re.sl Slot instDatSlot (Qg0 p0)] := by
 refine en Tryz.func85 Tryz.ntmps85 fun w hG hgd => ?_
 obtain ⟨hg_p0, _⟩ := hgd
 have hl_p0 : p0.length ≤ 9223372036854775807 := hg_p0.1
 have hM := Qg0.eq_1 p0
 have hs0 : p0.length ≤ 1048576 := hs.1
 refine ad 8 ?_
 refine op (ma p0.length (Slot.mk 0 [] false) (ho := gdz)) ?_
 refine ad 8 ?_
 refine Run.loopM (ι := (List Slot) × Nat) (fun s => Qdx p0 (p0.length - s.2) s.1 s.2) (fun s => ⟨23, 2, [(0, .sl 0 p0.length), (3, .sl 1 s.1.length), (4, .v (.int .i64 (s.2 : Int)))], [(0, .ros Slot instDatSlot p0), (1, .own Slot instDatSlot s.1)]⟩) (fun s => s.2 ≤ p0.length ∧ s.1.length = p0.length) (fun s => p0.length - s.2) ((List.replicate p0.length (Slot.mk 0 [] false)), 0) [0, 1] [1, 0] hM (by first | exact ⟨by omega, by simp⟩ | omega | simp | (dsimp only; omega)) su (by decide) ?_
 rintro ⟨w1, i⟩ hv hE
 try dsimp only at hE
 obtain ⟨hi, hv0⟩ := hv
 try dsimp only at hi hv0
 refine ad 8 ?_
 refine cd (fun h1 => ?_) (fun h1 => ?_)
 ·
  have h1l : i < p0.length := by have := of_decide_eq_true h1; omega
  have hM := hE.trans ((congrArg (fun n => Qdx p0 n w1 i) (show p0.length - i = (p0.length - (i + 1)) + 1 by omega)).trans (Qdx.eq_2 _ _ _ _))
  refine ad 8 ?_
  have hg3 := Qar (k := i) hg_p0 om
  refine op (ix (xs := p0) i om) ?_
  refine ad 1 ?_
  have hg4 : Dat.good (nth p0 i : Slot) := hg3
  refine og (clg (Q6l (nth p0 i) (by first | assumption | exact Qct hs (by omega))) Yn2) fun hgq => ?_
  obtain ⟨hg5, _⟩ := hgq
  refine op (oi (xs := w1) i om) ?_
  refine op (se (xs := w1) i (Qf8 (nth p0 i)) hg5 om) ?_
  refine ad 5 ?_
  rw [Qc9 (i := i) (by first | omega | exact om)]
  refine ad 2 ?_
  exact Run.again ((w1.set i (Qf8 (nth p0 i))), (i + 1)) [0, 5] [3, 0] ⟨by first | omega | exact trivial | (dsimp only; omega) | (refine ⟨by omega, ?_⟩; simp_all; try omega), hM⟩ rfl (by show _ - _ < _ - _; (try dsimp only); omega) su (by decide)
 ·
  have h1l : ¬ (i < p0.length) := by have := of_decide_eq_false h1; omega
  have hM := hE.trans ((congrArg (fun n => Qdx p0 n w1 i) (show p0.length - i = 0 by omega)).trans (Qdx.eq_1 _ _ _))
  refine ad 6 ?_
  exact rz (rs := [.tmp 2]) (congrArg (fun x => [Re.sl Slot instDatSlot x]) hM)
def Qf0 (p0 : Journal) : Journal := p0
theorem Qwc (p0 : Journal) : CTs 86 [.o (.st Journal _ inferInstance p0)] [Re.st Journal _ inferInstance (Qf0 p0)] := by
 refine en Tryz.func86 Tryz.ntmps86 fun w hG hgd => ?_
 obtain ⟨hg_p0, _⟩ := hgd
 have hM := Qf0.eq_1 p0
 refine ad 28 ?_
 exact rz (rs := [.cell 2 38]) (congrArg (fun x => [Re.st Journal _ inferInstance x]) hM)
def Qhv (p0 : Disk) : Disk := (Disk.mk (Qg0 p0.Slots) (Qf0 p0.Journal))
theorem Q6n (p0 : Disk) (hs : Dat.small 1048576 p0) : CTs 40 [.o (.st Disk _ inferInstance p0)] [Re.st Disk _ inferInstance (Qhv p0)] := by
 refine en Tryz.func40 Tryz.ntmps40 fun w hG hgd => ?_
 obtain ⟨hg_p0, _⟩ := hgd
 have hM := Qhv.eq_1 p0
 have hs0 : Dat.small 1048576 p0.Slots := hs.1
 have hs1 : Dat.small 1048576 p0.Journal := hs.2
 refine ad 13 ?_
 refine og (clg (Qzb p0.Slots (by first | assumption | exact Qct hs (by omega))) Yqf) fun hgq => ?_
 obtain ⟨hg1, _⟩ := hgq
 refine ad 7 ?_
 have hg2 : Dat.good (p0.Journal : Journal) := hg_p0.2
 refine og (clg (Qwc p0.Journal) Yqe) fun hgq => ?_
 obtain ⟨hg3, _⟩ := hgq
 refine ad 8 ?_
 have hg4 : Dat.good (Disk.mk (Qg0 p0.Slots) (Qf0 p0.Journal) : Disk) := ⟨hg1, hg3⟩
 exact rz (rs := [.cell 2 40]) (congrArg (fun x => [Re.st Disk _ inferInstance x]) hM)
def Qf7 (p0 : Step) : Step := (Step.mk p0.Proc (Qfg p0.Call))
theorem Q6k (p0 : Step) : CTs 214 [.o (.st Step _ inferInstance p0)] [Re.st Step _ inferInstance (Qf7 p0)] := by
 refine en Tryz.func214 Tryz.ntmps214 fun w hG hgd => ?_
 obtain ⟨hg_p0, _⟩ := hgd
 have hM := Qf7.eq_1 p0
 refine ad 20 ?_
 have hg1 : Dat.good (p0.Call : Call) := hg_p0.2
 refine og (clg (Qo1 p0.Call) Ykf) fun hgq => ?_
 obtain ⟨hg2, _⟩ := hgq
 refine ad 8 ?_
 have hg3 : Dat.good (Step.mk p0.Proc (Qfg p0.Call) : Step) := ⟨hg_p0.1, hg2⟩
 exact rz (rs := [.cell 2 151]) (congrArg (fun x => [Re.st Step _ inferInstance x]) hM)
def Qdw (p0 : List Step) : Nat → (List Step) → Nat → (List Step)
 | 0, w1, i => w1
 | n + 1, w1, i => Qdw p0 n (w1.set i (Qf7 (nth p0 i))) (i + 1)
def Qgz (p0 : List Step) : (List Step) := Qdw p0 (p0.length - 0) (List.replicate p0.length (Step.mk 0 (Call.mk 0 ⟨#[]⟩ ⟨#[]⟩ 0 0 ⟨#[]⟩))) 0
theorem Qza (p0 : List Step) (hs : Dat.small 1048576 p0) : CTs 157 [.o (.sl Step instDatStep p0)] [Re.sl Step instDatStep (Qgz p0)] := by
 refine en Tryz.func157 Tryz.ntmps157 fun w hG hgd => ?_
 obtain ⟨hg_p0, _⟩ := hgd
 have hl_p0 : p0.length ≤ 9223372036854775807 := hg_p0.1
 have hM := Qgz.eq_1 p0
 have hs0 : p0.length ≤ 1048576 := hs.1
 refine ad 8 ?_
 refine op (ma p0.length (Step.mk 0 (Call.mk 0 ⟨#[]⟩ ⟨#[]⟩ 0 0 ⟨#[]⟩)) (ho := gdz)) ?_
 refine ad 8 ?_
 refine Run.loopM (ι := (List Step) × Nat) (fun s => Qdw p0 (p0.length - s.2) s.1 s.2) (fun s => ⟨23, 2, [(0, .sl 0 p0.length), (3, .sl 1 s.1.length), (4, .v (.int .i64 (s.2 : Int)))], [(0, .ros Step instDatStep p0), (1, .own Step instDatStep s.1)]⟩) (fun s => s.2 ≤ p0.length ∧ s.1.length = p0.length) (fun s => p0.length - s.2) ((List.replicate p0.length (Step.mk 0 (Call.mk 0 ⟨#[]⟩ ⟨#[]⟩ 0 0 ⟨#[]⟩))), 0) [0, 1] [1, 0] hM (by first | exact ⟨by omega, by simp⟩ | omega | simp | (dsimp only; omega)) su (by decide) ?_
 rintro ⟨w1, i⟩ hv hE
 try dsimp only at hE
 obtain ⟨hi, hv0⟩ := hv
 try dsimp only at hi hv0
 refine ad 8 ?_
 refine cd (fun h1 => ?_) (fun h1 => ?_)
 ·
  have h1l : i < p0.length := by have := of_decide_eq_true h1; omega
  have hM := hE.trans ((congrArg (fun n => Qdw p0 n w1 i) (show p0.length - i = (p0.length - (i + 1)) + 1 by omega)).trans (Qdw.eq_2 _ _ _ _))
  refine ad 8 ?_
  have hg3 := Qar (k := i) hg_p0 om
  refine op (ix (xs := p0) i om) ?_
  refine ad 1 ?_
  have hg4 : Dat.good (nth p0 i : Step) := hg3
  refine og (clg (Q6k (nth p0 i)) Yng) fun hgq => ?_
  obtain ⟨hg5, _⟩ := hgq
  refine op (oi (xs := w1) i om) ?_
  refine op (se (xs := w1) i (Qf7 (nth p0 i)) hg5 om) ?_
  refine ad 5 ?_
  rw [Qc9 (i := i) (by first | omega | exact om)]
  refine ad 2 ?_
  exact Run.again ((w1.set i (Qf7 (nth p0 i))), (i + 1)) [0, 3] [2, 0] ⟨by first | omega | exact trivial | (dsimp only; omega) | (refine ⟨by omega, ?_⟩; simp_all; try omega), hM⟩ rfl (by show _ - _ < _ - _; (try dsimp only); omega) su (by decide)
 ·
  have h1l : ¬ (i < p0.length) := by have := of_decide_eq_false h1; omega
  have hM := hE.trans ((congrArg (fun n => Qdw p0 n w1 i) (show p0.length - i = 0 by omega)).trans (Qdw.eq_1 _ _ _))
  refine ad 6 ?_
  exact rz (rs := [.tmp 2]) (congrArg (fun x => [Re.sl Step instDatStep x]) hM)
def Qfo (p0 : Entry) : Entry := (Entry.mk p0.Seq p0.Kind p0.Tx (Qgz p0.Steps) (Qe1 p0.Answers) p0.Began p0.Ended p0.Laid)
theorem Qzc (p0 : Entry) (hs : Dat.small 1048576 p0) : CTs 87 [.o (.st Entry _ inferInstance p0)] [Re.st Entry _ inferInstance (Qfo p0)] := by
 refine en Tryz.func87 Tryz.ntmps87 fun w hG hgd => ?_
 obtain ⟨hg_p0, _⟩ := hgd
 have hM := Qfo.eq_1 p0
 have hs3 : Dat.small 1048576 p0.Steps := hs.2.2.2.1
 have hs4 : Dat.small 1048576 p0.Answers := hs.2.2.2.2.1
 refine ad 34 ?_
 refine og (clg (Qza p0.Steps (by first | assumption | exact Qct hs (by omega))) Yn1) fun hgq => ?_
 obtain ⟨hg1, _⟩ := hgq
 refine ad 7 ?_
 refine og (clg (Qla p0.Answers (by first | assumption | exact Qct hs (by omega))) Ykn) fun hgq => ?_
 obtain ⟨hg2, _⟩ := hgq
 refine ad 29 ?_
 have hg3 : Dat.good (Entry.mk p0.Seq p0.Kind p0.Tx (Qgz p0.Steps) (Qe1 p0.Answers) p0.Began p0.Ended p0.Laid : Entry) := ⟨hg_p0.1, hg_p0.2.1, hg_p0.2.2.1, hg1, hg2, hg_p0.2.2.2.2.2.1, hg_p0.2.2.2.2.2.2.1, hg_p0.2.2.2.2.2.2.2⟩
 exact rz (rs := [.cell 2 80]) (congrArg (fun x => [Re.st Entry _ inferInstance x]) hM)
def Qdf (p0 : List Entry) : Nat → (List Entry) → Nat → (List Entry)
 | 0, w1, i => w1
 | n + 1, w1, i => Qdf p0 n (w1.set i (Qfo (nth p0 i))) (i + 1)
def Qgh (p0 : List Entry) : (List Entry) := Qdf p0 (p0.length - 0) (List.replicate p0.length (Entry.mk 0 0 0 [] [] 0 0 false)) 0
theorem Qxz (p0 : List Entry) (hs : Dat.small 1048576 p0) : CTs 41 [.o (.sl Entry instDatEntry p0)] [Re.sl Entry instDatEntry (Qgh p0)] := by
 refine en Tryz.func41 Tryz.ntmps41 fun w hG hgd => ?_
 obtain ⟨hg_p0, _⟩ := hgd
 have hl_p0 : p0.length ≤ 9223372036854775807 := hg_p0.1
 have hM := Qgh.eq_1 p0
 have hs0 : p0.length ≤ 1048576 := hs.1
 refine ad 8 ?_
 refine op (ma p0.length (Entry.mk 0 0 0 [] [] 0 0 false) (ho := gdz)) ?_
 refine ad 8 ?_
 refine Run.loopM (ι := (List Entry) × Nat) (fun s => Qdf p0 (p0.length - s.2) s.1 s.2) (fun s => ⟨23, 2, [(0, .sl 0 p0.length), (3, .sl 1 s.1.length), (4, .v (.int .i64 (s.2 : Int)))], [(0, .ros Entry instDatEntry p0), (1, .own Entry instDatEntry s.1)]⟩) (fun s => s.2 ≤ p0.length ∧ s.1.length = p0.length) (fun s => p0.length - s.2) ((List.replicate p0.length (Entry.mk 0 0 0 [] [] 0 0 false)), 0) [0, 1] [1, 0] hM (by first | exact ⟨by omega, by simp⟩ | omega | simp | (dsimp only; omega)) su (by decide) ?_
 rintro ⟨w1, i⟩ hv hE
 try dsimp only at hE
 obtain ⟨hi, hv0⟩ := hv
 try dsimp only at hi hv0
 refine ad 8 ?_
 refine cd (fun h1 => ?_) (fun h1 => ?_)
 ·
  have h1l : i < p0.length := by have := of_decide_eq_true h1; omega
  have hM := hE.trans ((congrArg (fun n => Qdf p0 n w1 i) (show p0.length - i = (p0.length - (i + 1)) + 1 by omega)).trans (Qdf.eq_2 _ _ _ _))
  refine ad 8 ?_
  have hg3 := Qar (k := i) hg_p0 om
  refine op (ix (xs := p0) i om) ?_
  refine ad 1 ?_
  have hg4 : Dat.good (nth p0 i : Entry) := hg3
  refine og (clg (Qzc (nth p0 i) (by first | assumption | exact Qct hs (by omega))) Yqd) fun hgq => ?_
  obtain ⟨hg5, _⟩ := hgq
  refine op (oi (xs := w1) i om) ?_
  refine op (se (xs := w1) i (Qfo (nth p0 i)) hg5 om) ?_
  refine ad 5 ?_
  rw [Qc9 (i := i) (by first | omega | exact om)]
  refine ad 2 ?_
  exact Run.again ((w1.set i (Qfo (nth p0 i))), (i + 1)) [0, 7] [4, 0] ⟨by first | omega | exact trivial | (dsimp only; omega) | (refine ⟨by omega, ?_⟩; simp_all; try omega), hM⟩ rfl (by show _ - _ < _ - _; (try dsimp only); omega) su (by decide)
 ·
  have h1l : ¬ (i < p0.length) := by have := of_decide_eq_false h1; omega
  have hM := hE.trans ((congrArg (fun n => Qdf p0 n w1 i) (show p0.length - i = 0 by omega)).trans (Qdf.eq_1 _ _ _))
  refine ad 6 ?_
  exact rz (rs := [.tmp 2]) (congrArg (fun x => [Re.sl Entry instDatEntry x]) hM)
def Qc1 (p0 : Kernel) : Kernel := (Kernel.mk (Qfp p0.Store) (Qiy p0.Txs) (Qhv p0.Disk) p0.Seq p0.Next p0.Time (Qgh p0.History) (Qdr p0.Seen) p0.Room)
theorem Qjh (p0 : Kernel) (hs : Dat.small 1048576 p0) : CTs 11 [.o (.st Kernel _ inferInstance p0)] [Re.st Kernel _ inferInstance (Qc1 p0)] := by
 refine en Tryz.func11 Tryz.ntmps11 fun w hG hgd => ?_
 obtain ⟨hg_p0, _⟩ := hgd
 have hM := Qc1.eq_1 p0
 have hs0 : Dat.small 1048576 p0.Store := hs.1
 have hs1 : Dat.small 1048576 p0.Txs := hs.2.1
 have hs2 : Dat.small 1048576 p0.Disk := hs.2.2.1
 have hs6 : Dat.small 1048576 p0.History := hs.2.2.2.2.2.2.1
 have hs7 : Dat.small 1048576 p0.Seen := hs.2.2.2.2.2.2.2.1
 refine ad 13 ?_
 refine og (clg (Qmv p0.Store (by first | assumption | exact Qct hs (by omega))) Ymy) fun hgq => ?_
 obtain ⟨hg1, _⟩ := hgq
 refine ad 7 ?_
 refine og (clg (Yas p0.Txs (by first | assumption | exact Qct hs (by omega))) Yq1) fun hgq => ?_
 obtain ⟨hg2, _⟩ := hgq
 refine ad 7 ?_
 have hg3 : Dat.good (p0.Disk : Disk) := hg_p0.2.2.1
 refine og (clg (Q6n p0.Disk (by first | assumption | exact Qct hs (by omega))) Yq0) fun hgq => ?_
 obtain ⟨hg4, _⟩ := hgq
 refine ad 28 ?_
 refine og (clg (Qxz p0.History (by first | assumption | exact Qct hs (by omega))) Yqz) fun hgq => ?_
 obtain ⟨hg5, _⟩ := hgq
 refine ad 7 ?_
 refine og (clg (Qil p0.Seen (by first | assumption | exact Qct hs (by omega))) Yls) fun hgq => ?_
 obtain ⟨hg6, _⟩ := hgq
 refine ad 15 ?_
 have hg7 : Dat.good (Kernel.mk (Qfp p0.Store) (Qiy p0.Txs) (Qhv p0.Disk) p0.Seq p0.Next p0.Time (Qgh p0.History) (Qdr p0.Seen) p0.Room : Kernel) := ⟨hg1, hg2, hg4, hg_p0.2.2.2.1, hg_p0.2.2.2.2.1, hg_p0.2.2.2.2.2.1, hg5, hg6, hg_p0.2.2.2.2.2.2.2.2⟩
 exact rz (rs := [.cell 2 43]) (congrArg (fun x => [Re.st Kernel _ inferInstance x]) hM)
def Qhy (p0 : Cell) (p1 : Cell) : Bool := bif !decide (p0.Key = p1.Key) then false else (bif !decide (p0.Val = p1.Val) then false else true)
theorem Q6y (p0 : Cell) (p1 : Cell) : CTs 94 [.o (.st Cell _ inferInstance p0), .o (.st Cell _ inferInstance p1)] [Re.c (.bool (Qhy p0 p1))] := by
 refine en Tryz.func94 Tryz.ntmps94 fun w hG hgd => ?_
 obtain ⟨hg_p0, hg_p1, _⟩ := hgd
 have hM := Qhy.eq_1 p0 p1
 refine ad 15 ?_
 refine cd (fun h1 => ?_) (fun h1 => ?_)
 ·
  have hM := hM.trans (bt h1)
  refine ad 4 ?_
  exact rz (rs := [.tmp 4]) (congrArg (fun x => [Re.c (.bool x)]) hM)
 ·
  have hM := hM.trans (bf h1)
  refine ad 10 ?_
  refine cd (fun h2 => ?_) (fun h2 => ?_)
  ·
   have hM := hM.trans (bt h2)
   refine ad 4 ?_
   exact rz (rs := [.tmp 4]) (congrArg (fun x => [Re.c (.bool x)]) hM)
  ·
   have hM := hM.trans (bf h2)
   refine ad 5 ?_
   exact rz (rs := [.tmp 4]) (congrArg (fun x => [Re.c (.bool x)]) hM)
def Qd8 (p0 : List Cell) (p1 : List Cell) : Nat → Nat → Bool
 | 0, i => true
 | n + 1, i => bif !(Qhy (nth p0 i) (nth p1 i)) then false else (Qd8 p0 p1 n (i + 1))
def Qg3 (p0 : List Cell) (p1 : List Cell) : Bool := bif !decide ((p0.length : Int) = (p1.length : Int)) then false else (Qd8 p0 p1 (p0.length - 0) 0)
theorem Qmx (p0 : List Cell) (p1 : List Cell) : CTs 45 [.o (.sl Cell instDatCell p0), .o (.sl Cell instDatCell p1)] [Re.c (.bool (Qg3 p0 p1))] := by
 refine en Tryz.func45 Tryz.ntmps45 fun w hG hgd => ?_
 obtain ⟨hg_p0, hg_p1, _⟩ := hgd
 have hl_p0 : p0.length ≤ 9223372036854775807 := hg_p0.1
 have hl_p1 : p1.length ≤ 9223372036854775807 := hg_p1.1
 have hM := Qg3.eq_1 p0 p1
 refine ad 13 ?_
 refine cd (fun h1 => ?_) (fun h1 => ?_)
 ·
  have hM := hM.trans (bt h1)
  refine ad 4 ?_
  exact rz (rs := [.tmp 4]) (congrArg (fun x => [Re.c (.bool x)]) hM)
 ·
  have hM := hM.trans (bf h1)
  refine ad 7 ?_
  refine Run.loopM (ι := Nat) (fun s => Qd8 p0 p1 (p0.length - s) s) (fun s => ⟨27, 2, [(0, .sl 0 p0.length), (1, .sl 1 p1.length), (5, .v (.int .i64 (s : Int)))], [(0, .ros Cell instDatCell p0), (1, .ros Cell instDatCell p1)]⟩) (fun s => s ≤ p0.length) (fun s => p0.length - s) 0 [0, 1] [0, 1] hM (by first | exact ⟨by omega, by simp⟩ | omega | simp | (dsimp only; omega)) su (by decide) ?_
  rintro i hv hE
  try dsimp only at hE
  have hi := hv
  try dsimp only at hi
  refine ad 8 ?_
  refine cd (fun h2 => ?_) (fun h2 => ?_)
  ·
   have h2l : i < p0.length := by have := of_decide_eq_true h2; omega
   have hM := hE.trans ((congrArg (fun n => Qd8 p0 p1 n i) (show p0.length - i = (p0.length - (i + 1)) + 1 by omega)).trans (Qd8.eq_2 _ _ _ _))
   refine ad 4 ?_
   refine dr 10 fun _ _ _ _ _ hb => ?_
   refine tk [0, 1] ?_
   have hg3 := Qar (k := i) hg_p0 om
   refine tx 2 (dx (xs := p0) i om) ?_
   refine tk [3, 4, 5] ?_
   have hg4 := Qar (k := i) hg_p1 om
   refine tx 6 (dx (xs := p1) i om) ?_
   refine tk [7] ?_
   have hg5 : Dat.good (nth p0 i : Cell) := hg3
   have hg6 : Dat.good (nth p1 i : Cell) := hg4
   refine on 8 [2, 3] (cl (Q6y (nth p0 i) (nth p1 i)) Yqa) ?_
   refine tk [9] ?_
   refine dn hb ?_
   refine cd (fun h7 => ?_) (fun h7 => ?_)
   ·
    have hM := hM.trans (bt h7)
    refine ad 4 ?_
    exact rz (rs := [.tmp 4]) (congrArg (fun x => [Re.c (.bool x)]) hM)
   ·
    have hM := hM.trans (bf h7)
    refine ad 5 ?_
    rw [Qc9 (i := i) (by first | omega | exact om)]
    refine ad 2 ?_
    exact Run.again (i + 1) [0, 1] [2, 3] ⟨by first | omega | exact trivial | (dsimp only; omega) | (refine ⟨by omega, ?_⟩; simp_all; try omega), hM⟩ rfl (by show _ - _ < _ - _; (try dsimp only); omega) su (by decide)
  ·
   have h2l : ¬ (i < p0.length) := by have := of_decide_eq_false h2; omega
   have hM := hE.trans ((congrArg (fun n => Qd8 p0 p1 n i) (show p0.length - i = 0 by omega)).trans (Qd8.eq_1 _ _ _))
   refine ad 5 ?_
   exact rz (rs := [.tmp 4]) (congrArg (fun x => [Re.c (.bool x)]) hM)
def Qgt (p0 : Call) (p1 : Call) : Bool := bif !decide (p0.Kind = p1.Kind) then false else (bif !decide (p0.Name = p1.Name) then false else (bif !decide (p0.To = p1.To) then false else (bif !decide (p0.A = p1.A) then false else (bif !decide (p0.B = p1.B) then false else (bif !decide (p0.Text = p1.Text) then false else true)))))
theorem Qo3 (p0 : Call) (p1 : Call) : CTs 223 [.o (.st Call _ inferInstance p0), .o (.st Call _ inferInstance p1)] [Re.c (.bool (Qgt p0 p1))] := by
 refine en Tryz.func223 Tryz.ntmps223 fun w hG hgd => ?_
 obtain ⟨hg_p0, hg_p1, _⟩ := hgd
 have hM := Qgt.eq_1 p0 p1
 refine ad 15 ?_
 refine cd (fun h1 => ?_) (fun h1 => ?_)
 ·
  have hM := hM.trans (bt h1)
  refine ad 4 ?_
  exact rz (rs := [.tmp 4]) (congrArg (fun x => [Re.c (.bool x)]) hM)
 ·
  have hM := hM.trans (bf h1)
  refine ad 10 ?_
  refine cd (fun h2 => ?_) (fun h2 => ?_)
  ·
   have hM := hM.trans (bt h2)
   refine ad 4 ?_
   exact rz (rs := [.tmp 4]) (congrArg (fun x => [Re.c (.bool x)]) hM)
  ·
   have hM := hM.trans (bf h2)
   refine ad 10 ?_
   refine cd (fun h3 => ?_) (fun h3 => ?_)
   ·
    have hM := hM.trans (bt h3)
    refine ad 4 ?_
    exact rz (rs := [.tmp 4]) (congrArg (fun x => [Re.c (.bool x)]) hM)
   ·
    have hM := hM.trans (bf h3)
    refine ad 10 ?_
    refine cd (fun h4 => ?_) (fun h4 => ?_)
    ·
     have hM := hM.trans (bt h4)
     refine ad 4 ?_
     exact rz (rs := [.tmp 4]) (congrArg (fun x => [Re.c (.bool x)]) hM)
    ·
     have hM := hM.trans (bf h4)
     refine ad 10 ?_
     refine cd (fun h5 => ?_) (fun h5 => ?_)
     ·
      have hM := hM.trans (bt h5)
      refine ad 4 ?_
      exact rz (rs := [.tmp 4]) (congrArg (fun x => [Re.c (.bool x)]) hM)
     ·
      have hM := hM.trans (bf h5)
      refine ad 10 ?_
      refine cd (fun h6 => ?_) (fun h6 => ?_)
      ·
       have hM := hM.trans (bt h6)
       refine ad 4 ?_
       exact rz (rs := [.tmp 4]) (congrArg (fun x => [Re.c (.bool x)]) hM)
      ·
       have hM := hM.trans (bf h6)
       refine ad 5 ?_
       exact rz (rs := [.tmp 4]) (congrArg (fun x => [Re.c (.bool x)]) hM)
def Qd9 (p0 : List Call) (p1 : List Call) : Nat → Nat → Bool
 | 0, i => true
 | n + 1, i => bif !(Qgt (nth p0 i) (nth p1 i)) then false else (Qd9 p0 p1 n (i + 1))
def Qia (p0 : List Call) (p1 : List Call) : Bool := bif !decide ((p0.length : Int) = (p1.length : Int)) then false else (Qd9 p0 p1 (p0.length - 0) 0)
theorem Qzn (p0 : List Call) (p1 : List Call) : CTs 169 [.o (.sl Call instDatCall p0), .o (.sl Call instDatCall p1)] [Re.c (.bool (Qia p0 p1))] := by
 refine en Tryz.func169 Tryz.ntmps169 fun w hG hgd => ?_
 obtain ⟨hg_p0, hg_p1, _⟩ := hgd
 have hl_p0 : p0.length ≤ 9223372036854775807 := hg_p0.1
 have hl_p1 : p1.length ≤ 9223372036854775807 := hg_p1.1
 have hM := Qia.eq_1 p0 p1
 refine ad 13 ?_
 refine cd (fun h1 => ?_) (fun h1 => ?_)
 ·
  have hM := hM.trans (bt h1)
  refine ad 4 ?_
  exact rz (rs := [.tmp 4]) (congrArg (fun x => [Re.c (.bool x)]) hM)
 ·
  have hM := hM.trans (bf h1)
  refine ad 7 ?_
  refine Run.loopM (ι := Nat) (fun s => Qd9 p0 p1 (p0.length - s) s) (fun s => ⟨27, 2, [(0, .sl 0 p0.length), (1, .sl 1 p1.length), (5, .v (.int .i64 (s : Int)))], [(0, .ros Call instDatCall p0), (1, .ros Call instDatCall p1)]⟩) (fun s => s ≤ p0.length) (fun s => p0.length - s) 0 [0, 1] [0, 1] hM (by first | exact ⟨by omega, by simp⟩ | omega | simp | (dsimp only; omega)) su (by decide) ?_
  rintro i hv hE
  try dsimp only at hE
  have hi := hv
  try dsimp only at hi
  refine ad 8 ?_
  refine cd (fun h2 => ?_) (fun h2 => ?_)
  ·
   have h2l : i < p0.length := by have := of_decide_eq_true h2; omega
   have hM := hE.trans ((congrArg (fun n => Qd9 p0 p1 n i) (show p0.length - i = (p0.length - (i + 1)) + 1 by omega)).trans (Qd9.eq_2 _ _ _ _))
   refine ad 4 ?_
   refine dr 10 fun _ _ _ _ _ hb => ?_
   refine tk [0, 1] ?_
   have hg3 := Qar (k := i) hg_p0 om
   refine tx 2 (dx (xs := p0) i om) ?_
   refine tk [3, 4, 5] ?_
   have hg4 := Qar (k := i) hg_p1 om
   refine tx 6 (dx (xs := p1) i om) ?_
   refine tk [7] ?_
   have hg5 : Dat.good (nth p0 i : Call) := hg3
   have hg6 : Dat.good (nth p1 i : Call) := hg4
   refine on 8 [2, 3] (cl (Qo3 (nth p0 i) (nth p1 i)) Ykd) ?_
   refine tk [9] ?_
   refine dn hb ?_
   refine cd (fun h7 => ?_) (fun h7 => ?_)
   ·
    have hM := hM.trans (bt h7)
    refine ad 4 ?_
    exact rz (rs := [.tmp 4]) (congrArg (fun x => [Re.c (.bool x)]) hM)
   ·
    have hM := hM.trans (bf h7)
    refine ad 5 ?_
    rw [Qc9 (i := i) (by first | omega | exact om)]
    refine ad 2 ?_
    exact Run.again (i + 1) [0, 1] [2, 3] ⟨by first | omega | exact trivial | (dsimp only; omega) | (refine ⟨by omega, ?_⟩; simp_all; try omega), hM⟩ rfl (by show _ - _ < _ - _; (try dsimp only); omega) su (by decide)
  ·
   have h2l : ¬ (i < p0.length) := by have := of_decide_eq_false h2; omega
   have hM := hE.trans ((congrArg (fun n => Qd9 p0 p1 n i) (show p0.length - i = 0 by omega)).trans (Qd9.eq_1 _ _ _))
   refine ad 5 ?_
   exact rz (rs := [.tmp 4]) (congrArg (fun x => [Re.c (.bool x)]) hM)
def Qgj (p0 : Answer) (p1 : Answer) : Bool := bif !decide (p0.Code = p1.Code) then false else (bif !decide (p0.N = p1.N) then false else (bif !decide (p0.Text = p1.Text) then false else true))
theorem Qx6 (p0 : Answer) (p1 : Answer) : CTs 184 [.o (.st Answer _ inferInstance p0), .o (.st Answer _ inferInstance p1)] [Re.c (.bool (Qgj p0 p1))] := by
 refine en Tryz.func184 Tryz.ntmps184 fun w hG hgd => ?_
 obtain ⟨hg_p0, hg_p1, _⟩ := hgd
 have hM := Qgj.eq_1 p0 p1
 refine ad 15 ?_
 refine cd (fun h1 => ?_) (fun h1 => ?_)
 ·
  have hM := hM.trans (bt h1)
  refine ad 4 ?_
  exact rz (rs := [.tmp 4]) (congrArg (fun x => [Re.c (.bool x)]) hM)
 ·
  have hM := hM.trans (bf h1)
  refine ad 10 ?_
  refine cd (fun h2 => ?_) (fun h2 => ?_)
  ·
   have hM := hM.trans (bt h2)
   refine ad 4 ?_
   exact rz (rs := [.tmp 4]) (congrArg (fun x => [Re.c (.bool x)]) hM)
  ·
   have hM := hM.trans (bf h2)
   refine ad 10 ?_
   refine cd (fun h3 => ?_) (fun h3 => ?_)
   ·
    have hM := hM.trans (bt h3)
    refine ad 4 ?_
    exact rz (rs := [.tmp 4]) (congrArg (fun x => [Re.c (.bool x)]) hM)
   ·
    have hM := hM.trans (bf h3)
    refine ad 5 ?_
    exact rz (rs := [.tmp 4]) (congrArg (fun x => [Re.c (.bool x)]) hM)
def Qc7 (p0 : List Answer) (p1 : List Answer) : Nat → Nat → Bool
 | 0, i => true
 | n + 1, i => bif !(Qgj (nth p0 i) (nth p1 i)) then false else (Qc7 p0 p1 n (i + 1))
def Qf1 (p0 : List Answer) (p1 : List Answer) : Bool := bif !decide ((p0.length : Int) = (p1.length : Int)) then false else (Qc7 p0 p1 (p0.length - 0) 0)
theorem Qlc (p0 : List Answer) (p1 : List Answer) : CTs 123 [.o (.sl Answer instDatAnswer p0), .o (.sl Answer instDatAnswer p1)] [Re.c (.bool (Qf1 p0 p1))] := by
 refine en Tryz.func123 Tryz.ntmps123 fun w hG hgd => ?_
 obtain ⟨hg_p0, hg_p1, _⟩ := hgd
 have hl_p0 : p0.length ≤ 9223372036854775807 := hg_p0.1
 have hl_p1 : p1.length ≤ 9223372036854775807 := hg_p1.1
 have hM := Qf1.eq_1 p0 p1
 refine ad 13 ?_
 refine cd (fun h1 => ?_) (fun h1 => ?_)
 ·
  have hM := hM.trans (bt h1)
  refine ad 4 ?_
  exact rz (rs := [.tmp 4]) (congrArg (fun x => [Re.c (.bool x)]) hM)
 ·
  have hM := hM.trans (bf h1)
  refine ad 7 ?_
  refine Run.loopM (ι := Nat) (fun s => Qc7 p0 p1 (p0.length - s) s) (fun s => ⟨27, 2, [(0, .sl 0 p0.length), (1, .sl 1 p1.length), (5, .v (.int .i64 (s : Int)))], [(0, .ros Answer instDatAnswer p0), (1, .ros Answer instDatAnswer p1)]⟩) (fun s => s ≤ p0.length) (fun s => p0.length - s) 0 [0, 1] [0, 1] hM (by first | exact ⟨by omega, by simp⟩ | omega | simp | (dsimp only; omega)) su (by decide) ?_
  rintro i hv hE
  try dsimp only at hE
  have hi := hv
  try dsimp only at hi
  refine ad 8 ?_
  refine cd (fun h2 => ?_) (fun h2 => ?_)
  ·
   have h2l : i < p0.length := by have := of_decide_eq_true h2; omega
   have hM := hE.trans ((congrArg (fun n => Qc7 p0 p1 n i) (show p0.length - i = (p0.length - (i + 1)) + 1 by omega)).trans (Qc7.eq_2 _ _ _ _))
   refine ad 4 ?_
   refine dr 10 fun _ _ _ _ _ hb => ?_
   refine tk [0, 1] ?_
   have hg3 := Qar (k := i) hg_p0 om
   refine tx 2 (dx (xs := p0) i om) ?_
   refine tk [3, 4, 5] ?_
   have hg4 := Qar (k := i) hg_p1 om
   refine tx 6 (dx (xs := p1) i om) ?_
   refine tk [7] ?_
   have hg5 : Dat.good (nth p0 i : Answer) := hg3
   have hg6 : Dat.good (nth p1 i : Answer) := hg4
   refine on 8 [2, 3] (cl (Qx6 (nth p0 i) (nth p1 i)) Ynl) ?_
   refine tk [9] ?_
   refine dn hb ?_
   refine cd (fun h7 => ?_) (fun h7 => ?_)
   ·
    have hM := hM.trans (bt h7)
    refine ad 4 ?_
    exact rz (rs := [.tmp 4]) (congrArg (fun x => [Re.c (.bool x)]) hM)
   ·
    have hM := hM.trans (bf h7)
    refine ad 5 ?_
    rw [Qc9 (i := i) (by first | omega | exact om)]
    refine ad 2 ?_
    exact Run.again (i + 1) [0, 1] [2, 3] ⟨by first | omega | exact trivial | (dsimp only; omega) | (refine ⟨by omega, ?_⟩; simp_all; try omega), hM⟩ rfl (by show _ - _ < _ - _; (try dsimp only); omega) su (by decide)
  ·
   have h2l : ¬ (i < p0.length) := by have := of_decide_eq_false h2; omega
   have hM := hE.trans ((congrArg (fun n => Qc7 p0 p1 n i) (show p0.length - i = 0 by omega)).trans (Qc7.eq_1 _ _ _))
   refine ad 5 ?_
   exact rz (rs := [.tmp 4]) (congrArg (fun x => [Re.c (.bool x)]) hM)
def Qc6 (p0 : List ByteArray) (p1 : List ByteArray) : Nat → Nat → Bool
 | 0, i => true
 | n + 1, i => bif !decide ((nth p0 i) = (nth p1 i)) then false else (Qc6 p0 p1 n (i + 1))
def Qfh (p0 : List ByteArray) (p1 : List ByteArray) : Bool := bif !decide ((p0.length : Int) = (p1.length : Int)) then false else (Qc6 p0 p1 (p0.length - 0) 0)
theorem Qin (p0 : List ByteArray) (p1 : List ByteArray) : CTs 18 [.o (.sl ByteArray instDatByteArray p0), .o (.sl ByteArray instDatByteArray p1)] [Re.c (.bool (Qfh p0 p1))] := by
 refine en Tryz.func18 Tryz.ntmps18 fun w hG hgd => ?_
 obtain ⟨hg_p0, hg_p1, _⟩ := hgd
 have hl_p0 : p0.length ≤ 9223372036854775807 := hg_p0.1
 have hl_p1 : p1.length ≤ 9223372036854775807 := hg_p1.1
 have hM := Qfh.eq_1 p0 p1
 refine ad 13 ?_
 refine cd (fun h1 => ?_) (fun h1 => ?_)
 ·
  have hM := hM.trans (bt h1)
  refine ad 4 ?_
  exact rz (rs := [.tmp 4]) (congrArg (fun x => [Re.c (.bool x)]) hM)
 ·
  have hM := hM.trans (bf h1)
  refine ad 7 ?_
  refine Run.loopM (ι := Nat) (fun s => Qc6 p0 p1 (p0.length - s) s) (fun s => ⟨26, 2, [(0, .sl 0 p0.length), (1, .sl 1 p1.length), (5, .v (.int .i64 (s : Int)))], [(0, .ros ByteArray instDatByteArray p0), (1, .ros ByteArray instDatByteArray p1)]⟩) (fun s => s ≤ p0.length) (fun s => p0.length - s) 0 [0, 1] [0, 1] hM (by first | exact ⟨by omega, by simp⟩ | omega | simp | (dsimp only; omega)) su (by decide) ?_
  rintro i hv hE
  try dsimp only at hE
  have hi := hv
  try dsimp only at hi
  refine ad 8 ?_
  refine cd (fun h2 => ?_) (fun h2 => ?_)
  ·
   have h2l : i < p0.length := by have := of_decide_eq_true h2; omega
   have hM := hE.trans ((congrArg (fun n => Qc6 p0 p1 n i) (show p0.length - i = (p0.length - (i + 1)) + 1 by omega)).trans (Qc6.eq_2 _ _ _ _))
   refine ad 4 ?_
   refine dr 9 fun _ _ _ _ _ hb => ?_
   refine tk [0, 1] ?_
   have hg3 := Qar (k := i) hg_p0 om
   refine tx 2 (dx (xs := p0) i om) ?_
   refine tk [3, 4, 5] ?_
   have hg4 := Qar (k := i) hg_p1 om
   refine tx 6 (dx (xs := p1) i om) ?_
   refine tk [7, 8] ?_
   refine dn hb ?_
   refine cd (fun h5 => ?_) (fun h5 => ?_)
   ·
    have hM := hM.trans (bt h5)
    refine ad 4 ?_
    exact rz (rs := [.tmp 4]) (congrArg (fun x => [Re.c (.bool x)]) hM)
   ·
    have hM := hM.trans (bf h5)
    refine ad 5 ?_
    rw [Qc9 (i := i) (by first | omega | exact om)]
    refine ad 2 ?_
    exact Run.again (i + 1) [0, 1] [2, 3] ⟨by first | omega | exact trivial | (dsimp only; omega) | (refine ⟨by omega, ?_⟩; simp_all; try omega), hM⟩ rfl (by show _ - _ < _ - _; (try dsimp only); omega) su (by decide)
  ·
   have h2l : ¬ (i < p0.length) := by have := of_decide_eq_false h2; omega
   have hM := hE.trans ((congrArg (fun n => Qc6 p0 p1 n i) (show p0.length - i = 0 by omega)).trans (Qc6.eq_1 _ _ _))
   refine ad 5 ?_
   exact rz (rs := [.tmp 4]) (congrArg (fun x => [Re.c (.bool x)]) hM)
def Qh7 (p0 : Touch) (p1 : Touch) : Bool := bif !(Qfh p0.Reads p1.Reads) then false else (bif !(Qfh p0.Writes p1.Writes) then false else true)
theorem Qzj (p0 : Touch) (p1 : Touch) : CTs 170 [.o (.st Touch _ inferInstance p0), .o (.st Touch _ inferInstance p1)] [Re.c (.bool (Qh7 p0 p1))] := by
 refine en Tryz.func170 Tryz.ntmps170 fun w hG hgd => ?_
 obtain ⟨hg_p0, hg_p1, _⟩ := hgd
 have hM := Qh7.eq_1 p0 p1
 refine ad 13 ?_
 refine op (cl (Qin p0.Reads p1.Reads) Ylu) ?_
 refine ad 2 ?_
 refine cd (fun h1 => ?_) (fun h1 => ?_)
 ·
  have hM := hM.trans (bt h1)
  refine ad 4 ?_
  exact rz (rs := [.tmp 4]) (congrArg (fun x => [Re.c (.bool x)]) hM)
 ·
  have hM := hM.trans (bf h1)
  refine ad 8 ?_
  refine op (cl (Qin p0.Writes p1.Writes) Ylu) ?_
  refine ad 2 ?_
  refine cd (fun h2 => ?_) (fun h2 => ?_)
  ·
   have hM := hM.trans (bt h2)
   refine ad 4 ?_
   exact rz (rs := [.tmp 4]) (congrArg (fun x => [Re.c (.bool x)]) hM)
  ·
   have hM := hM.trans (bf h2)
   refine ad 5 ?_
   exact rz (rs := [.tmp 4]) (congrArg (fun x => [Re.c (.bool x)]) hM)
def Qen (p0 : List Int) (p1 : List Int) : Nat → Nat → Bool
 | 0, i => true
 | n + 1, i => bif !decide ((nth p0 i) = (nth p1 i)) then false else (Qen p0 p1 n (i + 1))
def Qi9 (p0 : List Int) (p1 : List Int) : Bool := bif !decide ((p0.length : Int) = (p1.length : Int)) then false else (Qen p0 p1 (p0.length - 0) 0)
theorem Q6w (p0 : List Int) (p1 : List Int) : CTs 171 [.o (.sl Int instDatInt p0), .o (.sl Int instDatInt p1)] [Re.c (.bool (Qi9 p0 p1))] := by
 refine en Tryz.func171 Tryz.ntmps171 fun w hG hgd => ?_
 obtain ⟨hg_p0, hg_p1, _⟩ := hgd
 have hl_p0 : p0.length ≤ 9223372036854775807 := hg_p0.1
 have hl_p1 : p1.length ≤ 9223372036854775807 := hg_p1.1
 have hM := Qi9.eq_1 p0 p1
 refine ad 13 ?_
 refine cd (fun h1 => ?_) (fun h1 => ?_)
 ·
  have hM := hM.trans (bt h1)
  refine ad 4 ?_
  exact rz (rs := [.tmp 4]) (congrArg (fun x => [Re.c (.bool x)]) hM)
 ·
  have hM := hM.trans (bf h1)
  refine ad 7 ?_
  refine Run.loopM (ι := Nat) (fun s => Qen p0 p1 (p0.length - s) s) (fun s => ⟨26, 2, [(0, .sl 0 p0.length), (1, .sl 1 p1.length), (5, .v (.int .i64 (s : Int)))], [(0, .ros Int instDatInt p0), (1, .ros Int instDatInt p1)]⟩) (fun s => s ≤ p0.length) (fun s => p0.length - s) 0 [0, 1] [0, 1] hM (by first | exact ⟨by omega, by simp⟩ | omega | simp | (dsimp only; omega)) su (by decide) ?_
  rintro i hv hE
  try dsimp only at hE
  have hi := hv
  try dsimp only at hi
  refine ad 8 ?_
  refine cd (fun h2 => ?_) (fun h2 => ?_)
  ·
   have h2l : i < p0.length := by have := of_decide_eq_true h2; omega
   have hM := hE.trans ((congrArg (fun n => Qen p0 p1 n i) (show p0.length - i = (p0.length - (i + 1)) + 1 by omega)).trans (Qen.eq_2 _ _ _ _))
   refine ad 4 ?_
   refine dr 9 fun _ _ _ _ _ hb => ?_
   refine tk [0, 1] ?_
   have hg3 := Qar (k := i) hg_p0 om
   refine tx 2 (dx (xs := p0) i om) ?_
   refine tk [3, 4, 5] ?_
   have hg4 := Qar (k := i) hg_p1 om
   refine tx 6 (dx (xs := p1) i om) ?_
   refine tk [7, 8] ?_
   refine dn hb ?_
   refine cd (fun h5 => ?_) (fun h5 => ?_)
   ·
    have hM := hM.trans (bt h5)
    refine ad 4 ?_
    exact rz (rs := [.tmp 4]) (congrArg (fun x => [Re.c (.bool x)]) hM)
   ·
    have hM := hM.trans (bf h5)
    refine ad 5 ?_
    rw [Qc9 (i := i) (by first | omega | exact om)]
    refine ad 2 ?_
    exact Run.again (i + 1) [0, 1] [2, 3] ⟨by first | omega | exact trivial | (dsimp only; omega) | (refine ⟨by omega, ?_⟩; simp_all; try omega), hM⟩ rfl (by show _ - _ < _ - _; (try dsimp only); omega) su (by decide)
  ·
   have h2l : ¬ (i < p0.length) := by have := of_decide_eq_false h2; omega
   have hM := hE.trans ((congrArg (fun n => Qen p0 p1 n i) (show p0.length - i = 0 by omega)).trans (Qen.eq_1 _ _ _))
   refine ad 5 ?_
   exact rz (rs := [.tmp 4]) (congrArg (fun x => [Re.c (.bool x)]) hM)
def Qkd (p0 : Tx) (p1 : Tx) : Bool := bif !decide (p0.Id = p1.Id) then false else (bif !decide (p0.Age = p1.Age) then false else (bif !decide (p0.Proc = p1.Proc) then false else (bif !decide (p0.Began = p1.Began) then false else (bif !(Qia p0.Calls p1.Calls) then false else (bif !(Qf1 p0.Answers p1.Answers) then false else (bif !(Qh7 p0.Touch p1.Touch) then false else (bif !(Qi9 p0.Marks p1.Marks) then false else (bif !decide (p0.State = p1.State) then false else true))))))))
theorem Yby (p0 : Tx) (p1 : Tx) : CTs 95 [.o (.st Tx _ inferInstance p0), .o (.st Tx _ inferInstance p1)] [Re.c (.bool (Qkd p0 p1))] := by
 refine en Tryz.func95 Tryz.ntmps95 fun w hG hgd => ?_
 obtain ⟨hg_p0, hg_p1, _⟩ := hgd
 have hM := Qkd.eq_1 p0 p1
 refine ad 15 ?_
 refine cd (fun h1 => ?_) (fun h1 => ?_)
 ·
  have hM := hM.trans (bt h1)
  refine ad 4 ?_
  exact rz (rs := [.tmp 4]) (congrArg (fun x => [Re.c (.bool x)]) hM)
 ·
  have hM := hM.trans (bf h1)
  refine ad 10 ?_
  refine cd (fun h2 => ?_) (fun h2 => ?_)
  ·
   have hM := hM.trans (bt h2)
   refine ad 4 ?_
   exact rz (rs := [.tmp 4]) (congrArg (fun x => [Re.c (.bool x)]) hM)
  ·
   have hM := hM.trans (bf h2)
   refine ad 10 ?_
   refine cd (fun h3 => ?_) (fun h3 => ?_)
   ·
    have hM := hM.trans (bt h3)
    refine ad 4 ?_
    exact rz (rs := [.tmp 4]) (congrArg (fun x => [Re.c (.bool x)]) hM)
   ·
    have hM := hM.trans (bf h3)
    refine ad 10 ?_
    refine cd (fun h4 => ?_) (fun h4 => ?_)
    ·
     have hM := hM.trans (bt h4)
     refine ad 4 ?_
     exact rz (rs := [.tmp 4]) (congrArg (fun x => [Re.c (.bool x)]) hM)
    ·
     have hM := hM.trans (bf h4)
     refine ad 8 ?_
     refine op (cl (Qzn p0.Calls p1.Calls) Ynu) ?_
     refine ad 2 ?_
     refine cd (fun h5 => ?_) (fun h5 => ?_)
     ·
      have hM := hM.trans (bt h5)
      refine ad 4 ?_
      exact rz (rs := [.tmp 4]) (congrArg (fun x => [Re.c (.bool x)]) hM)
     ·
      have hM := hM.trans (bf h5)
      refine ad 8 ?_
      refine op (cl (Qlc p0.Answers p1.Answers) Ykq) ?_
      refine ad 2 ?_
      refine cd (fun h6 => ?_) (fun h6 => ?_)
      ·
       have hM := hM.trans (bt h6)
       refine ad 4 ?_
       exact rz (rs := [.tmp 4]) (congrArg (fun x => [Re.c (.bool x)]) hM)
      ·
       have hM := hM.trans (bf h6)
       refine ad 8 ?_
       have hg7 : Dat.good (p0.Touch : Touch) := hg_p0.2.2.2.2.2.2.1
       have hg8 : Dat.good (p1.Touch : Touch) := hg_p1.2.2.2.2.2.2.1
       refine op (cl (Qzj p0.Touch p1.Touch) Ynt) ?_
       refine ad 2 ?_
       refine cd (fun h9 => ?_) (fun h9 => ?_)
       ·
        have hM := hM.trans (bt h9)
        refine ad 4 ?_
        exact rz (rs := [.tmp 4]) (congrArg (fun x => [Re.c (.bool x)]) hM)
       ·
        have hM := hM.trans (bf h9)
        refine ad 8 ?_
        refine op (cl (Q6w p0.Marks p1.Marks) Yns) ?_
        refine ad 2 ?_
        refine cd (fun h10 => ?_) (fun h10 => ?_)
        ·
         have hM := hM.trans (bt h10)
         refine ad 4 ?_
         exact rz (rs := [.tmp 4]) (congrArg (fun x => [Re.c (.bool x)]) hM)
        ·
         have hM := hM.trans (bf h10)
         refine ad 10 ?_
         refine cd (fun h11 => ?_) (fun h11 => ?_)
         ·
          have hM := hM.trans (bt h11)
          refine ad 4 ?_
          exact rz (rs := [.tmp 4]) (congrArg (fun x => [Re.c (.bool x)]) hM)
         ·
          have hM := hM.trans (bf h11)
          refine ad 5 ?_
          exact rz (rs := [.tmp 4]) (congrArg (fun x => [Re.c (.bool x)]) hM)
def Qex (p0 : List Tx) (p1 : List Tx) : Nat → Nat → Bool
 | 0, i => true
 | n + 1, i => bif !(Qkd (nth p0 i) (nth p1 i)) then false else (Qex p0 p1 n (i + 1))
def Qkc (p0 : List Tx) (p1 : List Tx) : Bool := bif !decide ((p0.length : Int) = (p1.length : Int)) then false else (Qex p0 p1 (p0.length - 0) 0)
theorem Yau (p0 : List Tx) (p1 : List Tx) : CTs 46 [.o (.sl Tx instDatTx p0), .o (.sl Tx instDatTx p1)] [Re.c (.bool (Qkc p0 p1))] := by
 refine en Tryz.func46 Tryz.ntmps46 fun w hG hgd => ?_
 obtain ⟨hg_p0, hg_p1, _⟩ := hgd
 have hl_p0 : p0.length ≤ 9223372036854775807 := hg_p0.1
 have hl_p1 : p1.length ≤ 9223372036854775807 := hg_p1.1
 have hM := Qkc.eq_1 p0 p1
 refine ad 13 ?_
 refine cd (fun h1 => ?_) (fun h1 => ?_)
 ·
  have hM := hM.trans (bt h1)
  refine ad 4 ?_
  exact rz (rs := [.tmp 4]) (congrArg (fun x => [Re.c (.bool x)]) hM)
 ·
  have hM := hM.trans (bf h1)
  refine ad 7 ?_
  refine Run.loopM (ι := Nat) (fun s => Qex p0 p1 (p0.length - s) s) (fun s => ⟨27, 2, [(0, .sl 0 p0.length), (1, .sl 1 p1.length), (5, .v (.int .i64 (s : Int)))], [(0, .ros Tx instDatTx p0), (1, .ros Tx instDatTx p1)]⟩) (fun s => s ≤ p0.length) (fun s => p0.length - s) 0 [0, 1] [0, 1] hM (by first | exact ⟨by omega, by simp⟩ | omega | simp | (dsimp only; omega)) su (by decide) ?_
  rintro i hv hE
  try dsimp only at hE
  have hi := hv
  try dsimp only at hi
  refine ad 8 ?_
  refine cd (fun h2 => ?_) (fun h2 => ?_)
  ·
   have h2l : i < p0.length := by have := of_decide_eq_true h2; omega
   have hM := hE.trans ((congrArg (fun n => Qex p0 p1 n i) (show p0.length - i = (p0.length - (i + 1)) + 1 by omega)).trans (Qex.eq_2 _ _ _ _))
   refine ad 4 ?_
   refine dr 10 fun _ _ _ _ _ hb => ?_
   refine tk [0, 1] ?_
   have hg3 := Qar (k := i) hg_p0 om
   refine tx 2 (dx (xs := p0) i om) ?_
   refine tk [3, 4, 5] ?_
   have hg4 := Qar (k := i) hg_p1 om
   refine tx 6 (dx (xs := p1) i om) ?_
   refine tk [7] ?_
   have hg5 : Dat.good (nth p0 i : Tx) := hg3
   have hg6 : Dat.good (nth p1 i : Tx) := hg4
   refine on 8 [12, 13] (cl (Yby (nth p0 i) (nth p1 i)) Yp9) ?_
   refine tk [9] ?_
   refine dn hb ?_
   refine cd (fun h7 => ?_) (fun h7 => ?_)
   ·
    have hM := hM.trans (bt h7)
    refine ad 4 ?_
    exact rz (rs := [.tmp 4]) (congrArg (fun x => [Re.c (.bool x)]) hM)
   ·
    have hM := hM.trans (bf h7)
    refine ad 5 ?_
    rw [Qc9 (i := i) (by first | omega | exact om)]
    refine ad 2 ?_
    exact Run.again (i + 1) [0, 1] [12, 13] ⟨by first | omega | exact trivial | (dsimp only; omega) | (refine ⟨by omega, ?_⟩; simp_all; try omega), hM⟩ rfl (by show _ - _ < _ - _; (try dsimp only); omega) su (by decide)
  ·
   have h2l : ¬ (i < p0.length) := by have := of_decide_eq_false h2; omega
   have hM := hE.trans ((congrArg (fun n => Qex p0 p1 n i) (show p0.length - i = 0 by omega)).trans (Qex.eq_1 _ _ _))
   refine ad 5 ?_
   exact rz (rs := [.tmp 4]) (congrArg (fun x => [Re.c (.bool x)]) hM)
def Qhx (p0 : Slot) (p1 : Slot) : Bool := bif !decide (p0.Seq = p1.Seq) then false else (bif !(Qg3 p0.Cells p1.Cells) then false else (bif !decide (p0.Whole = p1.Whole) then false else true))
theorem Q6v (p0 : Slot) (p1 : Slot) : CTs 172 [.o (.st Slot _ inferInstance p0), .o (.st Slot _ inferInstance p1)] [Re.c (.bool (Qhx p0 p1))] := by
 refine en Tryz.func172 Tryz.ntmps172 fun w hG hgd => ?_
 obtain ⟨hg_p0, hg_p1, _⟩ := hgd
 have hM := Qhx.eq_1 p0 p1
 refine ad 15 ?_
 refine cd (fun h1 => ?_) (fun h1 => ?_)
 ·
  have hM := hM.trans (bt h1)
  refine ad 4 ?_
  exact rz (rs := [.tmp 4]) (congrArg (fun x => [Re.c (.bool x)]) hM)
 ·
  have hM := hM.trans (bf h1)
  refine ad 8 ?_
  refine op (cl (Qmx p0.Cells p1.Cells) Ymx) ?_
  refine ad 2 ?_
  refine cd (fun h2 => ?_) (fun h2 => ?_)
  ·
   have hM := hM.trans (bt h2)
   refine ad 4 ?_
   exact rz (rs := [.tmp 4]) (congrArg (fun x => [Re.c (.bool x)]) hM)
  ·
   have hM := hM.trans (bf h2)
   refine ad 10 ?_
   refine cd (fun h3 => ?_) (fun h3 => ?_)
   ·
    have hM := hM.trans (bt h3)
    refine ad 4 ?_
    exact rz (rs := [.tmp 4]) (congrArg (fun x => [Re.c (.bool x)]) hM)
   ·
    have hM := hM.trans (bf h3)
    refine ad 5 ?_
    exact rz (rs := [.tmp 4]) (congrArg (fun x => [Re.c (.bool x)]) hM)
def Qd7 (p0 : List Slot) (p1 : List Slot) : Nat → Nat → Bool
 | 0, i => true
 | n + 1, i => bif !(Qhx (nth p0 i) (nth p1 i)) then false else (Qd7 p0 p1 n (i + 1))
def Qh9 (p0 : List Slot) (p1 : List Slot) : Bool := bif !decide ((p0.length : Int) = (p1.length : Int)) then false else (Qd7 p0 p1 (p0.length - 0) 0)
theorem Qzl (p0 : List Slot) (p1 : List Slot) : CTs 96 [.o (.sl Slot instDatSlot p0), .o (.sl Slot instDatSlot p1)] [Re.c (.bool (Qh9 p0 p1))] := by
 refine en Tryz.func96 Tryz.ntmps96 fun w hG hgd => ?_
 obtain ⟨hg_p0, hg_p1, _⟩ := hgd
 have hl_p0 : p0.length ≤ 9223372036854775807 := hg_p0.1
 have hl_p1 : p1.length ≤ 9223372036854775807 := hg_p1.1
 have hM := Qh9.eq_1 p0 p1
 refine ad 13 ?_
 refine cd (fun h1 => ?_) (fun h1 => ?_)
 ·
  have hM := hM.trans (bt h1)
  refine ad 4 ?_
  exact rz (rs := [.tmp 4]) (congrArg (fun x => [Re.c (.bool x)]) hM)
 ·
  have hM := hM.trans (bf h1)
  refine ad 7 ?_
  refine Run.loopM (ι := Nat) (fun s => Qd7 p0 p1 (p0.length - s) s) (fun s => ⟨27, 2, [(0, .sl 0 p0.length), (1, .sl 1 p1.length), (5, .v (.int .i64 (s : Int)))], [(0, .ros Slot instDatSlot p0), (1, .ros Slot instDatSlot p1)]⟩) (fun s => s ≤ p0.length) (fun s => p0.length - s) 0 [0, 1] [0, 1] hM (by first | exact ⟨by omega, by simp⟩ | omega | simp | (dsimp only; omega)) su (by decide) ?_
  rintro i hv hE
  try dsimp only at hE
  have hi := hv
  try dsimp only at hi
  refine ad 8 ?_
  refine cd (fun h2 => ?_) (fun h2 => ?_)
  ·
   have h2l : i < p0.length := by have := of_decide_eq_true h2; omega
   have hM := hE.trans ((congrArg (fun n => Qd7 p0 p1 n i) (show p0.length - i = (p0.length - (i + 1)) + 1 by omega)).trans (Qd7.eq_2 _ _ _ _))
   refine ad 4 ?_
   refine dr 10 fun _ _ _ _ _ hb => ?_
   refine tk [0, 1] ?_
   have hg3 := Qar (k := i) hg_p0 om
   refine tx 2 (dx (xs := p0) i om) ?_
   refine tk [3, 4, 5] ?_
   have hg4 := Qar (k := i) hg_p1 om
   refine tx 6 (dx (xs := p1) i om) ?_
   refine tk [7] ?_
   have hg5 : Dat.good (nth p0 i : Slot) := hg3
   have hg6 : Dat.good (nth p1 i : Slot) := hg4
   refine on 8 [4, 5] (cl (Q6v (nth p0 i) (nth p1 i)) Ynr) ?_
   refine tk [9] ?_
   refine dn hb ?_
   refine cd (fun h7 => ?_) (fun h7 => ?_)
   ·
    have hM := hM.trans (bt h7)
    refine ad 4 ?_
    exact rz (rs := [.tmp 4]) (congrArg (fun x => [Re.c (.bool x)]) hM)
   ·
    have hM := hM.trans (bf h7)
    refine ad 5 ?_
    rw [Qc9 (i := i) (by first | omega | exact om)]
    refine ad 2 ?_
    exact Run.again (i + 1) [0, 1] [4, 5] ⟨by first | omega | exact trivial | (dsimp only; omega) | (refine ⟨by omega, ?_⟩; simp_all; try omega), hM⟩ rfl (by show _ - _ < _ - _; (try dsimp only); omega) su (by decide)
  ·
   have h2l : ¬ (i < p0.length) := by have := of_decide_eq_false h2; omega
   have hM := hE.trans ((congrArg (fun n => Qd7 p0 p1 n i) (show p0.length - i = 0 by omega)).trans (Qd7.eq_1 _ _ _))
   refine ad 5 ?_
   exact rz (rs := [.tmp 4]) (congrArg (fun x => [Re.c (.bool x)]) hM)
def Qgp (p0 : Journal) (p1 : Journal) : Bool := bif !decide (p0.Text = p1.Text) then false else (bif !decide (p0.Sure = p1.Sure) then false else true)
theorem Qwe (p0 : Journal) (p1 : Journal) : CTs 97 [.o (.st Journal _ inferInstance p0), .o (.st Journal _ inferInstance p1)] [Re.c (.bool (Qgp p0 p1))] := by
 refine en Tryz.func97 Tryz.ntmps97 fun w hG hgd => ?_
 obtain ⟨hg_p0, hg_p1, _⟩ := hgd
 have hM := Qgp.eq_1 p0 p1
 refine ad 15 ?_
 refine cd (fun h1 => ?_) (fun h1 => ?_)
 ·
  have hM := hM.trans (bt h1)
  refine ad 4 ?_
  exact rz (rs := [.tmp 4]) (congrArg (fun x => [Re.c (.bool x)]) hM)
 ·
  have hM := hM.trans (bf h1)
  refine ad 10 ?_
  refine cd (fun h2 => ?_) (fun h2 => ?_)
  ·
   have hM := hM.trans (bt h2)
   refine ad 4 ?_
   exact rz (rs := [.tmp 4]) (congrArg (fun x => [Re.c (.bool x)]) hM)
  ·
   have hM := hM.trans (bf h2)
   refine ad 5 ?_
   exact rz (rs := [.tmp 4]) (congrArg (fun x => [Re.c (.bool x)]) hM)
def Qja (p0 : Disk) (p1 : Disk) : Bool := bif !(Qh9 p0.Slots p1.Slots) then false else (bif !(Qgp p0.Journal p1.Journal) then false else true)
theorem Q6x (p0 : Disk) (p1 : Disk) : CTs 47 [.o (.st Disk _ inferInstance p0), .o (.st Disk _ inferInstance p1)] [Re.c (.bool (Qja p0 p1))] := by
 refine en Tryz.func47 Tryz.ntmps47 fun w hG hgd => ?_
 obtain ⟨hg_p0, hg_p1, _⟩ := hgd
 have hM := Qja.eq_1 p0 p1
 refine ad 13 ?_
 refine op (cl (Qzl p0.Slots p1.Slots) Yp8) ?_
 refine ad 2 ?_
 refine cd (fun h1 => ?_) (fun h1 => ?_)
 ·
  have hM := hM.trans (bt h1)
  refine ad 4 ?_
  exact rz (rs := [.tmp 4]) (congrArg (fun x => [Re.c (.bool x)]) hM)
 ·
  have hM := hM.trans (bf h1)
  refine ad 8 ?_
  have hg2 : Dat.good (p0.Journal : Journal) := hg_p0.2
  have hg3 : Dat.good (p1.Journal : Journal) := hg_p1.2
  refine op (cl (Qwe p0.Journal p1.Journal) Yp7) ?_
  refine ad 2 ?_
  refine cd (fun h4 => ?_) (fun h4 => ?_)
  ·
   have hM := hM.trans (bt h4)
   refine ad 4 ?_
   exact rz (rs := [.tmp 4]) (congrArg (fun x => [Re.c (.bool x)]) hM)
  ·
   have hM := hM.trans (bf h4)
   refine ad 5 ?_
   exact rz (rs := [.tmp 4]) (congrArg (fun x => [Re.c (.bool x)]) hM)
def Qhw (p0 : Step) (p1 : Step) : Bool := bif !decide (p0.Proc = p1.Proc) then false else (bif !(Qgt p0.Call p1.Call) then false else true)
theorem Q6u (p0 : Step) (p1 : Step) : CTs 183 [.o (.st Step _ inferInstance p0), .o (.st Step _ inferInstance p1)] [Re.c (.bool (Qhw p0 p1))] := by
 refine en Tryz.func183 Tryz.ntmps183 fun w hG hgd => ?_
 obtain ⟨hg_p0, hg_p1, _⟩ := hgd
 have hM := Qhw.eq_1 p0 p1
 refine ad 15 ?_
 refine cd (fun h1 => ?_) (fun h1 => ?_)
 ·
  have hM := hM.trans (bt h1)
  refine ad 4 ?_
  exact rz (rs := [.tmp 4]) (congrArg (fun x => [Re.c (.bool x)]) hM)
 ·
  have hM := hM.trans (bf h1)
  refine ad 8 ?_
  have hg2 : Dat.good (p0.Call : Call) := hg_p0.2
  have hg3 : Dat.good (p1.Call : Call) := hg_p1.2
  refine op (cl (Qo3 p0.Call p1.Call) Ykd) ?_
  refine ad 2 ?_
  refine cd (fun h4 => ?_) (fun h4 => ?_)
  ·
   have hM := hM.trans (bt h4)
   refine ad 4 ?_
   exact rz (rs := [.tmp 4]) (congrArg (fun x => [Re.c (.bool x)]) hM)
  ·
   have hM := hM.trans (bf h4)
   refine ad 5 ?_
   exact rz (rs := [.tmp 4]) (congrArg (fun x => [Re.c (.bool x)]) hM)
def Qd6 (p0 : List Step) (p1 : List Step) : Nat → Nat → Bool
 | 0, i => true
 | n + 1, i => bif !(Qhw (nth p0 i) (nth p1 i)) then false else (Qd6 p0 p1 n (i + 1))
def Qh8 (p0 : List Step) (p1 : List Step) : Bool := bif !decide ((p0.length : Int) = (p1.length : Int)) then false else (Qd6 p0 p1 (p0.length - 0) 0)
theorem Qzk (p0 : List Step) (p1 : List Step) : CTs 122 [.o (.sl Step instDatStep p0), .o (.sl Step instDatStep p1)] [Re.c (.bool (Qh8 p0 p1))] := by
 refine en Tryz.func122 Tryz.ntmps122 fun w hG hgd => ?_
 obtain ⟨hg_p0, hg_p1, _⟩ := hgd
 have hl_p0 : p0.length ≤ 9223372036854775807 := hg_p0.1
 have hl_p1 : p1.length ≤ 9223372036854775807 := hg_p1.1
 have hM := Qh8.eq_1 p0 p1
 refine ad 13 ?_
 refine cd (fun h1 => ?_) (fun h1 => ?_)
 ·
  have hM := hM.trans (bt h1)
  refine ad 4 ?_
  exact rz (rs := [.tmp 4]) (congrArg (fun x => [Re.c (.bool x)]) hM)
 ·
  have hM := hM.trans (bf h1)
  refine ad 7 ?_
  refine Run.loopM (ι := Nat) (fun s => Qd6 p0 p1 (p0.length - s) s) (fun s => ⟨27, 2, [(0, .sl 0 p0.length), (1, .sl 1 p1.length), (5, .v (.int .i64 (s : Int)))], [(0, .ros Step instDatStep p0), (1, .ros Step instDatStep p1)]⟩) (fun s => s ≤ p0.length) (fun s => p0.length - s) 0 [0, 1] [0, 1] hM (by first | exact ⟨by omega, by simp⟩ | omega | simp | (dsimp only; omega)) su (by decide) ?_
  rintro i hv hE
  try dsimp only at hE
  have hi := hv
  try dsimp only at hi
  refine ad 8 ?_
  refine cd (fun h2 => ?_) (fun h2 => ?_)
  ·
   have h2l : i < p0.length := by have := of_decide_eq_true h2; omega
   have hM := hE.trans ((congrArg (fun n => Qd6 p0 p1 n i) (show p0.length - i = (p0.length - (i + 1)) + 1 by omega)).trans (Qd6.eq_2 _ _ _ _))
   refine ad 4 ?_
   refine dr 10 fun _ _ _ _ _ hb => ?_
   refine tk [0, 1] ?_
   have hg3 := Qar (k := i) hg_p0 om
   refine tx 2 (dx (xs := p0) i om) ?_
   refine tk [3, 4, 5] ?_
   have hg4 := Qar (k := i) hg_p1 om
   refine tx 6 (dx (xs := p1) i om) ?_
   refine tk [7] ?_
   have hg5 : Dat.good (nth p0 i : Step) := hg3
   have hg6 : Dat.good (nth p1 i : Step) := hg4
   refine on 8 [2, 3] (cl (Q6u (nth p0 i) (nth p1 i)) Ynm) ?_
   refine tk [9] ?_
   refine dn hb ?_
   refine cd (fun h7 => ?_) (fun h7 => ?_)
   ·
    have hM := hM.trans (bt h7)
    refine ad 4 ?_
    exact rz (rs := [.tmp 4]) (congrArg (fun x => [Re.c (.bool x)]) hM)
   ·
    have hM := hM.trans (bf h7)
    refine ad 5 ?_
    rw [Qc9 (i := i) (by first | omega | exact om)]
    refine ad 2 ?_
    exact Run.again (i + 1) [0, 1] [2, 3] ⟨by first | omega | exact trivial | (dsimp only; omega) | (refine ⟨by omega, ?_⟩; simp_all; try omega), hM⟩ rfl (by show _ - _ < _ - _; (try dsimp only); omega) su (by decide)
  ·
   have h2l : ¬ (i < p0.length) := by have := of_decide_eq_false h2; omega
   have hM := hE.trans ((congrArg (fun n => Qd6 p0 p1 n i) (show p0.length - i = 0 by omega)).trans (Qd6.eq_1 _ _ _))
   refine ad 5 ?_
   exact rz (rs := [.tmp 4]) (congrArg (fun x => [Re.c (.bool x)]) hM)
def Qg2 (p0 : Entry) (p1 : Entry) : Bool := bif !decide (p0.Seq = p1.Seq) then false else (bif !decide (p0.Kind = p1.Kind) then false else (bif !decide (p0.Tx = p1.Tx) then false else (bif !(Qh8 p0.Steps p1.Steps) then false else (bif !(Qf1 p0.Answers p1.Answers) then false else (bif !decide (p0.Began = p1.Began) then false else (bif !decide (p0.Ended = p1.Ended) then false else (bif !decide (p0.Laid = p1.Laid) then false else true)))))))
theorem Qzm (p0 : Entry) (p1 : Entry) : CTs 63 [.o (.st Entry _ inferInstance p0), .o (.st Entry _ inferInstance p1)] [Re.c (.bool (Qg2 p0 p1))] := by
 refine en Tryz.func63 Tryz.ntmps63 fun w hG hgd => ?_
 obtain ⟨hg_p0, hg_p1, _⟩ := hgd
 have hM := Qg2.eq_1 p0 p1
 refine ad 15 ?_
 refine cd (fun h1 => ?_) (fun h1 => ?_)
 ·
  have hM := hM.trans (bt h1)
  refine ad 4 ?_
  exact rz (rs := [.tmp 4]) (congrArg (fun x => [Re.c (.bool x)]) hM)
 ·
  have hM := hM.trans (bf h1)
  refine ad 10 ?_
  refine cd (fun h2 => ?_) (fun h2 => ?_)
  ·
   have hM := hM.trans (bt h2)
   refine ad 4 ?_
   exact rz (rs := [.tmp 4]) (congrArg (fun x => [Re.c (.bool x)]) hM)
  ·
   have hM := hM.trans (bf h2)
   refine ad 10 ?_
   refine cd (fun h3 => ?_) (fun h3 => ?_)
   ·
    have hM := hM.trans (bt h3)
    refine ad 4 ?_
    exact rz (rs := [.tmp 4]) (congrArg (fun x => [Re.c (.bool x)]) hM)
   ·
    have hM := hM.trans (bf h3)
    refine ad 8 ?_
    refine op (cl (Qzk p0.Steps p1.Steps) Yof) ?_
    refine ad 2 ?_
    refine cd (fun h4 => ?_) (fun h4 => ?_)
    ·
     have hM := hM.trans (bt h4)
     refine ad 4 ?_
     exact rz (rs := [.tmp 4]) (congrArg (fun x => [Re.c (.bool x)]) hM)
    ·
     have hM := hM.trans (bf h4)
     refine ad 8 ?_
     refine op (cl (Qlc p0.Answers p1.Answers) Ykq) ?_
     refine ad 2 ?_
     refine cd (fun h5 => ?_) (fun h5 => ?_)
     ·
      have hM := hM.trans (bt h5)
      refine ad 4 ?_
      exact rz (rs := [.tmp 4]) (congrArg (fun x => [Re.c (.bool x)]) hM)
     ·
      have hM := hM.trans (bf h5)
      refine ad 10 ?_
      refine cd (fun h6 => ?_) (fun h6 => ?_)
      ·
       have hM := hM.trans (bt h6)
       refine ad 4 ?_
       exact rz (rs := [.tmp 4]) (congrArg (fun x => [Re.c (.bool x)]) hM)
      ·
       have hM := hM.trans (bf h6)
       refine ad 10 ?_
       refine cd (fun h7 => ?_) (fun h7 => ?_)
       ·
        have hM := hM.trans (bt h7)
        refine ad 4 ?_
        exact rz (rs := [.tmp 4]) (congrArg (fun x => [Re.c (.bool x)]) hM)
       ·
        have hM := hM.trans (bf h7)
        refine ad 10 ?_
        refine cd (fun h8 => ?_) (fun h8 => ?_)
        ·
         have hM := hM.trans (bt h8)
         refine ad 4 ?_
         exact rz (rs := [.tmp 4]) (congrArg (fun x => [Re.c (.bool x)]) hM)
        ·
         have hM := hM.trans (bf h8)
         refine ad 5 ?_
         exact rz (rs := [.tmp 4]) (congrArg (fun x => [Re.c (.bool x)]) hM)
def Qdh (p0 : List Entry) (p1 : List Entry) : Nat → Nat → Bool
 | 0, i => true
 | n + 1, i => bif !(Qg2 (nth p0 i) (nth p1 i)) then false else (Qdh p0 p1 n (i + 1))
def Qhi (p0 : List Entry) (p1 : List Entry) : Bool := bif !decide ((p0.length : Int) = (p1.length : Int)) then false else (Qdh p0 p1 (p0.length - 0) 0)
theorem Qx5 (p0 : List Entry) (p1 : List Entry) : CTs 24 [.o (.sl Entry instDatEntry p0), .o (.sl Entry instDatEntry p1)] [Re.c (.bool (Qhi p0 p1))] := by
 refine en Tryz.func24 Tryz.ntmps24 fun w hG hgd => ?_
 obtain ⟨hg_p0, hg_p1, _⟩ := hgd
 have hl_p0 : p0.length ≤ 9223372036854775807 := hg_p0.1
 have hl_p1 : p1.length ≤ 9223372036854775807 := hg_p1.1
 have hM := Qhi.eq_1 p0 p1
 refine ad 13 ?_
 refine cd (fun h1 => ?_) (fun h1 => ?_)
 ·
  have hM := hM.trans (bt h1)
  refine ad 4 ?_
  exact rz (rs := [.tmp 4]) (congrArg (fun x => [Re.c (.bool x)]) hM)
 ·
  have hM := hM.trans (bf h1)
  refine ad 7 ?_
  refine Run.loopM (ι := Nat) (fun s => Qdh p0 p1 (p0.length - s) s) (fun s => ⟨27, 2, [(0, .sl 0 p0.length), (1, .sl 1 p1.length), (5, .v (.int .i64 (s : Int)))], [(0, .ros Entry instDatEntry p0), (1, .ros Entry instDatEntry p1)]⟩) (fun s => s ≤ p0.length) (fun s => p0.length - s) 0 [0, 1] [0, 1] hM (by first | exact ⟨by omega, by simp⟩ | omega | simp | (dsimp only; omega)) su (by decide) ?_
  rintro i hv hE
  try dsimp only at hE
  have hi := hv
  try dsimp only at hi
  refine ad 8 ?_
  refine cd (fun h2 => ?_) (fun h2 => ?_)
  ·
   have h2l : i < p0.length := by have := of_decide_eq_true h2; omega
   have hM := hE.trans ((congrArg (fun n => Qdh p0 p1 n i) (show p0.length - i = (p0.length - (i + 1)) + 1 by omega)).trans (Qdh.eq_2 _ _ _ _))
   refine ad 4 ?_
   refine dr 10 fun _ _ _ _ _ hb => ?_
   refine tk [0, 1] ?_
   have hg3 := Qar (k := i) hg_p0 om
   refine tx 2 (dx (xs := p0) i om) ?_
   refine tk [3, 4, 5] ?_
   have hg4 := Qar (k := i) hg_p1 om
   refine tx 6 (dx (xs := p1) i om) ?_
   refine tk [7] ?_
   have hg5 : Dat.good (nth p0 i : Entry) := hg3
   have hg6 : Dat.good (nth p1 i : Entry) := hg4
   refine on 8 [6, 7] (cl (Qzm (nth p0 i) (nth p1 i)) Yqp) ?_
   refine tk [9] ?_
   refine dn hb ?_
   refine cd (fun h7 => ?_) (fun h7 => ?_)
   ·
    have hM := hM.trans (bt h7)
    refine ad 4 ?_
    exact rz (rs := [.tmp 4]) (congrArg (fun x => [Re.c (.bool x)]) hM)
   ·
    have hM := hM.trans (bf h7)
    refine ad 5 ?_
    rw [Qc9 (i := i) (by first | omega | exact om)]
    refine ad 2 ?_
    exact Run.again (i + 1) [0, 1] [6, 7] ⟨by first | omega | exact trivial | (dsimp only; omega) | (refine ⟨by omega, ?_⟩; simp_all; try omega), hM⟩ rfl (by show _ - _ < _ - _; (try dsimp only); omega) su (by decide)
  ·
   have h2l : ¬ (i < p0.length) := by have := of_decide_eq_false h2; omega
   have hM := hE.trans ((congrArg (fun n => Qdh p0 p1 n i) (show p0.length - i = 0 by omega)).trans (Qdh.eq_1 _ _ _))
   refine ad 5 ?_
   exact rz (rs := [.tmp 4]) (congrArg (fun x => [Re.c (.bool x)]) hM)
def Qhh (p0 : Kernel) (p1 : Kernel) : Bool := bif !(Qg3 p0.Store p1.Store) then false else (bif !(Qkc p0.Txs p1.Txs) then false else (bif !(Qja p0.Disk p1.Disk) then false else (bif !decide (p0.Seq = p1.Seq) then false else (bif !decide (p0.Next = p1.Next) then false else (bif !decide (p0.Time = p1.Time) then false else (bif !(Qhi p0.History p1.History) then false else (bif !(Qfh p0.Seen p1.Seen) then false else (bif !decide (p0.Room = p1.Room) then false else true))))))))
theorem Qx4 (p0 : Kernel) (p1 : Kernel) : CTs 13 [.o (.st Kernel _ inferInstance p0), .o (.st Kernel _ inferInstance p1)] [Re.c (.bool (Qhh p0 p1))] := by
 refine en Tryz.func13 Tryz.ntmps13 fun w hG hgd => ?_
 obtain ⟨hg_p0, hg_p1, _⟩ := hgd
 have hM := Qhh.eq_1 p0 p1
 refine ad 13 ?_
 refine op (cl (Qmx p0.Store p1.Store) Ymx) ?_
 refine ad 2 ?_
 refine cd (fun h1 => ?_) (fun h1 => ?_)
 ·
  have hM := hM.trans (bt h1)
  refine ad 4 ?_
  exact rz (rs := [.tmp 4]) (congrArg (fun x => [Re.c (.bool x)]) hM)
 ·
  have hM := hM.trans (bf h1)
  refine ad 8 ?_
  refine op (cl (Yau p0.Txs p1.Txs) Yqx) ?_
  refine ad 2 ?_
  refine cd (fun h2 => ?_) (fun h2 => ?_)
  ·
   have hM := hM.trans (bt h2)
   refine ad 4 ?_
   exact rz (rs := [.tmp 4]) (congrArg (fun x => [Re.c (.bool x)]) hM)
  ·
   have hM := hM.trans (bf h2)
   refine ad 8 ?_
   have hg3 : Dat.good (p0.Disk : Disk) := hg_p0.2.2.1
   have hg4 : Dat.good (p1.Disk : Disk) := hg_p1.2.2.1
   refine op (cl (Q6x p0.Disk p1.Disk) Yqw) ?_
   refine ad 2 ?_
   refine cd (fun h5 => ?_) (fun h5 => ?_)
   ·
    have hM := hM.trans (bt h5)
    refine ad 4 ?_
    exact rz (rs := [.tmp 4]) (congrArg (fun x => [Re.c (.bool x)]) hM)
   ·
    have hM := hM.trans (bf h5)
    refine ad 10 ?_
    refine cd (fun h6 => ?_) (fun h6 => ?_)
    ·
     have hM := hM.trans (bt h6)
     refine ad 4 ?_
     exact rz (rs := [.tmp 4]) (congrArg (fun x => [Re.c (.bool x)]) hM)
    ·
     have hM := hM.trans (bf h6)
     refine ad 10 ?_
     refine cd (fun h7 => ?_) (fun h7 => ?_)
     ·
      have hM := hM.trans (bt h7)
      refine ad 4 ?_
      exact rz (rs := [.tmp 4]) (congrArg (fun x => [Re.c (.bool x)]) hM)
     ·
      have hM := hM.trans (bf h7)
      refine ad 10 ?_
      refine cd (fun h8 => ?_) (fun h8 => ?_)
      ·
       have hM := hM.trans (bt h8)
       refine ad 4 ?_
       exact rz (rs := [.tmp 4]) (congrArg (fun x => [Re.c (.bool x)]) hM)
      ·
       have hM := hM.trans (bf h8)
       refine ad 8 ?_
       refine op (cl (Qx5 p0.History p1.History) Yq6) ?_
       refine ad 2 ?_
       refine cd (fun h9 => ?_) (fun h9 => ?_)
       ·
        have hM := hM.trans (bt h9)
        refine ad 4 ?_
        exact rz (rs := [.tmp 4]) (congrArg (fun x => [Re.c (.bool x)]) hM)
       ·
        have hM := hM.trans (bf h9)
        refine ad 8 ?_
        refine op (cl (Qin p0.Seen p1.Seen) Ylu) ?_
        refine ad 2 ?_
        refine cd (fun h10 => ?_) (fun h10 => ?_)
        ·
         have hM := hM.trans (bt h10)
         refine ad 4 ?_
         exact rz (rs := [.tmp 4]) (congrArg (fun x => [Re.c (.bool x)]) hM)
        ·
         have hM := hM.trans (bf h10)
         refine ad 10 ?_
         refine cd (fun h11 => ?_) (fun h11 => ?_)
         ·
          have hM := hM.trans (bt h11)
          refine ad 4 ?_
          exact rz (rs := [.tmp 4]) (congrArg (fun x => [Re.c (.bool x)]) hM)
         ·
          have hM := hM.trans (bf h11)
          refine ad 5 ?_
          exact rz (rs := [.tmp 4]) (congrArg (fun x => [Re.c (.bool x)]) hM)
end
section
open Go.RowKit
def toL {α : Type} [Inhabited α] (f : α → α) (xs : List α) : Nat → List α → Nat → List α
  | 0, w, _ => w
  | n + 1, w, i => toL f xs n (w.set i (f (nth xs i))) (i + 1)
theorem Qnr {α : Type} [Inhabited α] {f : α → α} (hf : ∀ x, f x = x) (xs : List α) : ∀ n w i, n = xs.length - i → w.length = xs.length → (∀ j, j < i → w[j]? = xs[j]?) → toL f xs n w i = xs := by
  intro n
  induction n with
  | zero =>
    intro w i h hl hj
    show w = xs
    apply List.ext_getElem?
    intro j
    rcases Nat.lt_or_ge j i with h1 | h1
    · exact hj j h1
    · rw [List.getElem?_eq_none (by omega), List.getElem?_eq_none (by omega)]
  | succ n ih =>
    intro w i h hl hj
    rw [toL]
    refine ih _ (i + 1) (by omega) (by rw [List.length_set]; exact hl) fun j hji => ?_
    rcases Nat.lt_or_ge j i with h1 | h1
    · rw [List.getElem?_set_ne (by omega)]
      exact hj j h1
    · obtain rfl : j = i := by omega
      rw [List.getElem?_set_self (by omega), hf]
      unfold nth
      rw [List.getD_eq_getElem?_getD, List.getElem?_eq_getElem (by omega : j < xs.length)]
      rfl
def eqL {α : Type} [Inhabited α] (f : α → α → Bool) (xs ys : List α) : Nat → Nat → Bool
  | 0, _ => true
  | n + 1, i => bif !(f (nth xs i) (nth ys i)) then false else eqL f xs ys n (i + 1)
theorem Qiu {α : Type} [Inhabited α] {f : α → α → Bool} (hf : ∀ x, f x x = true) (xs : List α) : ∀ n i, eqL f xs xs n i = true := by
  intro n
  induction n with
  | zero => intro i; rfl
  | succ n ih => intro i; rw [eqL, hf, ih]; rfl
theorem Qyx (p0 : Cell) : Qf9 p0 = p0 := by
  unfold Qf9
  rfl
theorem Qn7 (p0 : List Cell) : ∀ n w i, Qdy p0 n w i = toL (Qf9) p0 n w i := by
  intro n
  induction n with
  | zero => intro w i; rfl
  | succ n ih => intro w i; rw [Qdy, toL, ih]
theorem Qls (p0 : List Cell) : Qfp p0 = p0 := by
  unfold Qfp
  rw [Qn7]
  exact Qnr (Qyx) p0 _ _ 0 rfl (by rw [List.length_replicate]) fun j hj => by omega
theorem Qmr (p0 : Call) : Qfg p0 = p0 := by
  unfold Qfg
  rfl
theorem Qn8 (p0 : List Call) : ∀ n w i, Qdz p0 n w i = toL (Qfg) p0 n w i := by
  intro n
  induction n with
  | zero => intro w i; rfl
  | succ n ih => intro w i; rw [Qdz, toL, ih]
theorem Qxc (p0 : List Call) : Qg1 p0 = p0 := by
  unfold Qg1
  rw [Qn8]
  exact Qnr (Qmr) p0 _ _ 0 rfl (by rw [List.length_replicate]) fun j hj => by omega
theorem Qvy (p0 : Answer) : Qfc p0 = p0 := by
  unfold Qfc
  rfl
theorem Qmg (p0 : List Answer) : ∀ n w i, Qc2 p0 n w i = toL (Qfc) p0 n w i := by
  intro n
  induction n with
  | zero => intro w i; rfl
  | succ n ih => intro w i; rw [Qc2, toL, ih]
theorem Qka (p0 : List Answer) : Qe1 p0 = p0 := by
  unfold Qe1
  rw [Qmg]
  exact Qnr (Qvy) p0 _ _ 0 rfl (by rw [List.length_replicate]) fun j hj => by omega
theorem Qmf (p0 : List ByteArray) : ∀ n w i, Qc0 p0 n w i = toL (fun x => x) p0 n w i := by
  intro n
  induction n with
  | zero => intro w i; rfl
  | succ n ih => intro w i; rw [Qc0, toL, ih]
theorem Qj9 (p0 : List ByteArray) : Qdr p0 = p0 := by
  unfold Qdr
  rw [Qmf]
  exact Qnr (fun _ => rfl) p0 _ _ 0 rfl (by rw [List.length_replicate]) fun j hj => by omega
theorem Qw8 (p0 : Touch) : Qgy p0 = p0 := by
  unfold Qgy
  simp only [Qj9]
theorem Qpi (p0 : List Int) : ∀ n w i, Qel p0 n w i = toL (fun x => x) p0 n w i := by
  intro n
  induction n with
  | zero => intro w i; rfl
  | succ n ih => intro w i; rw [Qel, toL, ih]
theorem Qyv (p0 : List Int) : Qhu p0 = p0 := by
  unfold Qhu
  rw [Qpi]
  exact Qnr (fun _ => rfl) p0 _ _ 0 rfl (by rw [List.length_replicate]) fun j hj => by omega
theorem Yaa (p0 : Tx) : Qh6 p0 = p0 := by
  unfold Qh6
  simp only [Qka, Qxc, Qyv, Qw8]
theorem Qvw (p0 : List Tx) : ∀ n w i, Qev p0 n w i = toL (Qh6) p0 n w i := by
  intro n
  induction n with
  | zero => intro w i; rfl
  | succ n ih => intro w i; rw [Qev, toL, ih]
theorem Q54 (p0 : List Tx) : Qiy p0 = p0 := by
  unfold Qiy
  rw [Qvw]
  exact Qnr (Yaa) p0 _ _ 0 rfl (by rw [List.length_replicate]) fun j hj => by omega
theorem Qyu (p0 : Slot) : Qf8 p0 = p0 := by
  unfold Qf8
  simp only [Qls]
theorem Qn6 (p0 : List Slot) : ∀ n w i, Qdx p0 n w i = toL (Qf8) p0 n w i := by
  intro n
  induction n with
  | zero => intro w i; rfl
  | succ n ih => intro w i; rw [Qdx, toL, ih]
theorem Qxa (p0 : List Slot) : Qg0 p0 = p0 := by
  unfold Qg0
  rw [Qn6]
  exact Qnr (Qyu) p0 _ _ 0 rfl (by rw [List.length_replicate]) fun j hj => by omega
theorem Qph (p0 : Journal) : Qf0 p0 = p0 := by
  unfold Qf0
  rfl
theorem Qyw (p0 : Disk) : Qhv p0 = p0 := by
  unfold Qhv
  simp only [Qph, Qxa]
theorem Qyt (p0 : Step) : Qf7 p0 = p0 := by
  unfold Qf7
  simp only [Qmr]
theorem Qn5 (p0 : List Step) : ∀ n w i, Qdw p0 n w i = toL (Qf7) p0 n w i := by
  intro n
  induction n with
  | zero => intro w i; rfl
  | succ n ih => intro w i; rw [Qdw, toL, ih]
theorem Qw9 (p0 : List Step) : Qgz p0 = p0 := by
  unfold Qgz
  rw [Qn5]
  exact Qnr (Qyt) p0 _ _ 0 rfl (by rw [List.length_replicate]) fun j hj => by omega
theorem Qxb (p0 : Entry) : Qfo p0 = p0 := by
  unfold Qfo
  simp only [Qka, Qw9]
theorem Qnb (p0 : List Entry) : ∀ n w i, Qdf p0 n w i = toL (Qfo) p0 n w i := by
  intro n
  induction n with
  | zero => intro w i; rfl
  | succ n ih => intro w i; rw [Qdf, toL, ih]
theorem Qvx (p0 : List Entry) : Qgh p0 = p0 := by
  unfold Qgh
  rw [Qnb]
  exact Qnr (Qxb) p0 _ _ 0 rfl (by rw [List.length_replicate]) fun j hj => by omega
theorem Qk5 (p0 : Kernel) : Qc1 p0 = p0 := by
  unfold Qc1
  simp only [Qls, Qyw, Qvx, Qj9, Q54]
theorem Qv6 (p0 : Cell) : Qhy p0 p0 = true := by
  unfold Qhy
  simp only [decide_true, Bool.not_true, cond_false]
theorem Qom (p0 p1 : List Cell) : ∀ n i, Qd8 p0 p1 n i = eqL (Qhy) p0 p1 n i := by
  intro n
  induction n with
  | zero => intro i; rfl
  | succ n ih => intro i; rw [Qd8, eqL, ih]
theorem Qke (p0 : List Cell) : Qg3 p0 p0 = true := by
  unfold Qg3
  rw [decide_eq_true rfl, Qom]
  exact Qiu (Qv6) _ _ _
theorem Qk6 (p0 : Call) : Qgt p0 p0 = true := by
  unfold Qgt
  simp only [decide_true, Bool.not_true, cond_false]
theorem Qon (p0 p1 : List Call) : ∀ n i, Qd9 p0 p1 n i = eqL (Qgt) p0 p1 n i := by
  intro n
  induction n with
  | zero => intro i; rfl
  | succ n ih => intro i; rw [Qd9, eqL, ih]
theorem Qpt (p0 : List Call) : Qia p0 p0 = true := by
  unfold Qia
  rw [decide_eq_true rfl, Qon]
  exact Qiu (Qk6) _ _ _
theorem Qoo (p0 : Answer) : Qgj p0 p0 = true := by
  unfold Qgj
  simp only [decide_true, Bool.not_true, cond_false]
theorem Qml (p0 p1 : List Answer) : ∀ n i, Qc7 p0 p1 n i = eqL (Qgj) p0 p1 n i := by
  intro n
  induction n with
  | zero => intro i; rfl
  | succ n ih => intro i; rw [Qc7, eqL, ih]
theorem Qjb (p0 : List Answer) : Qf1 p0 p0 = true := by
  unfold Qf1
  rw [decide_eq_true rfl, Qml]
  exact Qiu (Qoo) _ _ _
theorem Qmk (p0 p1 : List ByteArray) : ∀ n i, Qc6 p0 p1 n i = eqL (fun a b => decide (a = b)) p0 p1 n i := by
  intro n
  induction n with
  | zero => intro i; rfl
  | succ n ih => intro i; rw [Qc6, eqL, ih]
theorem Qi8 (p0 : List ByteArray) : Qfh p0 p0 = true := by
  unfold Qfh
  rw [decide_eq_true rfl, Qmk]
  exact Qiu (fun x => by simp) _ _ _
theorem Qpo (p0 : Touch) : Qh7 p0 p0 = true := by
  unfold Qh7
  simp only [decide_true, Bool.not_true, cond_false, Qi8]
theorem Qpr (p0 p1 : List Int) : ∀ n i, Qen p0 p1 n i = eqL (fun a b => decide (a = b)) p0 p1 n i := by
  intro n
  induction n with
  | zero => intro i; rfl
  | succ n ih => intro i; rw [Qen, eqL, ih]
theorem Qv4 (p0 : List Int) : Qi9 p0 p0 = true := by
  unfold Qi9
  rw [decide_eq_true rfl, Qpr]
  exact Qiu (fun x => by simp) _ _ _
theorem Qyy (p0 : Tx) : Qkd p0 p0 = true := by
  unfold Qkd
  simp only [decide_true, Bool.not_true, cond_false, Qjb, Qpt, Qv4, Qpo]
theorem Qv1 (p0 p1 : List Tx) : ∀ n i, Qex p0 p1 n i = eqL (Qkd) p0 p1 n i := by
  intro n
  induction n with
  | zero => intro i; rfl
  | succ n ih => intro i; rw [Qex, eqL, ih]
theorem Qxe (p0 : List Tx) : Qkc p0 p0 = true := by
  unfold Qkc
  rw [decide_eq_true rfl, Qv1]
  exact Qiu (Qyy) _ _ _
theorem Qv3 (p0 : Slot) : Qhx p0 p0 = true := by
  unfold Qhx
  simp only [decide_true, Bool.not_true, cond_false, Qke]
theorem Qoj (p0 p1 : List Slot) : ∀ n i, Qd7 p0 p1 n i = eqL (Qhx) p0 p1 n i := by
  intro n
  induction n with
  | zero => intro i; rfl
  | succ n ih => intro i; rw [Qd7, eqL, ih]
theorem Qpq (p0 : List Slot) : Qh9 p0 p0 = true := by
  unfold Qh9
  rw [decide_eq_true rfl, Qoj]
  exact Qiu (Qv3) _ _ _
theorem Qnh (p0 : Journal) : Qgp p0 p0 = true := by
  unfold Qgp
  simp only [decide_true, Bool.not_true, cond_false]
theorem Qv5 (p0 : Disk) : Qja p0 p0 = true := by
  unfold Qja
  simp only [decide_true, Bool.not_true, cond_false, Qnh, Qpq]
theorem Qv2 (p0 : Step) : Qhw p0 p0 = true := by
  unfold Qhw
  simp only [decide_true, Bool.not_true, cond_false, Qk6]
theorem Qoi (p0 p1 : List Step) : ∀ n i, Qd6 p0 p1 n i = eqL (Qhw) p0 p1 n i := by
  intro n
  induction n with
  | zero => intro i; rfl
  | succ n ih => intro i; rw [Qd6, eqL, ih]
theorem Qpp (p0 : List Step) : Qh8 p0 p0 = true := by
  unfold Qh8
  rw [decide_eq_true rfl, Qoi]
  exact Qiu (Qv2) _ _ _
theorem Qps (p0 : Entry) : Qg2 p0 p0 = true := by
  unfold Qg2
  simp only [decide_true, Bool.not_true, cond_false, Qjb, Qpp]
theorem Qni (p0 p1 : List Entry) : ∀ n i, Qdh p0 p1 n i = eqL (Qg2) p0 p1 n i := by
  intro n
  induction n with
  | zero => intro i; rfl
  | succ n ih => intro i; rw [Qdh, eqL, ih]
theorem Qol (p0 : List Entry) : Qhi p0 p0 = true := by
  unfold Qhi
  rw [decide_eq_true rfl, Qni]
  exact Qiu (Qps) _ _ _
theorem Qok (p0 : Kernel) : Qhh p0 p0 = true := by
  unfold Qhh
  simp only [decide_true, Bool.not_true, cond_false, Qke, Qv5, Qol, Qi8, Qxe]
end
section
open Go.RowKit
theorem fok9 : FnOk Tryz.prog 9 := ⟨_, Tryz.func9, rfl, by kernel_rfl⟩
theorem Ylv : FnOk Tryz.prog 11 := ⟨_, Tryz.func11, rfl, by kernel_rfl⟩
theorem Yrb : FnOk Tryz.prog 13 := ⟨_, Tryz.func13, rfl, by kernel_rfl⟩
theorem Yra : FnOk Tryz.prog 14 := ⟨_, Tryz.func14, rfl, by kernel_rfl⟩
theorem Yq9 : FnOk Tryz.prog 15 := ⟨_, Tryz.func15, rfl, by kernel_rfl⟩
def Qes (p0 : Kernel) : Bool := bif decide ((Qfd p0 1048576) < 0) then true else (bif !decide ((Qhk (Qc1 p0)) = (Qhb (Qc1 p0))) then false else (bif !(Qhh (Qc1 p0) (Qc1 p0)) then false else true))
theorem Qlg (p0 : Kernel) : CTs 4 [.o (.st Kernel _ inferInstance p0)] [Re.c (.bool (Qes p0))] := by
 refine en Tryz.func4 Tryz.ntmps4 fun w hG hgd => ?_
 obtain ⟨hg_p0, _⟩ := hgd
 have hM := Qes.eq_1 p0
 refine ad 13 ?_
 refine op (cl (Qx1 p0 1048576) fok9) ?_
 refine ad 8 ?_
 refine cd (fun h1 => ?_) (fun h1 => ?_)
 ·
  have hM := hM.trans (bt h1)
  refine ad 4 ?_
  exact rz (rs := [.tmp 2]) (congrArg (fun x => [Re.c (.bool x)]) hM)
 ·
  have hM := hM.trans (bf h1)
  have hsm := (Qnd p0 1048576 (by decide) (by decide) hg_p0 (of_decide_eq_false h1)).1
  have hsm2 : Dat.small 1048576 (Qc1 p0) := by rw [Qk5]; exact hsm
  refine ad 4 ?_
  refine og (clg (Qjh p0 (by first | assumption | exact Qct hs (by omega))) Ylv) fun hgq => ?_
  obtain ⟨hg2, _⟩ := hgq
  refine op (cl (Qxw (Qc1 p0) (by first | assumption | exact hsm2)) Yra) ?_
  refine ad 5 ?_
  refine og (clg (Qjh p0 (by first | assumption | exact Qct hs (by omega))) Ylv) fun hgq => ?_
  obtain ⟨hg3, _⟩ := hgq
  refine ad 6 ?_
  refine op (cl (Qx9 (Qc1 p0) (by first | assumption | exact hsm2)) Yq9) ?_
  refine ad 9 ?_
  refine cd (fun h4 => ?_) (fun h4 => ?_)
  ·
   have hM := hM.trans (bt h4)
   refine ad 4 ?_
   exact rz (rs := [.tmp 2]) (congrArg (fun x => [Re.c (.bool x)]) hM)
  ·
   have hM := hM.trans (bf h4)
   refine ad 3 ?_
   refine dr 5 fun _ _ _ _ _ hb => ?_
   refine tk [0, 1] ?_
   refine ong 2 [5, 6, 7, 8, 9, 10, 11, 12, 13, 14, 15, 16, 17, 18, 19, 20, 21] (clg (Qjh p0 (by first | assumption | exact Qct hs (by omega))) Ylv) fun hgq => ?_
   obtain ⟨hg5, _⟩ := hgq
   refine on 3 [5, 6, 7, 8, 9, 10, 11, 12, 13, 14, 15, 16, 17, 18, 19, 20, 21] (cl (Qx4 (Qc1 p0) (Qc1 p0)) Yrb) ?_
   refine tk [4] ?_
   refine dn hb ?_
   refine cd (fun h6 => ?_) (fun h6 => ?_)
   ·
    have hM := hM.trans (bt h6)
    refine ad 4 ?_
    exact rz (rs := [.tmp 2]) (congrArg (fun x => [Re.c (.bool x)]) hM)
   ·
    have hM := hM.trans (bf h6)
    refine ad 5 ?_
    exact rz (rs := [.tmp 2]) (congrArg (fun x => [Re.c (.bool x)]) hM)
end
section
open Go.RowKit
theorem Yh1 (l : List UInt8) (k : Nat) : Qak ⟨l.toArray⟩ k = l.getD k 0 := by
  unfold Qak
  simp [Array.getD_eq_getD_getElem?, List.getD_eq_getElem?_getD]
theorem cut1 (b : UInt8) (r : List UInt8) : cutS (⟨(b :: r).toArray⟩ : ByteArray) 0 1 = ⟨#[b]⟩ := by
  unfold cutS
  apply ByteArray.ext
  simp [ByteArray.data_extract]
theorem Yly (v : ByteArray) : Qa1 v ⟨#[45]⟩ = ((!decide (v = ⟨#[]⟩)) && (decide (((Qak v 0).toNat : Int) = 45))) := by
  obtain ⟨⟨l⟩⟩ := v
  cases l with
  | nil => rfl
  | cons b r =>
    have h1 : ¬ (⟨(b :: r).toArray⟩ : ByteArray) = ⟨#[]⟩ := fun e => by
      have := congrArg ByteArray.size e
      simp [ByteArray.size] at this
    unfold Qa1
    have h2 : ((⟨(b :: r).toArray⟩ : ByteArray).size : Int) ≥ ((⟨#[45]⟩ : ByteArray).size : Int) := by
      show ((r.length + 1 : Nat) : Int) ≥ 1
      omega
    rw [decide_eq_true h2, decide_eq_false h1, Bool.true_and, Bool.not_false, Bool.true_and]
    rw [show cutS (⟨(b :: r).toArray⟩ : ByteArray) 0 (⟨#[45]⟩ : ByteArray).size = ⟨#[b]⟩ from cut1 b r]
    rw [show Qak (⟨(b :: r).toArray⟩ : ByteArray) 0 = b by rw [Yh1]; rfl]
    apply decide_eq_decide.2
    constructor
    · intro e
      injection e with e
      have : b = 45 := by simpa using e
      rw [this]; rfl
    · intro e
      have : b = 45 := by
        have h3 : b.toNat = 45 := by omega
        exact UInt8.toNat_inj.1 h3
      rw [this]
theorem Q99 (v : ByteArray) : Qds v = bif ((!decide (v = ⟨#[]⟩)) && (decide (((Qak v 0).toNat : Int) = 45))) then ((Qcr (cutS v 1 v.size)).1) else ⟨#[]⟩ := by
  unfold Qds Qci Qbh
  rw [← Yly]
  cases Qa1 v ⟨#[45]⟩ with
  | false => rfl
  | true =>
    show (Qck (cutS v 1 v.size)).1 = (Qcr (cutS v 1 v.size)).1
    rw [Qp4]
theorem Qzv (p0 : List Cell) : ∀ (n : Nat) v (i : Nat), i + n ≤ 100 → Qeo p0 n v i = Qek p0 n v i := by
  intro n
  induction n with
  | zero => intro v i _; rfl
  | succ n ih =>
    intro v i h
    rw [Qeo, Qek, ih _ _ (by omega), Q99, Qk2, Yb6 _ _ (by unfold I64; omega)]
theorem Yb2 (p0 : List Cell) : Qjd p0 = Qi1 p0 := by
  have h := Yc7 (Qeh p0 ⟨#[100, 47, 110]⟩)
  have e : Qco p0 = Qap (Qdb (Qaq p0 ⟨#[100, 47, 110]⟩)) 0 40 := by
    rw [Yb9 (by rw [← Qk2, ← Q5s]; exact h.1), ← Qk2, ← Q5s]
    rfl
  unfold Qjd Qi1
  rw [e]
  have hb := Q5u (Qdb (Qaq p0 ⟨#[100, 47, 110]⟩))
  exact Qzv p0 _ _ 1 (by omega)
theorem Yie (a b : List ByteArray) : Qhl a b = Qhe a b := by
  unfold Qhl Qhe
  rw [Ygh]
theorem Ybs (p0 : Disk) : ∀ n i, Qcp p0 n i = p0 := by
  intro n
  induction n with
  | zero => intro i; rfl
  | succ n ih => intro i; rw [Qcp, ih]
theorem Yjj (p0 : Disk) : Qba p0 = p0 := Ybs p0 _ _
theorem Yf7 (p0 : Disk) : ∀ n v i, i + n = p0.Slots.length → v = p0.Slots.take i → Qdc p0 n v i = p0 := by
  intro n
  induction n with
  | zero =>
    intro v i hi hv
    rw [Qdc, hv, List.take_of_length_le (by omega)]
  | succ n ih =>
    intro v i hi hv
    rw [Qdc]
    refine ih _ (i + 1) (by omega) ?_
    rw [hv, Qis (by omega), List.nil_append]
theorem Yhw (p0 : Disk) : Qa6 p0 = p0 := Yf7 p0 _ _ 0 (by omega) rfl
theorem Ygi (a : Int) {c : Int} (h : 0 ≤ c) : Qda a 0 c = Qap a 0 c := by
  unfold Qda Qap
  cases h1 : (decide (c < 0) || decide (a < 0)) with
  | true =>
    have h2 : c < 0 ∨ a < 0 := by simpa using h1
    show max 0 (min a c) = 0
    omega
  | false =>
    have h2 := of_decide_eq_false (Bool.or_eq_false_iff.1 h1).2
    cases h3 : decide (a > c) with
    | true => have h4 := of_decide_eq_true h3; show max 0 (min a c) = c; omega
    | false => have h4 := of_decide_eq_false h3; show max 0 (min a c) = a; omega
theorem Qzw (p0 : Journal) : Qf2 p0 = Qah p0 := rfl
theorem Qwk (p0 : Journal) (p1 : Int) : Qcy p0 p1 = Qcv p0 p1 := by
  unfold Qcy Qcv
  rw [Qzw]
  cases h : Qah p0 with
  | false => rfl
  | true =>
    have hj := Qig h
    have hw1 : IntKind.i64.wrap ((p0.Text.size : Int) - p0.Sure) = (p0.Text.size : Int) - p0.Sure := IntWalk.i64_in _ (by omega)
    rw [Bool.not_true, cond_false, cond_false, hw1, Ygi _ (by omega)]
    have hbr := Qlm p1 (c := (p0.Text.size : Int) - p0.Sure) (by omega)
    rw [IntWalk.i64_in (p0.Sure + Qap p1 0 ((p0.Text.size : Int) - p0.Sure)) (by omega)]
    have hz0 : 0 ≤ p0.Sure + Qap p1 0 ((p0.Text.size : Int) - p0.Sure) ∧ p0.Sure + Qap p1 0 ((p0.Text.size : Int) - p0.Sure) ≤ (p0.Text.size : Int) := by omega
    generalize p0.Sure + Qap p1 0 ((p0.Text.size : Int) - p0.Sure) = z at hz0 ⊢
    have hz : ((cutS p0.Text 0 z.toNat).size : Int) = z := by
      unfold cutS
      rw [ByteArray.size_extract]
      omega
    rw [hz]
theorem Qwl (p0 : Disk) (p1 : Int) : ∀ n v i, Qcz p0 p1 n v i = Qcw p0 p1 n v i := by
  intro n
  induction n with
  | zero => intro v i; rw [Qcz, Qcw, Qwk, Yhw]
  | succ n ih => intro v i; rw [Qcz, Qcw, ih]
theorem Q7d (p0 : Disk) (p1 : Int) : Qfx p0 p1 = Qfr p0 p1 := by
  unfold Qfx Qfr
  rw [Yjj, Yhw, Qnn, Qwl]
theorem Q63 (k : Kernel) : Qgk k = Qgd k := by
  unfold Qgk Qgd
  rw [Q7d, Qmz, Yb2]
theorem Q66 (k : Kernel) : Qhk k = Qhb k := by
  unfold Qhk Qhb
  rw [Q63, Yie]
end
section
open Go.RowKit
theorem Q7c {P : Program} {W : World} {H : Type} {enc : TypeId × Value → H} {sp : Nat → Bool} {b : Bool} {fuel t g : Nat} {x : List MemPlace} {cs : Array Value} {nm nm2 : String} {d : DataW H} {ms : Array (String × TypeId)}
    (hg : P.globalNamed nm = some g) (hu : P.underlying t = some (.interface ms)) (hv : W.var? P nm = some cs) (hd : DataW.trod enc P W 0 sp b fuel t cs.toList = some (.iface nm2 d, x)) : GE g W := by
  have key : ∃ u v, cs.toList = [.iface u v] := by
    cases fuel with
    | zero => simp [DataW.trod] at hd
    | succ n =>
      generalize cs.toList = l at hd ⊢
      rcases l with _ | ⟨c, _ | ⟨c2, r⟩⟩
      · simp [DataW.trod, hu] at hd
      · cases c <;> first | exact ⟨_, _, rfl⟩ | simp [DataW.trod, hu] at hd
      · simp [DataW.trod, hu] at hd
  obtain ⟨u, v, e⟩ := key
  obtain ⟨T, fr, h⟩ := Yjw hg hv e
  refine ⟨u, v, ?_⟩
  simp [World.cell?, h]
end
end Go.Proofs.YtppialklomgajaaGreatDoor.Fw
