/-
  The texts HT, HQ, UL, PZ, GEi of this proof, one behind the other: what each proves stands at its head. No condition.
-/
import Derived.Lib.ShelfFacts
import Derived.Test.YtppialklomgajaaGreatDoorASA
import Derived.Test.YtppialklomgajaaGreatDoorASB
import Derived.Test.YtppialklomgajaaGreatDoorASC
import Derived.Test.YtppialklomgajaaGreatDoorASD
import Derived.Test.YtppialklomgajaaGreatDoorASE
/- Contracts: each call returns what the model says. By program (wip/am/gen2.py). -/
namespace Go.Proofs.YtppialklomgajaaGreatDoor.Fw
open Go.RowKit
set_option linter.unusedVariables false
set_option linter.unusedSimpArgs false
set_option maxRecDepth 100000
set_option maxHeartbeats 2000000

theorem fok18 : FnOk Tryz.prog 18 := ⟨_, Tryz.func18, rfl, by kernel_rfl⟩
theorem fok24 : FnOk Tryz.prog 24 := ⟨_, Tryz.func24, rfl, by kernel_rfl⟩
theorem fok38 : FnOk Tryz.prog 38 := ⟨_, Tryz.func38, rfl, by kernel_rfl⟩
theorem fok39 : FnOk Tryz.prog 39 := ⟨_, Tryz.func39, rfl, by kernel_rfl⟩
theorem fok40 : FnOk Tryz.prog 40 := ⟨_, Tryz.func40, rfl, by kernel_rfl⟩
theorem fok41 : FnOk Tryz.prog 41 := ⟨_, Tryz.func41, rfl, by kernel_rfl⟩
theorem fok42 : FnOk Tryz.prog 42 := ⟨_, Tryz.func42, rfl, by kernel_rfl⟩
theorem fok45 : FnOk Tryz.prog 45 := ⟨_, Tryz.func45, rfl, by kernel_rfl⟩
theorem fok46 : FnOk Tryz.prog 46 := ⟨_, Tryz.func46, rfl, by kernel_rfl⟩
theorem fok47 : FnOk Tryz.prog 47 := ⟨_, Tryz.func47, rfl, by kernel_rfl⟩
theorem fok63 : FnOk Tryz.prog 63 := ⟨_, Tryz.func63, rfl, by kernel_rfl⟩
theorem fok83 : FnOk Tryz.prog 83 := ⟨_, Tryz.func83, rfl, by kernel_rfl⟩
theorem fok84 : FnOk Tryz.prog 84 := ⟨_, Tryz.func84, rfl, by kernel_rfl⟩
theorem fok85 : FnOk Tryz.prog 85 := ⟨_, Tryz.func85, rfl, by kernel_rfl⟩
theorem fok86 : FnOk Tryz.prog 86 := ⟨_, Tryz.func86, rfl, by kernel_rfl⟩
theorem fok87 : FnOk Tryz.prog 87 := ⟨_, Tryz.func87, rfl, by kernel_rfl⟩
theorem fok94 : FnOk Tryz.prog 94 := ⟨_, Tryz.func94, rfl, by kernel_rfl⟩
theorem fok95 : FnOk Tryz.prog 95 := ⟨_, Tryz.func95, rfl, by kernel_rfl⟩
theorem fok96 : FnOk Tryz.prog 96 := ⟨_, Tryz.func96, rfl, by kernel_rfl⟩
theorem fok97 : FnOk Tryz.prog 97 := ⟨_, Tryz.func97, rfl, by kernel_rfl⟩
theorem fok122 : FnOk Tryz.prog 122 := ⟨_, Tryz.func122, rfl, by kernel_rfl⟩
theorem fok123 : FnOk Tryz.prog 123 := ⟨_, Tryz.func123, rfl, by kernel_rfl⟩
theorem fok152 : FnOk Tryz.prog 152 := ⟨_, Tryz.func152, rfl, by kernel_rfl⟩
theorem fok153 : FnOk Tryz.prog 153 := ⟨_, Tryz.func153, rfl, by kernel_rfl⟩
theorem fok154 : FnOk Tryz.prog 154 := ⟨_, Tryz.func154, rfl, by kernel_rfl⟩
theorem fok155 : FnOk Tryz.prog 155 := ⟨_, Tryz.func155, rfl, by kernel_rfl⟩
theorem fok156 : FnOk Tryz.prog 156 := ⟨_, Tryz.func156, rfl, by kernel_rfl⟩
theorem fok157 : FnOk Tryz.prog 157 := ⟨_, Tryz.func157, rfl, by kernel_rfl⟩
theorem fok169 : FnOk Tryz.prog 169 := ⟨_, Tryz.func169, rfl, by kernel_rfl⟩
theorem fok170 : FnOk Tryz.prog 170 := ⟨_, Tryz.func170, rfl, by kernel_rfl⟩
theorem fok171 : FnOk Tryz.prog 171 := ⟨_, Tryz.func171, rfl, by kernel_rfl⟩
theorem fok172 : FnOk Tryz.prog 172 := ⟨_, Tryz.func172, rfl, by kernel_rfl⟩
theorem fok183 : FnOk Tryz.prog 183 := ⟨_, Tryz.func183, rfl, by kernel_rfl⟩
theorem fok184 : FnOk Tryz.prog 184 := ⟨_, Tryz.func184, rfl, by kernel_rfl⟩
theorem fok212 : FnOk Tryz.prog 212 := ⟨_, Tryz.func212, rfl, by kernel_rfl⟩
theorem fok213 : FnOk Tryz.prog 213 := ⟨_, Tryz.func213, rfl, by kernel_rfl⟩
theorem fok214 : FnOk Tryz.prog 214 := ⟨_, Tryz.func214, rfl, by kernel_rfl⟩
theorem fok223 : FnOk Tryz.prog 223 := ⟨_, Tryz.func223, rfl, by kernel_rfl⟩
/- F83 loop.example/g00974/laws.toCell -/
def laws_toCell (p0 : Cell) : Cell := p0
theorem c_laws_toCell (p0 : Cell) : CTs 83 [.o (.st Cell _ inferInstance p0)] [Re.st Cell _ inferInstance (laws_toCell p0)] := by
  refine en Tryz.func83 Tryz.ntmps83 fun w hG hgd => ?_
  obtain ⟨hg_p0, _⟩ := hgd
  have hM := laws_toCell.eq_1 p0
  refine ad 28 ?_
  exact rz (rs := [.cell 2 114]) (congrArg (fun x => [Re.st Cell _ inferInstance x]) hM)

/- F38 loop.example/g00974/laws.toCellS -/
def laws_toCellS_l1 (p0 : List Cell) : Nat → (List Cell) → Nat → (List Cell)
  | 0, w1, i => w1
  | n + 1, w1, i => laws_toCellS_l1 p0 n (w1.set i (laws_toCell (nth p0 i))) (i + 1)
def laws_toCellS (p0 : List Cell) : (List Cell) := laws_toCellS_l1 p0 (p0.length - 0) (List.replicate p0.length (Cell.mk ⟨#[]⟩ ⟨#[]⟩)) 0
theorem c_laws_toCellS (p0 : List Cell) (hs : Dat.small 1048576 p0) : CTs 38 [.o (.sl Cell instDatCell p0)] [Re.sl Cell instDatCell (laws_toCellS p0)] := by
  refine en Tryz.func38 Tryz.ntmps38 fun w hG hgd => ?_
  obtain ⟨hg_p0, _⟩ := hgd
  have hl_p0 : p0.length ≤ 9223372036854775807 := hg_p0.1
  have hM := laws_toCellS.eq_1 p0
  have hs0 : p0.length ≤ 1048576 := hs.1
  refine ad 8 ?_
  refine op (ma p0.length (Cell.mk ⟨#[]⟩ ⟨#[]⟩)) ?_
  refine ad 8 ?_
  refine Run.loopM (ι := (List Cell) × Nat) (fun s => laws_toCellS_l1 p0 (p0.length - s.2) s.1 s.2) (fun s => ⟨23, 2, [(0, .sl 0 p0.length), (3, .sl 1 s.1.length), (4, .v (.int .i64 (s.2 : Int)))], [(0, .ros Cell instDatCell p0), (1, .own Cell instDatCell s.1)]⟩) (fun s => s.2 ≤ p0.length ∧ s.1.length = p0.length) (fun s => p0.length - s.2) ((List.replicate p0.length (Cell.mk ⟨#[]⟩ ⟨#[]⟩)), 0) [0, 1] [1, 0] hM (by first | exact ⟨by omega, by simp⟩ | omega | simp | (dsimp only; omega)) su (by decide) ?_
  rintro ⟨w1, i⟩ hv hE
  try dsimp only at hE
  obtain ⟨hi, hv0⟩ := hv
  try dsimp only at hi hv0
  refine ad 8 ?_
  refine cd (fun h1 => ?_) (fun h1 => ?_)
  ·
    have h1l : i < p0.length := by have := of_decide_eq_true h1; omega
    have hM := hE.trans ((congrArg (fun n => laws_toCellS_l1 p0 n w1 i) (show p0.length - i = (p0.length - (i + 1)) + 1 by omega)).trans (laws_toCellS_l1.eq_2 _ _ _ _))
    refine ad 8 ?_
    have hg3 := good_nth (k := i) hg_p0 om
    refine op (ix (xs := p0) i om) ?_
    refine ad 1 ?_
    have hg4 : Dat.good (nth p0 i : Cell) := hg3
    refine og (clg (c_laws_toCell (nth p0 i)) fok83) fun hgq => ?_
    obtain ⟨hg5, _⟩ := hgq
    refine op (oi (xs := w1) i om) ?_
    refine op (se (xs := w1) i (laws_toCell (nth p0 i)) hg5 om) ?_
    refine ad 5 ?_
    rw [wrapN (i := i) (by first | omega | exact om)]
    refine ad 2 ?_
    exact Run.again ((w1.set i (laws_toCell (nth p0 i))), (i + 1)) [0, 3] [2, 0] ⟨by first | omega | exact trivial | (dsimp only; omega) | (refine ⟨by omega, ?_⟩; simp_all; try omega), hM⟩ rfl (by show _ - _ < _ - _; (try dsimp only); omega) su (by decide)
  ·
    have h1l : ¬ (i < p0.length) := by have := of_decide_eq_false h1; omega
    have hM := hE.trans ((congrArg (fun n => laws_toCellS_l1 p0 n w1 i) (show p0.length - i = 0 by omega)).trans (laws_toCellS_l1.eq_1 _ _ _))
    refine ad 6 ?_
    exact rz (rs := [.tmp 2]) (congrArg (fun x => [Re.sl Cell instDatCell x]) hM)

/- F212 loop.example/g00974/laws.toCall -/
def laws_toCall (p0 : Call) : Call := p0
theorem c_laws_toCall (p0 : Call) : CTs 212 [.o (.st Call _ inferInstance p0)] [Re.st Call _ inferInstance (laws_toCall p0)] := by
  refine en Tryz.func212 Tryz.ntmps212 fun w hG hgd => ?_
  obtain ⟨hg_p0, _⟩ := hgd
  have hM := laws_toCall.eq_1 p0
  refine ad 56 ?_
  exact rz (rs := [.cell 2 149]) (congrArg (fun x => [Re.st Call _ inferInstance x]) hM)

/- F152 loop.example/g00974/laws.toCallS -/
def laws_toCallS_l1 (p0 : List Call) : Nat → (List Call) → Nat → (List Call)
  | 0, w1, i => w1
  | n + 1, w1, i => laws_toCallS_l1 p0 n (w1.set i (laws_toCall (nth p0 i))) (i + 1)
def laws_toCallS (p0 : List Call) : (List Call) := laws_toCallS_l1 p0 (p0.length - 0) (List.replicate p0.length (Call.mk 0 ⟨#[]⟩ ⟨#[]⟩ 0 0 ⟨#[]⟩)) 0
theorem c_laws_toCallS (p0 : List Call) (hs : Dat.small 1048576 p0) : CTs 152 [.o (.sl Call instDatCall p0)] [Re.sl Call instDatCall (laws_toCallS p0)] := by
  refine en Tryz.func152 Tryz.ntmps152 fun w hG hgd => ?_
  obtain ⟨hg_p0, _⟩ := hgd
  have hl_p0 : p0.length ≤ 9223372036854775807 := hg_p0.1
  have hM := laws_toCallS.eq_1 p0
  have hs0 : p0.length ≤ 1048576 := hs.1
  refine ad 8 ?_
  refine op (ma p0.length (Call.mk 0 ⟨#[]⟩ ⟨#[]⟩ 0 0 ⟨#[]⟩) (ho := gdz)) ?_
  refine ad 8 ?_
  refine Run.loopM (ι := (List Call) × Nat) (fun s => laws_toCallS_l1 p0 (p0.length - s.2) s.1 s.2) (fun s => ⟨23, 2, [(0, .sl 0 p0.length), (3, .sl 1 s.1.length), (4, .v (.int .i64 (s.2 : Int)))], [(0, .ros Call instDatCall p0), (1, .own Call instDatCall s.1)]⟩) (fun s => s.2 ≤ p0.length ∧ s.1.length = p0.length) (fun s => p0.length - s.2) ((List.replicate p0.length (Call.mk 0 ⟨#[]⟩ ⟨#[]⟩ 0 0 ⟨#[]⟩)), 0) [0, 1] [1, 0] hM (by first | exact ⟨by omega, by simp⟩ | omega | simp | (dsimp only; omega)) su (by decide) ?_
  rintro ⟨w1, i⟩ hv hE
  try dsimp only at hE
  obtain ⟨hi, hv0⟩ := hv
  try dsimp only at hi hv0
  refine ad 8 ?_
  refine cd (fun h1 => ?_) (fun h1 => ?_)
  ·
    have h1l : i < p0.length := by have := of_decide_eq_true h1; omega
    have hM := hE.trans ((congrArg (fun n => laws_toCallS_l1 p0 n w1 i) (show p0.length - i = (p0.length - (i + 1)) + 1 by omega)).trans (laws_toCallS_l1.eq_2 _ _ _ _))
    refine ad 8 ?_
    have hg3 := good_nth (k := i) hg_p0 om
    refine op (ix (xs := p0) i om) ?_
    refine ad 1 ?_
    have hg4 : Dat.good (nth p0 i : Call) := hg3
    refine og (clg (c_laws_toCall (nth p0 i)) fok212) fun hgq => ?_
    obtain ⟨hg5, _⟩ := hgq
    refine op (oi (xs := w1) i om) ?_
    refine op (se (xs := w1) i (laws_toCall (nth p0 i)) hg5 om) ?_
    refine ad 5 ?_
    rw [wrapN (i := i) (by first | omega | exact om)]
    refine ad 2 ?_
    exact Run.again ((w1.set i (laws_toCall (nth p0 i))), (i + 1)) [0, 3] [2, 0] ⟨by first | omega | exact trivial | (dsimp only; omega) | (refine ⟨by omega, ?_⟩; simp_all; try omega), hM⟩ rfl (by show _ - _ < _ - _; (try dsimp only); omega) su (by decide)
  ·
    have h1l : ¬ (i < p0.length) := by have := of_decide_eq_false h1; omega
    have hM := hE.trans ((congrArg (fun n => laws_toCallS_l1 p0 n w1 i) (show p0.length - i = 0 by omega)).trans (laws_toCallS_l1.eq_1 _ _ _))
    refine ad 6 ?_
    exact rz (rs := [.tmp 2]) (congrArg (fun x => [Re.sl Call instDatCall x]) hM)

/- F213 loop.example/g00974/laws.toAnswer -/
def laws_toAnswer (p0 : Answer) : Answer := p0
theorem c_laws_toAnswer (p0 : Answer) : CTs 213 [.o (.st Answer _ inferInstance p0)] [Re.st Answer _ inferInstance (laws_toAnswer p0)] := by
  refine en Tryz.func213 Tryz.ntmps213 fun w hG hgd => ?_
  obtain ⟨hg_p0, _⟩ := hgd
  have hM := laws_toAnswer.eq_1 p0
  refine ad 35 ?_
  exact rz (rs := [.cell 2 154]) (congrArg (fun x => [Re.st Answer _ inferInstance x]) hM)

/- F153 loop.example/g00974/laws.toAnswerS -/
def laws_toAnswerS_l1 (p0 : List Answer) : Nat → (List Answer) → Nat → (List Answer)
  | 0, w1, i => w1
  | n + 1, w1, i => laws_toAnswerS_l1 p0 n (w1.set i (laws_toAnswer (nth p0 i))) (i + 1)
def laws_toAnswerS (p0 : List Answer) : (List Answer) := laws_toAnswerS_l1 p0 (p0.length - 0) (List.replicate p0.length (Answer.mk 0 0 ⟨#[]⟩)) 0
theorem c_laws_toAnswerS (p0 : List Answer) (hs : Dat.small 1048576 p0) : CTs 153 [.o (.sl Answer instDatAnswer p0)] [Re.sl Answer instDatAnswer (laws_toAnswerS p0)] := by
  refine en Tryz.func153 Tryz.ntmps153 fun w hG hgd => ?_
  obtain ⟨hg_p0, _⟩ := hgd
  have hl_p0 : p0.length ≤ 9223372036854775807 := hg_p0.1
  have hM := laws_toAnswerS.eq_1 p0
  have hs0 : p0.length ≤ 1048576 := hs.1
  refine ad 8 ?_
  refine op (ma p0.length (Answer.mk 0 0 ⟨#[]⟩) (ho := gdz)) ?_
  refine ad 8 ?_
  refine Run.loopM (ι := (List Answer) × Nat) (fun s => laws_toAnswerS_l1 p0 (p0.length - s.2) s.1 s.2) (fun s => ⟨23, 2, [(0, .sl 0 p0.length), (3, .sl 1 s.1.length), (4, .v (.int .i64 (s.2 : Int)))], [(0, .ros Answer instDatAnswer p0), (1, .own Answer instDatAnswer s.1)]⟩) (fun s => s.2 ≤ p0.length ∧ s.1.length = p0.length) (fun s => p0.length - s.2) ((List.replicate p0.length (Answer.mk 0 0 ⟨#[]⟩)), 0) [0, 1] [1, 0] hM (by first | exact ⟨by omega, by simp⟩ | omega | simp | (dsimp only; omega)) su (by decide) ?_
  rintro ⟨w1, i⟩ hv hE
  try dsimp only at hE
  obtain ⟨hi, hv0⟩ := hv
  try dsimp only at hi hv0
  refine ad 8 ?_
  refine cd (fun h1 => ?_) (fun h1 => ?_)
  ·
    have h1l : i < p0.length := by have := of_decide_eq_true h1; omega
    have hM := hE.trans ((congrArg (fun n => laws_toAnswerS_l1 p0 n w1 i) (show p0.length - i = (p0.length - (i + 1)) + 1 by omega)).trans (laws_toAnswerS_l1.eq_2 _ _ _ _))
    refine ad 8 ?_
    have hg3 := good_nth (k := i) hg_p0 om
    refine op (ix (xs := p0) i om) ?_
    refine ad 1 ?_
    have hg4 : Dat.good (nth p0 i : Answer) := hg3
    refine og (clg (c_laws_toAnswer (nth p0 i)) fok213) fun hgq => ?_
    obtain ⟨hg5, _⟩ := hgq
    refine op (oi (xs := w1) i om) ?_
    refine op (se (xs := w1) i (laws_toAnswer (nth p0 i)) hg5 om) ?_
    refine ad 5 ?_
    rw [wrapN (i := i) (by first | omega | exact om)]
    refine ad 2 ?_
    exact Run.again ((w1.set i (laws_toAnswer (nth p0 i))), (i + 1)) [0, 3] [2, 0] ⟨by first | omega | exact trivial | (dsimp only; omega) | (refine ⟨by omega, ?_⟩; simp_all; try omega), hM⟩ rfl (by show _ - _ < _ - _; (try dsimp only); omega) su (by decide)
  ·
    have h1l : ¬ (i < p0.length) := by have := of_decide_eq_false h1; omega
    have hM := hE.trans ((congrArg (fun n => laws_toAnswerS_l1 p0 n w1 i) (show p0.length - i = 0 by omega)).trans (laws_toAnswerS_l1.eq_1 _ _ _))
    refine ad 6 ?_
    exact rz (rs := [.tmp 2]) (congrArg (fun x => [Re.sl Answer instDatAnswer x]) hM)

/- F42 loop.example/g00974/laws.toStringS -/
def laws_toStringS_l1 (p0 : List ByteArray) : Nat → (List ByteArray) → Nat → (List ByteArray)
  | 0, w1, i => w1
  | n + 1, w1, i => laws_toStringS_l1 p0 n (w1.set i (nth p0 i)) (i + 1)
def laws_toStringS (p0 : List ByteArray) : (List ByteArray) := laws_toStringS_l1 p0 (p0.length - 0) (List.replicate p0.length (⟨#[]⟩ : ByteArray)) 0
theorem c_laws_toStringS (p0 : List ByteArray) (hs : Dat.small 1048576 p0) : CTs 42 [.o (.sl ByteArray instDatByteArray p0)] [Re.sl ByteArray instDatByteArray (laws_toStringS p0)] := by
  refine en Tryz.func42 Tryz.ntmps42 fun w hG hgd => ?_
  obtain ⟨hg_p0, _⟩ := hgd
  have hl_p0 : p0.length ≤ 9223372036854775807 := hg_p0.1
  have hM := laws_toStringS.eq_1 p0
  have hs0 : p0.length ≤ 1048576 := hs.1
  refine ad 8 ?_
  refine op (ma p0.length (⟨#[]⟩ : ByteArray)) ?_
  refine ad 8 ?_
  refine Run.loopM (ι := (List ByteArray) × Nat) (fun s => laws_toStringS_l1 p0 (p0.length - s.2) s.1 s.2) (fun s => ⟨22, 2, [(0, .sl 0 p0.length), (3, .sl 1 s.1.length), (4, .v (.int .i64 (s.2 : Int)))], [(0, .ros ByteArray instDatByteArray p0), (1, .own ByteArray instDatByteArray s.1)]⟩) (fun s => s.2 ≤ p0.length ∧ s.1.length = p0.length) (fun s => p0.length - s.2) ((List.replicate p0.length (⟨#[]⟩ : ByteArray)), 0) [0, 1] [1, 0] hM (by first | exact ⟨by omega, by simp⟩ | omega | simp | (dsimp only; omega)) su (by decide) ?_
  rintro ⟨w1, i⟩ hv hE
  try dsimp only at hE
  obtain ⟨hi, hv0⟩ := hv
  try dsimp only at hi hv0
  refine ad 8 ?_
  refine cd (fun h1 => ?_) (fun h1 => ?_)
  ·
    have h1l : i < p0.length := by have := of_decide_eq_true h1; omega
    have hM := hE.trans ((congrArg (fun n => laws_toStringS_l1 p0 n w1 i) (show p0.length - i = (p0.length - (i + 1)) + 1 by omega)).trans (laws_toStringS_l1.eq_2 _ _ _ _))
    refine ad 8 ?_
    have hg3 := good_nth (k := i) hg_p0 om
    refine op (ix (xs := p0) i om) ?_
    refine ad 1 ?_
    refine op (oi (xs := w1) i om) ?_
    refine op (se (xs := w1) i (nth p0 i) hg3 om) ?_
    refine ad 5 ?_
    rw [wrapN (i := i) (by first | omega | exact om)]
    refine ad 2 ?_
    exact Run.again ((w1.set i (nth p0 i)), (i + 1)) [0, 3] [2, 0] ⟨by first | omega | exact trivial | (dsimp only; omega) | (refine ⟨by omega, ?_⟩; simp_all; try omega), hM⟩ rfl (by show _ - _ < _ - _; (try dsimp only); omega) su (by decide)
  ·
    have h1l : ¬ (i < p0.length) := by have := of_decide_eq_false h1; omega
    have hM := hE.trans ((congrArg (fun n => laws_toStringS_l1 p0 n w1 i) (show p0.length - i = 0 by omega)).trans (laws_toStringS_l1.eq_1 _ _ _))
    refine ad 6 ?_
    exact rz (rs := [.tmp 2]) (congrArg (fun x => [Re.sl ByteArray instDatByteArray x]) hM)

/- F154 loop.example/g00974/laws.toTouch -/
def laws_toTouch (p0 : Touch) : Touch := (Touch.mk (laws_toStringS p0.Reads) (laws_toStringS p0.Writes))
theorem c_laws_toTouch (p0 : Touch) (hs : Dat.small 1048576 p0) : CTs 154 [.o (.st Touch _ inferInstance p0)] [Re.st Touch _ inferInstance (laws_toTouch p0)] := by
  refine en Tryz.func154 Tryz.ntmps154 fun w hG hgd => ?_
  obtain ⟨hg_p0, _⟩ := hgd
  have hM := laws_toTouch.eq_1 p0
  have hs0 : Dat.small 1048576 p0.Reads := hs.1
  have hs1 : Dat.small 1048576 p0.Writes := hs.2
  refine ad 13 ?_
  refine og (clg (c_laws_toStringS p0.Reads (by first | assumption | exact small_nth hs (by omega))) fok42) fun hgq => ?_
  obtain ⟨hg1, _⟩ := hgq
  refine ad 7 ?_
  refine og (clg (c_laws_toStringS p0.Writes (by first | assumption | exact small_nth hs (by omega))) fok42) fun hgq => ?_
  obtain ⟨hg2, _⟩ := hgq
  refine ad 8 ?_
  have hg3 : Dat.good (Touch.mk (laws_toStringS p0.Reads) (laws_toStringS p0.Writes) : Touch) := ⟨hg1, hg2⟩
  exact rz (rs := [.cell 2 117]) (congrArg (fun x => [Re.st Touch _ inferInstance x]) hM)

/- F155 loop.example/g00974/laws.toIntS -/
def laws_toIntS_l1 (p0 : List Int) : Nat → (List Int) → Nat → (List Int)
  | 0, w1, i => w1
  | n + 1, w1, i => laws_toIntS_l1 p0 n (w1.set i (nth p0 i)) (i + 1)
def laws_toIntS (p0 : List Int) : (List Int) := laws_toIntS_l1 p0 (p0.length - 0) (List.replicate p0.length (0 : Int)) 0
theorem c_laws_toIntS (p0 : List Int) (hs : Dat.small 1048576 p0) : CTs 155 [.o (.sl Int instDatInt p0)] [Re.sl Int instDatInt (laws_toIntS p0)] := by
  refine en Tryz.func155 Tryz.ntmps155 fun w hG hgd => ?_
  obtain ⟨hg_p0, _⟩ := hgd
  have hl_p0 : p0.length ≤ 9223372036854775807 := hg_p0.1
  have hM := laws_toIntS.eq_1 p0
  have hs0 : p0.length ≤ 1048576 := hs.1
  refine ad 8 ?_
  refine op (ma p0.length (0 : Int)) ?_
  refine ad 8 ?_
  refine Run.loopM (ι := (List Int) × Nat) (fun s => laws_toIntS_l1 p0 (p0.length - s.2) s.1 s.2) (fun s => ⟨22, 2, [(0, .sl 0 p0.length), (3, .sl 1 s.1.length), (4, .v (.int .i64 (s.2 : Int)))], [(0, .ros Int instDatInt p0), (1, .own Int instDatInt s.1)]⟩) (fun s => s.2 ≤ p0.length ∧ s.1.length = p0.length) (fun s => p0.length - s.2) ((List.replicate p0.length (0 : Int)), 0) [0, 1] [1, 0] hM (by first | exact ⟨by omega, by simp⟩ | omega | simp | (dsimp only; omega)) su (by decide) ?_
  rintro ⟨w1, i⟩ hv hE
  try dsimp only at hE
  obtain ⟨hi, hv0⟩ := hv
  try dsimp only at hi hv0
  refine ad 8 ?_
  refine cd (fun h1 => ?_) (fun h1 => ?_)
  ·
    have h1l : i < p0.length := by have := of_decide_eq_true h1; omega
    have hM := hE.trans ((congrArg (fun n => laws_toIntS_l1 p0 n w1 i) (show p0.length - i = (p0.length - (i + 1)) + 1 by omega)).trans (laws_toIntS_l1.eq_2 _ _ _ _))
    refine ad 8 ?_
    have hg3 := good_nth (k := i) hg_p0 om
    refine op (ix (xs := p0) i om) ?_
    refine ad 1 ?_
    refine op (oi (xs := w1) i om) ?_
    refine op (se (xs := w1) i (nth p0 i) hg3 om) ?_
    refine ad 5 ?_
    rw [wrapN (i := i) (by first | omega | exact om)]
    refine ad 2 ?_
    exact Run.again ((w1.set i (nth p0 i)), (i + 1)) [0, 3] [2, 0] ⟨by first | omega | exact trivial | (dsimp only; omega) | (refine ⟨by omega, ?_⟩; simp_all; try omega), hM⟩ rfl (by show _ - _ < _ - _; (try dsimp only); omega) su (by decide)
  ·
    have h1l : ¬ (i < p0.length) := by have := of_decide_eq_false h1; omega
    have hM := hE.trans ((congrArg (fun n => laws_toIntS_l1 p0 n w1 i) (show p0.length - i = 0 by omega)).trans (laws_toIntS_l1.eq_1 _ _ _))
    refine ad 6 ?_
    exact rz (rs := [.tmp 2]) (congrArg (fun x => [Re.sl Int instDatInt x]) hM)

/- F84 loop.example/g00974/laws.toTx -/
def laws_toTx (p0 : Tx) : Tx := (Tx.mk p0.Id p0.Age p0.Proc p0.Began (laws_toCallS p0.Calls) (laws_toAnswerS p0.Answers) (laws_toTouch p0.Touch) (laws_toIntS p0.Marks) p0.State)
theorem c_laws_toTx (p0 : Tx) (hs : Dat.small 1048576 p0) : CTs 84 [.o (.st Tx _ inferInstance p0)] [Re.st Tx _ inferInstance (laws_toTx p0)] := by
  refine en Tryz.func84 Tryz.ntmps84 fun w hG hgd => ?_
  obtain ⟨hg_p0, _⟩ := hgd
  have hM := laws_toTx.eq_1 p0
  have hs4 : Dat.small 1048576 p0.Calls := hs.2.2.2.2.1
  have hs5 : Dat.small 1048576 p0.Answers := hs.2.2.2.2.2.1
  have hs6 : Dat.small 1048576 p0.Touch := hs.2.2.2.2.2.2.1
  have hs7 : Dat.small 1048576 p0.Marks := hs.2.2.2.2.2.2.2.1
  refine ad 41 ?_
  refine og (clg (c_laws_toCallS p0.Calls (by first | assumption | exact small_nth hs (by omega))) fok152) fun hgq => ?_
  obtain ⟨hg1, _⟩ := hgq
  refine ad 7 ?_
  refine og (clg (c_laws_toAnswerS p0.Answers (by first | assumption | exact small_nth hs (by omega))) fok153) fun hgq => ?_
  obtain ⟨hg2, _⟩ := hgq
  refine ad 7 ?_
  have hg3 : Dat.good (p0.Touch : Touch) := hg_p0.2.2.2.2.2.2.1
  refine og (clg (c_laws_toTouch p0.Touch (by first | assumption | exact small_nth hs (by omega))) fok154) fun hgq => ?_
  obtain ⟨hg4, _⟩ := hgq
  refine ad 7 ?_
  refine og (clg (c_laws_toIntS p0.Marks (by first | assumption | exact small_nth hs (by omega))) fok155) fun hgq => ?_
  obtain ⟨hg5, _⟩ := hgq
  refine ad 15 ?_
  have hg6 : Dat.good (Tx.mk p0.Id p0.Age p0.Proc p0.Began (laws_toCallS p0.Calls) (laws_toAnswerS p0.Answers) (laws_toTouch p0.Touch) (laws_toIntS p0.Marks) p0.State : Tx) := ⟨hg_p0.1, hg_p0.2.1, hg_p0.2.2.1, hg_p0.2.2.2.1, hg1, hg2, hg4, hg5, hg_p0.2.2.2.2.2.2.2.2⟩
  exact rz (rs := [.cell 2 119]) (congrArg (fun x => [Re.st Tx _ inferInstance x]) hM)

/- F39 loop.example/g00974/laws.toTxS -/
def laws_toTxS_l1 (p0 : List Tx) : Nat → (List Tx) → Nat → (List Tx)
  | 0, w1, i => w1
  | n + 1, w1, i => laws_toTxS_l1 p0 n (w1.set i (laws_toTx (nth p0 i))) (i + 1)
def laws_toTxS (p0 : List Tx) : (List Tx) := laws_toTxS_l1 p0 (p0.length - 0) (List.replicate p0.length (Tx.mk 0 0 0 0 [] [] (Touch.mk [] []) [] 0)) 0
theorem c_laws_toTxS (p0 : List Tx) (hs : Dat.small 1048576 p0) : CTs 39 [.o (.sl Tx instDatTx p0)] [Re.sl Tx instDatTx (laws_toTxS p0)] := by
  refine en Tryz.func39 Tryz.ntmps39 fun w hG hgd => ?_
  obtain ⟨hg_p0, _⟩ := hgd
  have hl_p0 : p0.length ≤ 9223372036854775807 := hg_p0.1
  have hM := laws_toTxS.eq_1 p0
  have hs0 : p0.length ≤ 1048576 := hs.1
  refine ad 8 ?_
  refine op (ma p0.length (Tx.mk 0 0 0 0 [] [] (Touch.mk [] []) [] 0) (ho := gdz)) ?_
  refine ad 8 ?_
  refine Run.loopM (ι := (List Tx) × Nat) (fun s => laws_toTxS_l1 p0 (p0.length - s.2) s.1 s.2) (fun s => ⟨23, 2, [(0, .sl 0 p0.length), (3, .sl 1 s.1.length), (4, .v (.int .i64 (s.2 : Int)))], [(0, .ros Tx instDatTx p0), (1, .own Tx instDatTx s.1)]⟩) (fun s => s.2 ≤ p0.length ∧ s.1.length = p0.length) (fun s => p0.length - s.2) ((List.replicate p0.length (Tx.mk 0 0 0 0 [] [] (Touch.mk [] []) [] 0)), 0) [0, 1] [1, 0] hM (by first | exact ⟨by omega, by simp⟩ | omega | simp | (dsimp only; omega)) su (by decide) ?_
  rintro ⟨w1, i⟩ hv hE
  try dsimp only at hE
  obtain ⟨hi, hv0⟩ := hv
  try dsimp only at hi hv0
  refine ad 8 ?_
  refine cd (fun h1 => ?_) (fun h1 => ?_)
  ·
    have h1l : i < p0.length := by have := of_decide_eq_true h1; omega
    have hM := hE.trans ((congrArg (fun n => laws_toTxS_l1 p0 n w1 i) (show p0.length - i = (p0.length - (i + 1)) + 1 by omega)).trans (laws_toTxS_l1.eq_2 _ _ _ _))
    refine ad 8 ?_
    have hg3 := good_nth (k := i) hg_p0 om
    refine op (ix (xs := p0) i om) ?_
    refine ad 1 ?_
    have hg4 : Dat.good (nth p0 i : Tx) := hg3
    refine og (clg (c_laws_toTx (nth p0 i) (by first | assumption | exact small_nth hs (by omega))) fok84) fun hgq => ?_
    obtain ⟨hg5, _⟩ := hgq
    refine op (oi (xs := w1) i om) ?_
    refine op (se (xs := w1) i (laws_toTx (nth p0 i)) hg5 om) ?_
    refine ad 5 ?_
    rw [wrapN (i := i) (by first | omega | exact om)]
    refine ad 2 ?_
    exact Run.again ((w1.set i (laws_toTx (nth p0 i))), (i + 1)) [0, 13] [7, 0] ⟨by first | omega | exact trivial | (dsimp only; omega) | (refine ⟨by omega, ?_⟩; simp_all; try omega), hM⟩ rfl (by show _ - _ < _ - _; (try dsimp only); omega) su (by decide)
  ·
    have h1l : ¬ (i < p0.length) := by have := of_decide_eq_false h1; omega
    have hM := hE.trans ((congrArg (fun n => laws_toTxS_l1 p0 n w1 i) (show p0.length - i = 0 by omega)).trans (laws_toTxS_l1.eq_1 _ _ _))
    refine ad 6 ?_
    exact rz (rs := [.tmp 2]) (congrArg (fun x => [Re.sl Tx instDatTx x]) hM)

/- F156 loop.example/g00974/laws.toSlot -/
def laws_toSlot (p0 : Slot) : Slot := (Slot.mk p0.Seq (laws_toCellS p0.Cells) p0.Whole)
theorem c_laws_toSlot (p0 : Slot) (hs : Dat.small 1048576 p0) : CTs 156 [.o (.st Slot _ inferInstance p0)] [Re.st Slot _ inferInstance (laws_toSlot p0)] := by
  refine en Tryz.func156 Tryz.ntmps156 fun w hG hgd => ?_
  obtain ⟨hg_p0, _⟩ := hgd
  have hM := laws_toSlot.eq_1 p0
  have hs1 : Dat.small 1048576 p0.Cells := hs.2.1
  refine ad 20 ?_
  refine og (clg (c_laws_toCellS p0.Cells (by first | assumption | exact small_nth hs (by omega))) fok38) fun hgq => ?_
  obtain ⟨hg1, _⟩ := hgq
  refine ad 15 ?_
  have hg2 : Dat.good (Slot.mk p0.Seq (laws_toCellS p0.Cells) p0.Whole : Slot) := ⟨hg_p0.1, hg1, hg_p0.2.2⟩
  exact rz (rs := [.cell 2 108]) (congrArg (fun x => [Re.st Slot _ inferInstance x]) hM)

/- F85 loop.example/g00974/laws.toSlotS -/
def laws_toSlotS_l1 (p0 : List Slot) : Nat → (List Slot) → Nat → (List Slot)
  | 0, w1, i => w1
  | n + 1, w1, i => laws_toSlotS_l1 p0 n (w1.set i (laws_toSlot (nth p0 i))) (i + 1)
def laws_toSlotS (p0 : List Slot) : (List Slot) := laws_toSlotS_l1 p0 (p0.length - 0) (List.replicate p0.length (Slot.mk 0 [] false)) 0
theorem c_laws_toSlotS (p0 : List Slot) (hs : Dat.small 1048576 p0) : CTs 85 [.o (.sl Slot instDatSlot p0)] [Re.sl Slot instDatSlot (laws_toSlotS p0)] := by
  refine en Tryz.func85 Tryz.ntmps85 fun w hG hgd => ?_
  obtain ⟨hg_p0, _⟩ := hgd
  have hl_p0 : p0.length ≤ 9223372036854775807 := hg_p0.1
  have hM := laws_toSlotS.eq_1 p0
  have hs0 : p0.length ≤ 1048576 := hs.1
  refine ad 8 ?_
  refine op (ma p0.length (Slot.mk 0 [] false) (ho := gdz)) ?_
  refine ad 8 ?_
  refine Run.loopM (ι := (List Slot) × Nat) (fun s => laws_toSlotS_l1 p0 (p0.length - s.2) s.1 s.2) (fun s => ⟨23, 2, [(0, .sl 0 p0.length), (3, .sl 1 s.1.length), (4, .v (.int .i64 (s.2 : Int)))], [(0, .ros Slot instDatSlot p0), (1, .own Slot instDatSlot s.1)]⟩) (fun s => s.2 ≤ p0.length ∧ s.1.length = p0.length) (fun s => p0.length - s.2) ((List.replicate p0.length (Slot.mk 0 [] false)), 0) [0, 1] [1, 0] hM (by first | exact ⟨by omega, by simp⟩ | omega | simp | (dsimp only; omega)) su (by decide) ?_
  rintro ⟨w1, i⟩ hv hE
  try dsimp only at hE
  obtain ⟨hi, hv0⟩ := hv
  try dsimp only at hi hv0
  refine ad 8 ?_
  refine cd (fun h1 => ?_) (fun h1 => ?_)
  ·
    have h1l : i < p0.length := by have := of_decide_eq_true h1; omega
    have hM := hE.trans ((congrArg (fun n => laws_toSlotS_l1 p0 n w1 i) (show p0.length - i = (p0.length - (i + 1)) + 1 by omega)).trans (laws_toSlotS_l1.eq_2 _ _ _ _))
    refine ad 8 ?_
    have hg3 := good_nth (k := i) hg_p0 om
    refine op (ix (xs := p0) i om) ?_
    refine ad 1 ?_
    have hg4 : Dat.good (nth p0 i : Slot) := hg3
    refine og (clg (c_laws_toSlot (nth p0 i) (by first | assumption | exact small_nth hs (by omega))) fok156) fun hgq => ?_
    obtain ⟨hg5, _⟩ := hgq
    refine op (oi (xs := w1) i om) ?_
    refine op (se (xs := w1) i (laws_toSlot (nth p0 i)) hg5 om) ?_
    refine ad 5 ?_
    rw [wrapN (i := i) (by first | omega | exact om)]
    refine ad 2 ?_
    exact Run.again ((w1.set i (laws_toSlot (nth p0 i))), (i + 1)) [0, 5] [3, 0] ⟨by first | omega | exact trivial | (dsimp only; omega) | (refine ⟨by omega, ?_⟩; simp_all; try omega), hM⟩ rfl (by show _ - _ < _ - _; (try dsimp only); omega) su (by decide)
  ·
    have h1l : ¬ (i < p0.length) := by have := of_decide_eq_false h1; omega
    have hM := hE.trans ((congrArg (fun n => laws_toSlotS_l1 p0 n w1 i) (show p0.length - i = 0 by omega)).trans (laws_toSlotS_l1.eq_1 _ _ _))
    refine ad 6 ?_
    exact rz (rs := [.tmp 2]) (congrArg (fun x => [Re.sl Slot instDatSlot x]) hM)

/- F86 loop.example/g00974/laws.toJournal -/
def laws_toJournal (p0 : Journal) : Journal := p0
theorem c_laws_toJournal (p0 : Journal) : CTs 86 [.o (.st Journal _ inferInstance p0)] [Re.st Journal _ inferInstance (laws_toJournal p0)] := by
  refine en Tryz.func86 Tryz.ntmps86 fun w hG hgd => ?_
  obtain ⟨hg_p0, _⟩ := hgd
  have hM := laws_toJournal.eq_1 p0
  refine ad 28 ?_
  exact rz (rs := [.cell 2 38]) (congrArg (fun x => [Re.st Journal _ inferInstance x]) hM)

/- F40 loop.example/g00974/laws.toDisk -/
def laws_toDisk (p0 : Disk) : Disk := (Disk.mk (laws_toSlotS p0.Slots) (laws_toJournal p0.Journal))
theorem c_laws_toDisk (p0 : Disk) (hs : Dat.small 1048576 p0) : CTs 40 [.o (.st Disk _ inferInstance p0)] [Re.st Disk _ inferInstance (laws_toDisk p0)] := by
  refine en Tryz.func40 Tryz.ntmps40 fun w hG hgd => ?_
  obtain ⟨hg_p0, _⟩ := hgd
  have hM := laws_toDisk.eq_1 p0
  have hs0 : Dat.small 1048576 p0.Slots := hs.1
  have hs1 : Dat.small 1048576 p0.Journal := hs.2
  refine ad 13 ?_
  refine og (clg (c_laws_toSlotS p0.Slots (by first | assumption | exact small_nth hs (by omega))) fok85) fun hgq => ?_
  obtain ⟨hg1, _⟩ := hgq
  refine ad 7 ?_
  have hg2 : Dat.good (p0.Journal : Journal) := hg_p0.2
  refine og (clg (c_laws_toJournal p0.Journal) fok86) fun hgq => ?_
  obtain ⟨hg3, _⟩ := hgq
  refine ad 8 ?_
  have hg4 : Dat.good (Disk.mk (laws_toSlotS p0.Slots) (laws_toJournal p0.Journal) : Disk) := ⟨hg1, hg3⟩
  exact rz (rs := [.cell 2 40]) (congrArg (fun x => [Re.st Disk _ inferInstance x]) hM)

/- F214 loop.example/g00974/laws.toStep -/
def laws_toStep (p0 : Step) : Step := (Step.mk p0.Proc (laws_toCall p0.Call))
theorem c_laws_toStep (p0 : Step) : CTs 214 [.o (.st Step _ inferInstance p0)] [Re.st Step _ inferInstance (laws_toStep p0)] := by
  refine en Tryz.func214 Tryz.ntmps214 fun w hG hgd => ?_
  obtain ⟨hg_p0, _⟩ := hgd
  have hM := laws_toStep.eq_1 p0
  refine ad 20 ?_
  have hg1 : Dat.good (p0.Call : Call) := hg_p0.2
  refine og (clg (c_laws_toCall p0.Call) fok212) fun hgq => ?_
  obtain ⟨hg2, _⟩ := hgq
  refine ad 8 ?_
  have hg3 : Dat.good (Step.mk p0.Proc (laws_toCall p0.Call) : Step) := ⟨hg_p0.1, hg2⟩
  exact rz (rs := [.cell 2 151]) (congrArg (fun x => [Re.st Step _ inferInstance x]) hM)

/- F157 loop.example/g00974/laws.toStepS -/
def laws_toStepS_l1 (p0 : List Step) : Nat → (List Step) → Nat → (List Step)
  | 0, w1, i => w1
  | n + 1, w1, i => laws_toStepS_l1 p0 n (w1.set i (laws_toStep (nth p0 i))) (i + 1)
def laws_toStepS (p0 : List Step) : (List Step) := laws_toStepS_l1 p0 (p0.length - 0) (List.replicate p0.length (Step.mk 0 (Call.mk 0 ⟨#[]⟩ ⟨#[]⟩ 0 0 ⟨#[]⟩))) 0
theorem c_laws_toStepS (p0 : List Step) (hs : Dat.small 1048576 p0) : CTs 157 [.o (.sl Step instDatStep p0)] [Re.sl Step instDatStep (laws_toStepS p0)] := by
  refine en Tryz.func157 Tryz.ntmps157 fun w hG hgd => ?_
  obtain ⟨hg_p0, _⟩ := hgd
  have hl_p0 : p0.length ≤ 9223372036854775807 := hg_p0.1
  have hM := laws_toStepS.eq_1 p0
  have hs0 : p0.length ≤ 1048576 := hs.1
  refine ad 8 ?_
  refine op (ma p0.length (Step.mk 0 (Call.mk 0 ⟨#[]⟩ ⟨#[]⟩ 0 0 ⟨#[]⟩)) (ho := gdz)) ?_
  refine ad 8 ?_
  refine Run.loopM (ι := (List Step) × Nat) (fun s => laws_toStepS_l1 p0 (p0.length - s.2) s.1 s.2) (fun s => ⟨23, 2, [(0, .sl 0 p0.length), (3, .sl 1 s.1.length), (4, .v (.int .i64 (s.2 : Int)))], [(0, .ros Step instDatStep p0), (1, .own Step instDatStep s.1)]⟩) (fun s => s.2 ≤ p0.length ∧ s.1.length = p0.length) (fun s => p0.length - s.2) ((List.replicate p0.length (Step.mk 0 (Call.mk 0 ⟨#[]⟩ ⟨#[]⟩ 0 0 ⟨#[]⟩))), 0) [0, 1] [1, 0] hM (by first | exact ⟨by omega, by simp⟩ | omega | simp | (dsimp only; omega)) su (by decide) ?_
  rintro ⟨w1, i⟩ hv hE
  try dsimp only at hE
  obtain ⟨hi, hv0⟩ := hv
  try dsimp only at hi hv0
  refine ad 8 ?_
  refine cd (fun h1 => ?_) (fun h1 => ?_)
  ·
    have h1l : i < p0.length := by have := of_decide_eq_true h1; omega
    have hM := hE.trans ((congrArg (fun n => laws_toStepS_l1 p0 n w1 i) (show p0.length - i = (p0.length - (i + 1)) + 1 by omega)).trans (laws_toStepS_l1.eq_2 _ _ _ _))
    refine ad 8 ?_
    have hg3 := good_nth (k := i) hg_p0 om
    refine op (ix (xs := p0) i om) ?_
    refine ad 1 ?_
    have hg4 : Dat.good (nth p0 i : Step) := hg3
    refine og (clg (c_laws_toStep (nth p0 i)) fok214) fun hgq => ?_
    obtain ⟨hg5, _⟩ := hgq
    refine op (oi (xs := w1) i om) ?_
    refine op (se (xs := w1) i (laws_toStep (nth p0 i)) hg5 om) ?_
    refine ad 5 ?_
    rw [wrapN (i := i) (by first | omega | exact om)]
    refine ad 2 ?_
    exact Run.again ((w1.set i (laws_toStep (nth p0 i))), (i + 1)) [0, 3] [2, 0] ⟨by first | omega | exact trivial | (dsimp only; omega) | (refine ⟨by omega, ?_⟩; simp_all; try omega), hM⟩ rfl (by show _ - _ < _ - _; (try dsimp only); omega) su (by decide)
  ·
    have h1l : ¬ (i < p0.length) := by have := of_decide_eq_false h1; omega
    have hM := hE.trans ((congrArg (fun n => laws_toStepS_l1 p0 n w1 i) (show p0.length - i = 0 by omega)).trans (laws_toStepS_l1.eq_1 _ _ _))
    refine ad 6 ?_
    exact rz (rs := [.tmp 2]) (congrArg (fun x => [Re.sl Step instDatStep x]) hM)

/- F87 loop.example/g00974/laws.toEntry -/
def laws_toEntry (p0 : Entry) : Entry := (Entry.mk p0.Seq p0.Kind p0.Tx (laws_toStepS p0.Steps) (laws_toAnswerS p0.Answers) p0.Began p0.Ended p0.Laid)
theorem c_laws_toEntry (p0 : Entry) (hs : Dat.small 1048576 p0) : CTs 87 [.o (.st Entry _ inferInstance p0)] [Re.st Entry _ inferInstance (laws_toEntry p0)] := by
  refine en Tryz.func87 Tryz.ntmps87 fun w hG hgd => ?_
  obtain ⟨hg_p0, _⟩ := hgd
  have hM := laws_toEntry.eq_1 p0
  have hs3 : Dat.small 1048576 p0.Steps := hs.2.2.2.1
  have hs4 : Dat.small 1048576 p0.Answers := hs.2.2.2.2.1
  refine ad 34 ?_
  refine og (clg (c_laws_toStepS p0.Steps (by first | assumption | exact small_nth hs (by omega))) fok157) fun hgq => ?_
  obtain ⟨hg1, _⟩ := hgq
  refine ad 7 ?_
  refine og (clg (c_laws_toAnswerS p0.Answers (by first | assumption | exact small_nth hs (by omega))) fok153) fun hgq => ?_
  obtain ⟨hg2, _⟩ := hgq
  refine ad 29 ?_
  have hg3 : Dat.good (Entry.mk p0.Seq p0.Kind p0.Tx (laws_toStepS p0.Steps) (laws_toAnswerS p0.Answers) p0.Began p0.Ended p0.Laid : Entry) := ⟨hg_p0.1, hg_p0.2.1, hg_p0.2.2.1, hg1, hg2, hg_p0.2.2.2.2.2.1, hg_p0.2.2.2.2.2.2.1, hg_p0.2.2.2.2.2.2.2⟩
  exact rz (rs := [.cell 2 80]) (congrArg (fun x => [Re.st Entry _ inferInstance x]) hM)

/- F41 loop.example/g00974/laws.toEntryS -/
def laws_toEntryS_l1 (p0 : List Entry) : Nat → (List Entry) → Nat → (List Entry)
  | 0, w1, i => w1
  | n + 1, w1, i => laws_toEntryS_l1 p0 n (w1.set i (laws_toEntry (nth p0 i))) (i + 1)
def laws_toEntryS (p0 : List Entry) : (List Entry) := laws_toEntryS_l1 p0 (p0.length - 0) (List.replicate p0.length (Entry.mk 0 0 0 [] [] 0 0 false)) 0
theorem c_laws_toEntryS (p0 : List Entry) (hs : Dat.small 1048576 p0) : CTs 41 [.o (.sl Entry instDatEntry p0)] [Re.sl Entry instDatEntry (laws_toEntryS p0)] := by
  refine en Tryz.func41 Tryz.ntmps41 fun w hG hgd => ?_
  obtain ⟨hg_p0, _⟩ := hgd
  have hl_p0 : p0.length ≤ 9223372036854775807 := hg_p0.1
  have hM := laws_toEntryS.eq_1 p0
  have hs0 : p0.length ≤ 1048576 := hs.1
  refine ad 8 ?_
  refine op (ma p0.length (Entry.mk 0 0 0 [] [] 0 0 false) (ho := gdz)) ?_
  refine ad 8 ?_
  refine Run.loopM (ι := (List Entry) × Nat) (fun s => laws_toEntryS_l1 p0 (p0.length - s.2) s.1 s.2) (fun s => ⟨23, 2, [(0, .sl 0 p0.length), (3, .sl 1 s.1.length), (4, .v (.int .i64 (s.2 : Int)))], [(0, .ros Entry instDatEntry p0), (1, .own Entry instDatEntry s.1)]⟩) (fun s => s.2 ≤ p0.length ∧ s.1.length = p0.length) (fun s => p0.length - s.2) ((List.replicate p0.length (Entry.mk 0 0 0 [] [] 0 0 false)), 0) [0, 1] [1, 0] hM (by first | exact ⟨by omega, by simp⟩ | omega | simp | (dsimp only; omega)) su (by decide) ?_
  rintro ⟨w1, i⟩ hv hE
  try dsimp only at hE
  obtain ⟨hi, hv0⟩ := hv
  try dsimp only at hi hv0
  refine ad 8 ?_
  refine cd (fun h1 => ?_) (fun h1 => ?_)
  ·
    have h1l : i < p0.length := by have := of_decide_eq_true h1; omega
    have hM := hE.trans ((congrArg (fun n => laws_toEntryS_l1 p0 n w1 i) (show p0.length - i = (p0.length - (i + 1)) + 1 by omega)).trans (laws_toEntryS_l1.eq_2 _ _ _ _))
    refine ad 8 ?_
    have hg3 := good_nth (k := i) hg_p0 om
    refine op (ix (xs := p0) i om) ?_
    refine ad 1 ?_
    have hg4 : Dat.good (nth p0 i : Entry) := hg3
    refine og (clg (c_laws_toEntry (nth p0 i) (by first | assumption | exact small_nth hs (by omega))) fok87) fun hgq => ?_
    obtain ⟨hg5, _⟩ := hgq
    refine op (oi (xs := w1) i om) ?_
    refine op (se (xs := w1) i (laws_toEntry (nth p0 i)) hg5 om) ?_
    refine ad 5 ?_
    rw [wrapN (i := i) (by first | omega | exact om)]
    refine ad 2 ?_
    exact Run.again ((w1.set i (laws_toEntry (nth p0 i))), (i + 1)) [0, 7] [4, 0] ⟨by first | omega | exact trivial | (dsimp only; omega) | (refine ⟨by omega, ?_⟩; simp_all; try omega), hM⟩ rfl (by show _ - _ < _ - _; (try dsimp only); omega) su (by decide)
  ·
    have h1l : ¬ (i < p0.length) := by have := of_decide_eq_false h1; omega
    have hM := hE.trans ((congrArg (fun n => laws_toEntryS_l1 p0 n w1 i) (show p0.length - i = 0 by omega)).trans (laws_toEntryS_l1.eq_1 _ _ _))
    refine ad 6 ?_
    exact rz (rs := [.tmp 2]) (congrArg (fun x => [Re.sl Entry instDatEntry x]) hM)

/- F11 loop.example/g00974/laws.toKernel -/
def laws_toKernel (p0 : Kernel) : Kernel := (Kernel.mk (laws_toCellS p0.Store) (laws_toTxS p0.Txs) (laws_toDisk p0.Disk) p0.Seq p0.Next p0.Time (laws_toEntryS p0.History) (laws_toStringS p0.Seen) p0.Room)
theorem c_laws_toKernel (p0 : Kernel) (hs : Dat.small 1048576 p0) : CTs 11 [.o (.st Kernel _ inferInstance p0)] [Re.st Kernel _ inferInstance (laws_toKernel p0)] := by
  refine en Tryz.func11 Tryz.ntmps11 fun w hG hgd => ?_
  obtain ⟨hg_p0, _⟩ := hgd
  have hM := laws_toKernel.eq_1 p0
  have hs0 : Dat.small 1048576 p0.Store := hs.1
  have hs1 : Dat.small 1048576 p0.Txs := hs.2.1
  have hs2 : Dat.small 1048576 p0.Disk := hs.2.2.1
  have hs6 : Dat.small 1048576 p0.History := hs.2.2.2.2.2.2.1
  have hs7 : Dat.small 1048576 p0.Seen := hs.2.2.2.2.2.2.2.1
  refine ad 13 ?_
  refine og (clg (c_laws_toCellS p0.Store (by first | assumption | exact small_nth hs (by omega))) fok38) fun hgq => ?_
  obtain ⟨hg1, _⟩ := hgq
  refine ad 7 ?_
  refine og (clg (c_laws_toTxS p0.Txs (by first | assumption | exact small_nth hs (by omega))) fok39) fun hgq => ?_
  obtain ⟨hg2, _⟩ := hgq
  refine ad 7 ?_
  have hg3 : Dat.good (p0.Disk : Disk) := hg_p0.2.2.1
  refine og (clg (c_laws_toDisk p0.Disk (by first | assumption | exact small_nth hs (by omega))) fok40) fun hgq => ?_
  obtain ⟨hg4, _⟩ := hgq
  refine ad 28 ?_
  refine og (clg (c_laws_toEntryS p0.History (by first | assumption | exact small_nth hs (by omega))) fok41) fun hgq => ?_
  obtain ⟨hg5, _⟩ := hgq
  refine ad 7 ?_
  refine og (clg (c_laws_toStringS p0.Seen (by first | assumption | exact small_nth hs (by omega))) fok42) fun hgq => ?_
  obtain ⟨hg6, _⟩ := hgq
  refine ad 15 ?_
  have hg7 : Dat.good (Kernel.mk (laws_toCellS p0.Store) (laws_toTxS p0.Txs) (laws_toDisk p0.Disk) p0.Seq p0.Next p0.Time (laws_toEntryS p0.History) (laws_toStringS p0.Seen) p0.Room : Kernel) := ⟨hg1, hg2, hg4, hg_p0.2.2.2.1, hg_p0.2.2.2.2.1, hg_p0.2.2.2.2.2.1, hg5, hg6, hg_p0.2.2.2.2.2.2.2.2⟩
  exact rz (rs := [.cell 2 43]) (congrArg (fun x => [Re.st Kernel _ inferInstance x]) hM)

/- F94 loop.example/g00974/laws.eqCell -/
def laws_eqCell (p0 : Cell) (p1 : Cell) : Bool := bif !decide (p0.Key = p1.Key) then false else (bif !decide (p0.Val = p1.Val) then false else true)
theorem c_laws_eqCell (p0 : Cell) (p1 : Cell) : CTs 94 [.o (.st Cell _ inferInstance p0), .o (.st Cell _ inferInstance p1)] [Re.c (.bool (laws_eqCell p0 p1))] := by
  refine en Tryz.func94 Tryz.ntmps94 fun w hG hgd => ?_
  obtain ⟨hg_p0, hg_p1, _⟩ := hgd
  have hM := laws_eqCell.eq_1 p0 p1
  refine ad 15 ?_
  refine cd (fun h1 => ?_) (fun h1 => ?_)
  ·
    have hM := hM.trans (bt h1)
    refine ad 4 ?_
    exact rz (rs := [.tmp 4]) (congrArg (fun x => [Re.c (.bool x)]) hM)
  ·
    have hM := hM.trans (bf h1)
    refine ad 10 ?_
    refine cd (fun h2 => ?_) (fun h2 => ?_)
    ·
      have hM := hM.trans (bt h2)
      refine ad 4 ?_
      exact rz (rs := [.tmp 4]) (congrArg (fun x => [Re.c (.bool x)]) hM)
    ·
      have hM := hM.trans (bf h2)
      refine ad 5 ?_
      exact rz (rs := [.tmp 4]) (congrArg (fun x => [Re.c (.bool x)]) hM)

/- F45 loop.example/g00974/laws.eqCellS -/
def laws_eqCellS_l1 (p0 : List Cell) (p1 : List Cell) : Nat → Nat → Bool
  | 0, i => true
  | n + 1, i => bif !(laws_eqCell (nth p0 i) (nth p1 i)) then false else (laws_eqCellS_l1 p0 p1 n (i + 1))
def laws_eqCellS (p0 : List Cell) (p1 : List Cell) : Bool := bif !decide ((p0.length : Int) = (p1.length : Int)) then false else (laws_eqCellS_l1 p0 p1 (p0.length - 0) 0)
theorem c_laws_eqCellS (p0 : List Cell) (p1 : List Cell) : CTs 45 [.o (.sl Cell instDatCell p0), .o (.sl Cell instDatCell p1)] [Re.c (.bool (laws_eqCellS p0 p1))] := by
  refine en Tryz.func45 Tryz.ntmps45 fun w hG hgd => ?_
  obtain ⟨hg_p0, hg_p1, _⟩ := hgd
  have hl_p0 : p0.length ≤ 9223372036854775807 := hg_p0.1
  have hl_p1 : p1.length ≤ 9223372036854775807 := hg_p1.1
  have hM := laws_eqCellS.eq_1 p0 p1
  refine ad 13 ?_
  refine cd (fun h1 => ?_) (fun h1 => ?_)
  ·
    have hM := hM.trans (bt h1)
    refine ad 4 ?_
    exact rz (rs := [.tmp 4]) (congrArg (fun x => [Re.c (.bool x)]) hM)
  ·
    have hM := hM.trans (bf h1)
    refine ad 7 ?_
    refine Run.loopM (ι := Nat) (fun s => laws_eqCellS_l1 p0 p1 (p0.length - s) s) (fun s => ⟨27, 2, [(0, .sl 0 p0.length), (1, .sl 1 p1.length), (5, .v (.int .i64 (s : Int)))], [(0, .ros Cell instDatCell p0), (1, .ros Cell instDatCell p1)]⟩) (fun s => s ≤ p0.length) (fun s => p0.length - s) 0 [0, 1] [0, 1] hM (by first | exact ⟨by omega, by simp⟩ | omega | simp | (dsimp only; omega)) su (by decide) ?_
    rintro i hv hE
    try dsimp only at hE
    have hi := hv
    try dsimp only at hi
    refine ad 8 ?_
    refine cd (fun h2 => ?_) (fun h2 => ?_)
    ·
      have h2l : i < p0.length := by have := of_decide_eq_true h2; omega
      have hM := hE.trans ((congrArg (fun n => laws_eqCellS_l1 p0 p1 n i) (show p0.length - i = (p0.length - (i + 1)) + 1 by omega)).trans (laws_eqCellS_l1.eq_2 _ _ _ _))
      refine ad 4 ?_
      refine dr 10 fun _ _ _ _ _ hb => ?_
      refine tk [0, 1] ?_
      have hg3 := good_nth (k := i) hg_p0 om
      refine tx 2 (dx (xs := p0) i om) ?_
      refine tk [3, 4, 5] ?_
      have hg4 := good_nth (k := i) hg_p1 om
      refine tx 6 (dx (xs := p1) i om) ?_
      refine tk [7] ?_
      have hg5 : Dat.good (nth p0 i : Cell) := hg3
      have hg6 : Dat.good (nth p1 i : Cell) := hg4
      refine on 8 [2, 3] (cl (c_laws_eqCell (nth p0 i) (nth p1 i)) fok94) ?_
      refine tk [9] ?_
      refine dn hb ?_
      refine cd (fun h7 => ?_) (fun h7 => ?_)
      ·
        have hM := hM.trans (bt h7)
        refine ad 4 ?_
        exact rz (rs := [.tmp 4]) (congrArg (fun x => [Re.c (.bool x)]) hM)
      ·
        have hM := hM.trans (bf h7)
        refine ad 5 ?_
        rw [wrapN (i := i) (by first | omega | exact om)]
        refine ad 2 ?_
        exact Run.again (i + 1) [0, 1] [2, 3] ⟨by first | omega | exact trivial | (dsimp only; omega) | (refine ⟨by omega, ?_⟩; simp_all; try omega), hM⟩ rfl (by show _ - _ < _ - _; (try dsimp only); omega) su (by decide)
    ·
      have h2l : ¬ (i < p0.length) := by have := of_decide_eq_false h2; omega
      have hM := hE.trans ((congrArg (fun n => laws_eqCellS_l1 p0 p1 n i) (show p0.length - i = 0 by omega)).trans (laws_eqCellS_l1.eq_1 _ _ _))
      refine ad 5 ?_
      exact rz (rs := [.tmp 4]) (congrArg (fun x => [Re.c (.bool x)]) hM)

/- F223 loop.example/g00974/laws.eqCall -/
def laws_eqCall (p0 : Call) (p1 : Call) : Bool := bif !decide (p0.Kind = p1.Kind) then false else (bif !decide (p0.Name = p1.Name) then false else (bif !decide (p0.To = p1.To) then false else (bif !decide (p0.A = p1.A) then false else (bif !decide (p0.B = p1.B) then false else (bif !decide (p0.Text = p1.Text) then false else true)))))
theorem c_laws_eqCall (p0 : Call) (p1 : Call) : CTs 223 [.o (.st Call _ inferInstance p0), .o (.st Call _ inferInstance p1)] [Re.c (.bool (laws_eqCall p0 p1))] := by
  refine en Tryz.func223 Tryz.ntmps223 fun w hG hgd => ?_
  obtain ⟨hg_p0, hg_p1, _⟩ := hgd
  have hM := laws_eqCall.eq_1 p0 p1
  refine ad 15 ?_
  refine cd (fun h1 => ?_) (fun h1 => ?_)
  ·
    have hM := hM.trans (bt h1)
    refine ad 4 ?_
    exact rz (rs := [.tmp 4]) (congrArg (fun x => [Re.c (.bool x)]) hM)
  ·
    have hM := hM.trans (bf h1)
    refine ad 10 ?_
    refine cd (fun h2 => ?_) (fun h2 => ?_)
    ·
      have hM := hM.trans (bt h2)
      refine ad 4 ?_
      exact rz (rs := [.tmp 4]) (congrArg (fun x => [Re.c (.bool x)]) hM)
    ·
      have hM := hM.trans (bf h2)
      refine ad 10 ?_
      refine cd (fun h3 => ?_) (fun h3 => ?_)
      ·
        have hM := hM.trans (bt h3)
        refine ad 4 ?_
        exact rz (rs := [.tmp 4]) (congrArg (fun x => [Re.c (.bool x)]) hM)
      ·
        have hM := hM.trans (bf h3)
        refine ad 10 ?_
        refine cd (fun h4 => ?_) (fun h4 => ?_)
        ·
          have hM := hM.trans (bt h4)
          refine ad 4 ?_
          exact rz (rs := [.tmp 4]) (congrArg (fun x => [Re.c (.bool x)]) hM)
        ·
          have hM := hM.trans (bf h4)
          refine ad 10 ?_
          refine cd (fun h5 => ?_) (fun h5 => ?_)
          ·
            have hM := hM.trans (bt h5)
            refine ad 4 ?_
            exact rz (rs := [.tmp 4]) (congrArg (fun x => [Re.c (.bool x)]) hM)
          ·
            have hM := hM.trans (bf h5)
            refine ad 10 ?_
            refine cd (fun h6 => ?_) (fun h6 => ?_)
            ·
              have hM := hM.trans (bt h6)
              refine ad 4 ?_
              exact rz (rs := [.tmp 4]) (congrArg (fun x => [Re.c (.bool x)]) hM)
            ·
              have hM := hM.trans (bf h6)
              refine ad 5 ?_
              exact rz (rs := [.tmp 4]) (congrArg (fun x => [Re.c (.bool x)]) hM)

/- F169 loop.example/g00974/laws.eqCallS -/
def laws_eqCallS_l1 (p0 : List Call) (p1 : List Call) : Nat → Nat → Bool
  | 0, i => true
  | n + 1, i => bif !(laws_eqCall (nth p0 i) (nth p1 i)) then false else (laws_eqCallS_l1 p0 p1 n (i + 1))
def laws_eqCallS (p0 : List Call) (p1 : List Call) : Bool := bif !decide ((p0.length : Int) = (p1.length : Int)) then false else (laws_eqCallS_l1 p0 p1 (p0.length - 0) 0)
theorem c_laws_eqCallS (p0 : List Call) (p1 : List Call) : CTs 169 [.o (.sl Call instDatCall p0), .o (.sl Call instDatCall p1)] [Re.c (.bool (laws_eqCallS p0 p1))] := by
  refine en Tryz.func169 Tryz.ntmps169 fun w hG hgd => ?_
  obtain ⟨hg_p0, hg_p1, _⟩ := hgd
  have hl_p0 : p0.length ≤ 9223372036854775807 := hg_p0.1
  have hl_p1 : p1.length ≤ 9223372036854775807 := hg_p1.1
  have hM := laws_eqCallS.eq_1 p0 p1
  refine ad 13 ?_
  refine cd (fun h1 => ?_) (fun h1 => ?_)
  ·
    have hM := hM.trans (bt h1)
    refine ad 4 ?_
    exact rz (rs := [.tmp 4]) (congrArg (fun x => [Re.c (.bool x)]) hM)
  ·
    have hM := hM.trans (bf h1)
    refine ad 7 ?_
    refine Run.loopM (ι := Nat) (fun s => laws_eqCallS_l1 p0 p1 (p0.length - s) s) (fun s => ⟨27, 2, [(0, .sl 0 p0.length), (1, .sl 1 p1.length), (5, .v (.int .i64 (s : Int)))], [(0, .ros Call instDatCall p0), (1, .ros Call instDatCall p1)]⟩) (fun s => s ≤ p0.length) (fun s => p0.length - s) 0 [0, 1] [0, 1] hM (by first | exact ⟨by omega, by simp⟩ | omega | simp | (dsimp only; omega)) su (by decide) ?_
    rintro i hv hE
    try dsimp only at hE
    have hi := hv
    try dsimp only at hi
    refine ad 8 ?_
    refine cd (fun h2 => ?_) (fun h2 => ?_)
    ·
      have h2l : i < p0.length := by have := of_decide_eq_true h2; omega
      have hM := hE.trans ((congrArg (fun n => laws_eqCallS_l1 p0 p1 n i) (show p0.length - i = (p0.length - (i + 1)) + 1 by omega)).trans (laws_eqCallS_l1.eq_2 _ _ _ _))
      refine ad 4 ?_
      refine dr 10 fun _ _ _ _ _ hb => ?_
      refine tk [0, 1] ?_
      have hg3 := good_nth (k := i) hg_p0 om
      refine tx 2 (dx (xs := p0) i om) ?_
      refine tk [3, 4, 5] ?_
      have hg4 := good_nth (k := i) hg_p1 om
      refine tx 6 (dx (xs := p1) i om) ?_
      refine tk [7] ?_
      have hg5 : Dat.good (nth p0 i : Call) := hg3
      have hg6 : Dat.good (nth p1 i : Call) := hg4
      refine on 8 [2, 3] (cl (c_laws_eqCall (nth p0 i) (nth p1 i)) fok223) ?_
      refine tk [9] ?_
      refine dn hb ?_
      refine cd (fun h7 => ?_) (fun h7 => ?_)
      ·
        have hM := hM.trans (bt h7)
        refine ad 4 ?_
        exact rz (rs := [.tmp 4]) (congrArg (fun x => [Re.c (.bool x)]) hM)
      ·
        have hM := hM.trans (bf h7)
        refine ad 5 ?_
        rw [wrapN (i := i) (by first | omega | exact om)]
        refine ad 2 ?_
        exact Run.again (i + 1) [0, 1] [2, 3] ⟨by first | omega | exact trivial | (dsimp only; omega) | (refine ⟨by omega, ?_⟩; simp_all; try omega), hM⟩ rfl (by show _ - _ < _ - _; (try dsimp only); omega) su (by decide)
    ·
      have h2l : ¬ (i < p0.length) := by have := of_decide_eq_false h2; omega
      have hM := hE.trans ((congrArg (fun n => laws_eqCallS_l1 p0 p1 n i) (show p0.length - i = 0 by omega)).trans (laws_eqCallS_l1.eq_1 _ _ _))
      refine ad 5 ?_
      exact rz (rs := [.tmp 4]) (congrArg (fun x => [Re.c (.bool x)]) hM)

/- F184 loop.example/g00974/laws.eqAnswer -/
def laws_eqAnswer (p0 : Answer) (p1 : Answer) : Bool := bif !decide (p0.Code = p1.Code) then false else (bif !decide (p0.N = p1.N) then false else (bif !decide (p0.Text = p1.Text) then false else true))
theorem c_laws_eqAnswer (p0 : Answer) (p1 : Answer) : CTs 184 [.o (.st Answer _ inferInstance p0), .o (.st Answer _ inferInstance p1)] [Re.c (.bool (laws_eqAnswer p0 p1))] := by
  refine en Tryz.func184 Tryz.ntmps184 fun w hG hgd => ?_
  obtain ⟨hg_p0, hg_p1, _⟩ := hgd
  have hM := laws_eqAnswer.eq_1 p0 p1
  refine ad 15 ?_
  refine cd (fun h1 => ?_) (fun h1 => ?_)
  ·
    have hM := hM.trans (bt h1)
    refine ad 4 ?_
    exact rz (rs := [.tmp 4]) (congrArg (fun x => [Re.c (.bool x)]) hM)
  ·
    have hM := hM.trans (bf h1)
    refine ad 10 ?_
    refine cd (fun h2 => ?_) (fun h2 => ?_)
    ·
      have hM := hM.trans (bt h2)
      refine ad 4 ?_
      exact rz (rs := [.tmp 4]) (congrArg (fun x => [Re.c (.bool x)]) hM)
    ·
      have hM := hM.trans (bf h2)
      refine ad 10 ?_
      refine cd (fun h3 => ?_) (fun h3 => ?_)
      ·
        have hM := hM.trans (bt h3)
        refine ad 4 ?_
        exact rz (rs := [.tmp 4]) (congrArg (fun x => [Re.c (.bool x)]) hM)
      ·
        have hM := hM.trans (bf h3)
        refine ad 5 ?_
        exact rz (rs := [.tmp 4]) (congrArg (fun x => [Re.c (.bool x)]) hM)

/- F123 loop.example/g00974/laws.eqAnswerS -/
def laws_eqAnswerS_l1 (p0 : List Answer) (p1 : List Answer) : Nat → Nat → Bool
  | 0, i => true
  | n + 1, i => bif !(laws_eqAnswer (nth p0 i) (nth p1 i)) then false else (laws_eqAnswerS_l1 p0 p1 n (i + 1))
def laws_eqAnswerS (p0 : List Answer) (p1 : List Answer) : Bool := bif !decide ((p0.length : Int) = (p1.length : Int)) then false else (laws_eqAnswerS_l1 p0 p1 (p0.length - 0) 0)
theorem c_laws_eqAnswerS (p0 : List Answer) (p1 : List Answer) : CTs 123 [.o (.sl Answer instDatAnswer p0), .o (.sl Answer instDatAnswer p1)] [Re.c (.bool (laws_eqAnswerS p0 p1))] := by
  refine en Tryz.func123 Tryz.ntmps123 fun w hG hgd => ?_
  obtain ⟨hg_p0, hg_p1, _⟩ := hgd
  have hl_p0 : p0.length ≤ 9223372036854775807 := hg_p0.1
  have hl_p1 : p1.length ≤ 9223372036854775807 := hg_p1.1
  have hM := laws_eqAnswerS.eq_1 p0 p1
  refine ad 13 ?_
  refine cd (fun h1 => ?_) (fun h1 => ?_)
  ·
    have hM := hM.trans (bt h1)
    refine ad 4 ?_
    exact rz (rs := [.tmp 4]) (congrArg (fun x => [Re.c (.bool x)]) hM)
  ·
    have hM := hM.trans (bf h1)
    refine ad 7 ?_
    refine Run.loopM (ι := Nat) (fun s => laws_eqAnswerS_l1 p0 p1 (p0.length - s) s) (fun s => ⟨27, 2, [(0, .sl 0 p0.length), (1, .sl 1 p1.length), (5, .v (.int .i64 (s : Int)))], [(0, .ros Answer instDatAnswer p0), (1, .ros Answer instDatAnswer p1)]⟩) (fun s => s ≤ p0.length) (fun s => p0.length - s) 0 [0, 1] [0, 1] hM (by first | exact ⟨by omega, by simp⟩ | omega | simp | (dsimp only; omega)) su (by decide) ?_
    rintro i hv hE
    try dsimp only at hE
    have hi := hv
    try dsimp only at hi
    refine ad 8 ?_
    refine cd (fun h2 => ?_) (fun h2 => ?_)
    ·
      have h2l : i < p0.length := by have := of_decide_eq_true h2; omega
      have hM := hE.trans ((congrArg (fun n => laws_eqAnswerS_l1 p0 p1 n i) (show p0.length - i = (p0.length - (i + 1)) + 1 by omega)).trans (laws_eqAnswerS_l1.eq_2 _ _ _ _))
      refine ad 4 ?_
      refine dr 10 fun _ _ _ _ _ hb => ?_
      refine tk [0, 1] ?_
      have hg3 := good_nth (k := i) hg_p0 om
      refine tx 2 (dx (xs := p0) i om) ?_
      refine tk [3, 4, 5] ?_
      have hg4 := good_nth (k := i) hg_p1 om
      refine tx 6 (dx (xs := p1) i om) ?_
      refine tk [7] ?_
      have hg5 : Dat.good (nth p0 i : Answer) := hg3
      have hg6 : Dat.good (nth p1 i : Answer) := hg4
      refine on 8 [2, 3] (cl (c_laws_eqAnswer (nth p0 i) (nth p1 i)) fok184) ?_
      refine tk [9] ?_
      refine dn hb ?_
      refine cd (fun h7 => ?_) (fun h7 => ?_)
      ·
        have hM := hM.trans (bt h7)
        refine ad 4 ?_
        exact rz (rs := [.tmp 4]) (congrArg (fun x => [Re.c (.bool x)]) hM)
      ·
        have hM := hM.trans (bf h7)
        refine ad 5 ?_
        rw [wrapN (i := i) (by first | omega | exact om)]
        refine ad 2 ?_
        exact Run.again (i + 1) [0, 1] [2, 3] ⟨by first | omega | exact trivial | (dsimp only; omega) | (refine ⟨by omega, ?_⟩; simp_all; try omega), hM⟩ rfl (by show _ - _ < _ - _; (try dsimp only); omega) su (by decide)
    ·
      have h2l : ¬ (i < p0.length) := by have := of_decide_eq_false h2; omega
      have hM := hE.trans ((congrArg (fun n => laws_eqAnswerS_l1 p0 p1 n i) (show p0.length - i = 0 by omega)).trans (laws_eqAnswerS_l1.eq_1 _ _ _))
      refine ad 5 ?_
      exact rz (rs := [.tmp 4]) (congrArg (fun x => [Re.c (.bool x)]) hM)

/- F18 loop.example/g00974/laws.eqStringS -/
def laws_eqStringS_l1 (p0 : List ByteArray) (p1 : List ByteArray) : Nat → Nat → Bool
  | 0, i => true
  | n + 1, i => bif !decide ((nth p0 i) = (nth p1 i)) then false else (laws_eqStringS_l1 p0 p1 n (i + 1))
def laws_eqStringS (p0 : List ByteArray) (p1 : List ByteArray) : Bool := bif !decide ((p0.length : Int) = (p1.length : Int)) then false else (laws_eqStringS_l1 p0 p1 (p0.length - 0) 0)
theorem c_laws_eqStringS (p0 : List ByteArray) (p1 : List ByteArray) : CTs 18 [.o (.sl ByteArray instDatByteArray p0), .o (.sl ByteArray instDatByteArray p1)] [Re.c (.bool (laws_eqStringS p0 p1))] := by
  refine en Tryz.func18 Tryz.ntmps18 fun w hG hgd => ?_
  obtain ⟨hg_p0, hg_p1, _⟩ := hgd
  have hl_p0 : p0.length ≤ 9223372036854775807 := hg_p0.1
  have hl_p1 : p1.length ≤ 9223372036854775807 := hg_p1.1
  have hM := laws_eqStringS.eq_1 p0 p1
  refine ad 13 ?_
  refine cd (fun h1 => ?_) (fun h1 => ?_)
  ·
    have hM := hM.trans (bt h1)
    refine ad 4 ?_
    exact rz (rs := [.tmp 4]) (congrArg (fun x => [Re.c (.bool x)]) hM)
  ·
    have hM := hM.trans (bf h1)
    refine ad 7 ?_
    refine Run.loopM (ι := Nat) (fun s => laws_eqStringS_l1 p0 p1 (p0.length - s) s) (fun s => ⟨26, 2, [(0, .sl 0 p0.length), (1, .sl 1 p1.length), (5, .v (.int .i64 (s : Int)))], [(0, .ros ByteArray instDatByteArray p0), (1, .ros ByteArray instDatByteArray p1)]⟩) (fun s => s ≤ p0.length) (fun s => p0.length - s) 0 [0, 1] [0, 1] hM (by first | exact ⟨by omega, by simp⟩ | omega | simp | (dsimp only; omega)) su (by decide) ?_
    rintro i hv hE
    try dsimp only at hE
    have hi := hv
    try dsimp only at hi
    refine ad 8 ?_
    refine cd (fun h2 => ?_) (fun h2 => ?_)
    ·
      have h2l : i < p0.length := by have := of_decide_eq_true h2; omega
      have hM := hE.trans ((congrArg (fun n => laws_eqStringS_l1 p0 p1 n i) (show p0.length - i = (p0.length - (i + 1)) + 1 by omega)).trans (laws_eqStringS_l1.eq_2 _ _ _ _))
      refine ad 4 ?_
      refine dr 9 fun _ _ _ _ _ hb => ?_
      refine tk [0, 1] ?_
      have hg3 := good_nth (k := i) hg_p0 om
      refine tx 2 (dx (xs := p0) i om) ?_
      refine tk [3, 4, 5] ?_
      have hg4 := good_nth (k := i) hg_p1 om
      refine tx 6 (dx (xs := p1) i om) ?_
      refine tk [7, 8] ?_
      refine dn hb ?_
      refine cd (fun h5 => ?_) (fun h5 => ?_)
      ·
        have hM := hM.trans (bt h5)
        refine ad 4 ?_
        exact rz (rs := [.tmp 4]) (congrArg (fun x => [Re.c (.bool x)]) hM)
      ·
        have hM := hM.trans (bf h5)
        refine ad 5 ?_
        rw [wrapN (i := i) (by first | omega | exact om)]
        refine ad 2 ?_
        exact Run.again (i + 1) [0, 1] [2, 3] ⟨by first | omega | exact trivial | (dsimp only; omega) | (refine ⟨by omega, ?_⟩; simp_all; try omega), hM⟩ rfl (by show _ - _ < _ - _; (try dsimp only); omega) su (by decide)
    ·
      have h2l : ¬ (i < p0.length) := by have := of_decide_eq_false h2; omega
      have hM := hE.trans ((congrArg (fun n => laws_eqStringS_l1 p0 p1 n i) (show p0.length - i = 0 by omega)).trans (laws_eqStringS_l1.eq_1 _ _ _))
      refine ad 5 ?_
      exact rz (rs := [.tmp 4]) (congrArg (fun x => [Re.c (.bool x)]) hM)

/- F170 loop.example/g00974/laws.eqTouch -/
def laws_eqTouch (p0 : Touch) (p1 : Touch) : Bool := bif !(laws_eqStringS p0.Reads p1.Reads) then false else (bif !(laws_eqStringS p0.Writes p1.Writes) then false else true)
theorem c_laws_eqTouch (p0 : Touch) (p1 : Touch) : CTs 170 [.o (.st Touch _ inferInstance p0), .o (.st Touch _ inferInstance p1)] [Re.c (.bool (laws_eqTouch p0 p1))] := by
  refine en Tryz.func170 Tryz.ntmps170 fun w hG hgd => ?_
  obtain ⟨hg_p0, hg_p1, _⟩ := hgd
  have hM := laws_eqTouch.eq_1 p0 p1
  refine ad 13 ?_
  refine op (cl (c_laws_eqStringS p0.Reads p1.Reads) fok18) ?_
  refine ad 2 ?_
  refine cd (fun h1 => ?_) (fun h1 => ?_)
  ·
    have hM := hM.trans (bt h1)
    refine ad 4 ?_
    exact rz (rs := [.tmp 4]) (congrArg (fun x => [Re.c (.bool x)]) hM)
  ·
    have hM := hM.trans (bf h1)
    refine ad 8 ?_
    refine op (cl (c_laws_eqStringS p0.Writes p1.Writes) fok18) ?_
    refine ad 2 ?_
    refine cd (fun h2 => ?_) (fun h2 => ?_)
    ·
      have hM := hM.trans (bt h2)
      refine ad 4 ?_
      exact rz (rs := [.tmp 4]) (congrArg (fun x => [Re.c (.bool x)]) hM)
    ·
      have hM := hM.trans (bf h2)
      refine ad 5 ?_
      exact rz (rs := [.tmp 4]) (congrArg (fun x => [Re.c (.bool x)]) hM)

/- F171 loop.example/g00974/laws.eqIntS -/
def laws_eqIntS_l1 (p0 : List Int) (p1 : List Int) : Nat → Nat → Bool
  | 0, i => true
  | n + 1, i => bif !decide ((nth p0 i) = (nth p1 i)) then false else (laws_eqIntS_l1 p0 p1 n (i + 1))
def laws_eqIntS (p0 : List Int) (p1 : List Int) : Bool := bif !decide ((p0.length : Int) = (p1.length : Int)) then false else (laws_eqIntS_l1 p0 p1 (p0.length - 0) 0)
theorem c_laws_eqIntS (p0 : List Int) (p1 : List Int) : CTs 171 [.o (.sl Int instDatInt p0), .o (.sl Int instDatInt p1)] [Re.c (.bool (laws_eqIntS p0 p1))] := by
  refine en Tryz.func171 Tryz.ntmps171 fun w hG hgd => ?_
  obtain ⟨hg_p0, hg_p1, _⟩ := hgd
  have hl_p0 : p0.length ≤ 9223372036854775807 := hg_p0.1
  have hl_p1 : p1.length ≤ 9223372036854775807 := hg_p1.1
  have hM := laws_eqIntS.eq_1 p0 p1
  refine ad 13 ?_
  refine cd (fun h1 => ?_) (fun h1 => ?_)
  ·
    have hM := hM.trans (bt h1)
    refine ad 4 ?_
    exact rz (rs := [.tmp 4]) (congrArg (fun x => [Re.c (.bool x)]) hM)
  ·
    have hM := hM.trans (bf h1)
    refine ad 7 ?_
    refine Run.loopM (ι := Nat) (fun s => laws_eqIntS_l1 p0 p1 (p0.length - s) s) (fun s => ⟨26, 2, [(0, .sl 0 p0.length), (1, .sl 1 p1.length), (5, .v (.int .i64 (s : Int)))], [(0, .ros Int instDatInt p0), (1, .ros Int instDatInt p1)]⟩) (fun s => s ≤ p0.length) (fun s => p0.length - s) 0 [0, 1] [0, 1] hM (by first | exact ⟨by omega, by simp⟩ | omega | simp | (dsimp only; omega)) su (by decide) ?_
    rintro i hv hE
    try dsimp only at hE
    have hi := hv
    try dsimp only at hi
    refine ad 8 ?_
    refine cd (fun h2 => ?_) (fun h2 => ?_)
    ·
      have h2l : i < p0.length := by have := of_decide_eq_true h2; omega
      have hM := hE.trans ((congrArg (fun n => laws_eqIntS_l1 p0 p1 n i) (show p0.length - i = (p0.length - (i + 1)) + 1 by omega)).trans (laws_eqIntS_l1.eq_2 _ _ _ _))
      refine ad 4 ?_
      refine dr 9 fun _ _ _ _ _ hb => ?_
      refine tk [0, 1] ?_
      have hg3 := good_nth (k := i) hg_p0 om
      refine tx 2 (dx (xs := p0) i om) ?_
      refine tk [3, 4, 5] ?_
      have hg4 := good_nth (k := i) hg_p1 om
      refine tx 6 (dx (xs := p1) i om) ?_
      refine tk [7, 8] ?_
      refine dn hb ?_
      refine cd (fun h5 => ?_) (fun h5 => ?_)
      ·
        have hM := hM.trans (bt h5)
        refine ad 4 ?_
        exact rz (rs := [.tmp 4]) (congrArg (fun x => [Re.c (.bool x)]) hM)
      ·
        have hM := hM.trans (bf h5)
        refine ad 5 ?_
        rw [wrapN (i := i) (by first | omega | exact om)]
        refine ad 2 ?_
        exact Run.again (i + 1) [0, 1] [2, 3] ⟨by first | omega | exact trivial | (dsimp only; omega) | (refine ⟨by omega, ?_⟩; simp_all; try omega), hM⟩ rfl (by show _ - _ < _ - _; (try dsimp only); omega) su (by decide)
    ·
      have h2l : ¬ (i < p0.length) := by have := of_decide_eq_false h2; omega
      have hM := hE.trans ((congrArg (fun n => laws_eqIntS_l1 p0 p1 n i) (show p0.length - i = 0 by omega)).trans (laws_eqIntS_l1.eq_1 _ _ _))
      refine ad 5 ?_
      exact rz (rs := [.tmp 4]) (congrArg (fun x => [Re.c (.bool x)]) hM)

/- F95 loop.example/g00974/laws.eqTx -/
def laws_eqTx (p0 : Tx) (p1 : Tx) : Bool := bif !decide (p0.Id = p1.Id) then false else (bif !decide (p0.Age = p1.Age) then false else (bif !decide (p0.Proc = p1.Proc) then false else (bif !decide (p0.Began = p1.Began) then false else (bif !(laws_eqCallS p0.Calls p1.Calls) then false else (bif !(laws_eqAnswerS p0.Answers p1.Answers) then false else (bif !(laws_eqTouch p0.Touch p1.Touch) then false else (bif !(laws_eqIntS p0.Marks p1.Marks) then false else (bif !decide (p0.State = p1.State) then false else true))))))))
theorem c_laws_eqTx (p0 : Tx) (p1 : Tx) : CTs 95 [.o (.st Tx _ inferInstance p0), .o (.st Tx _ inferInstance p1)] [Re.c (.bool (laws_eqTx p0 p1))] := by
  refine en Tryz.func95 Tryz.ntmps95 fun w hG hgd => ?_
  obtain ⟨hg_p0, hg_p1, _⟩ := hgd
  have hM := laws_eqTx.eq_1 p0 p1
  refine ad 15 ?_
  refine cd (fun h1 => ?_) (fun h1 => ?_)
  ·
    have hM := hM.trans (bt h1)
    refine ad 4 ?_
    exact rz (rs := [.tmp 4]) (congrArg (fun x => [Re.c (.bool x)]) hM)
  ·
    have hM := hM.trans (bf h1)
    refine ad 10 ?_
    refine cd (fun h2 => ?_) (fun h2 => ?_)
    ·
      have hM := hM.trans (bt h2)
      refine ad 4 ?_
      exact rz (rs := [.tmp 4]) (congrArg (fun x => [Re.c (.bool x)]) hM)
    ·
      have hM := hM.trans (bf h2)
      refine ad 10 ?_
      refine cd (fun h3 => ?_) (fun h3 => ?_)
      ·
        have hM := hM.trans (bt h3)
        refine ad 4 ?_
        exact rz (rs := [.tmp 4]) (congrArg (fun x => [Re.c (.bool x)]) hM)
      ·
        have hM := hM.trans (bf h3)
        refine ad 10 ?_
        refine cd (fun h4 => ?_) (fun h4 => ?_)
        ·
          have hM := hM.trans (bt h4)
          refine ad 4 ?_
          exact rz (rs := [.tmp 4]) (congrArg (fun x => [Re.c (.bool x)]) hM)
        ·
          have hM := hM.trans (bf h4)
          refine ad 8 ?_
          refine op (cl (c_laws_eqCallS p0.Calls p1.Calls) fok169) ?_
          refine ad 2 ?_
          refine cd (fun h5 => ?_) (fun h5 => ?_)
          ·
            have hM := hM.trans (bt h5)
            refine ad 4 ?_
            exact rz (rs := [.tmp 4]) (congrArg (fun x => [Re.c (.bool x)]) hM)
          ·
            have hM := hM.trans (bf h5)
            refine ad 8 ?_
            refine op (cl (c_laws_eqAnswerS p0.Answers p1.Answers) fok123) ?_
            refine ad 2 ?_
            refine cd (fun h6 => ?_) (fun h6 => ?_)
            ·
              have hM := hM.trans (bt h6)
              refine ad 4 ?_
              exact rz (rs := [.tmp 4]) (congrArg (fun x => [Re.c (.bool x)]) hM)
            ·
              have hM := hM.trans (bf h6)
              refine ad 8 ?_
              have hg7 : Dat.good (p0.Touch : Touch) := hg_p0.2.2.2.2.2.2.1
              have hg8 : Dat.good (p1.Touch : Touch) := hg_p1.2.2.2.2.2.2.1
              refine op (cl (c_laws_eqTouch p0.Touch p1.Touch) fok170) ?_
              refine ad 2 ?_
              refine cd (fun h9 => ?_) (fun h9 => ?_)
              ·
                have hM := hM.trans (bt h9)
                refine ad 4 ?_
                exact rz (rs := [.tmp 4]) (congrArg (fun x => [Re.c (.bool x)]) hM)
              ·
                have hM := hM.trans (bf h9)
                refine ad 8 ?_
                refine op (cl (c_laws_eqIntS p0.Marks p1.Marks) fok171) ?_
                refine ad 2 ?_
                refine cd (fun h10 => ?_) (fun h10 => ?_)
                ·
                  have hM := hM.trans (bt h10)
                  refine ad 4 ?_
                  exact rz (rs := [.tmp 4]) (congrArg (fun x => [Re.c (.bool x)]) hM)
                ·
                  have hM := hM.trans (bf h10)
                  refine ad 10 ?_
                  refine cd (fun h11 => ?_) (fun h11 => ?_)
                  ·
                    have hM := hM.trans (bt h11)
                    refine ad 4 ?_
                    exact rz (rs := [.tmp 4]) (congrArg (fun x => [Re.c (.bool x)]) hM)
                  ·
                    have hM := hM.trans (bf h11)
                    refine ad 5 ?_
                    exact rz (rs := [.tmp 4]) (congrArg (fun x => [Re.c (.bool x)]) hM)

/- F46 loop.example/g00974/laws.eqTxS -/
def laws_eqTxS_l1 (p0 : List Tx) (p1 : List Tx) : Nat → Nat → Bool
  | 0, i => true
  | n + 1, i => bif !(laws_eqTx (nth p0 i) (nth p1 i)) then false else (laws_eqTxS_l1 p0 p1 n (i + 1))
def laws_eqTxS (p0 : List Tx) (p1 : List Tx) : Bool := bif !decide ((p0.length : Int) = (p1.length : Int)) then false else (laws_eqTxS_l1 p0 p1 (p0.length - 0) 0)
theorem c_laws_eqTxS (p0 : List Tx) (p1 : List Tx) : CTs 46 [.o (.sl Tx instDatTx p0), .o (.sl Tx instDatTx p1)] [Re.c (.bool (laws_eqTxS p0 p1))] := by
  refine en Tryz.func46 Tryz.ntmps46 fun w hG hgd => ?_
  obtain ⟨hg_p0, hg_p1, _⟩ := hgd
  have hl_p0 : p0.length ≤ 9223372036854775807 := hg_p0.1
  have hl_p1 : p1.length ≤ 9223372036854775807 := hg_p1.1
  have hM := laws_eqTxS.eq_1 p0 p1
  refine ad 13 ?_
  refine cd (fun h1 => ?_) (fun h1 => ?_)
  ·
    have hM := hM.trans (bt h1)
    refine ad 4 ?_
    exact rz (rs := [.tmp 4]) (congrArg (fun x => [Re.c (.bool x)]) hM)
  ·
    have hM := hM.trans (bf h1)
    refine ad 7 ?_
    refine Run.loopM (ι := Nat) (fun s => laws_eqTxS_l1 p0 p1 (p0.length - s) s) (fun s => ⟨27, 2, [(0, .sl 0 p0.length), (1, .sl 1 p1.length), (5, .v (.int .i64 (s : Int)))], [(0, .ros Tx instDatTx p0), (1, .ros Tx instDatTx p1)]⟩) (fun s => s ≤ p0.length) (fun s => p0.length - s) 0 [0, 1] [0, 1] hM (by first | exact ⟨by omega, by simp⟩ | omega | simp | (dsimp only; omega)) su (by decide) ?_
    rintro i hv hE
    try dsimp only at hE
    have hi := hv
    try dsimp only at hi
    refine ad 8 ?_
    refine cd (fun h2 => ?_) (fun h2 => ?_)
    ·
      have h2l : i < p0.length := by have := of_decide_eq_true h2; omega
      have hM := hE.trans ((congrArg (fun n => laws_eqTxS_l1 p0 p1 n i) (show p0.length - i = (p0.length - (i + 1)) + 1 by omega)).trans (laws_eqTxS_l1.eq_2 _ _ _ _))
      refine ad 4 ?_
      refine dr 10 fun _ _ _ _ _ hb => ?_
      refine tk [0, 1] ?_
      have hg3 := good_nth (k := i) hg_p0 om
      refine tx 2 (dx (xs := p0) i om) ?_
      refine tk [3, 4, 5] ?_
      have hg4 := good_nth (k := i) hg_p1 om
      refine tx 6 (dx (xs := p1) i om) ?_
      refine tk [7] ?_
      have hg5 : Dat.good (nth p0 i : Tx) := hg3
      have hg6 : Dat.good (nth p1 i : Tx) := hg4
      refine on 8 [12, 13] (cl (c_laws_eqTx (nth p0 i) (nth p1 i)) fok95) ?_
      refine tk [9] ?_
      refine dn hb ?_
      refine cd (fun h7 => ?_) (fun h7 => ?_)
      ·
        have hM := hM.trans (bt h7)
        refine ad 4 ?_
        exact rz (rs := [.tmp 4]) (congrArg (fun x => [Re.c (.bool x)]) hM)
      ·
        have hM := hM.trans (bf h7)
        refine ad 5 ?_
        rw [wrapN (i := i) (by first | omega | exact om)]
        refine ad 2 ?_
        exact Run.again (i + 1) [0, 1] [12, 13] ⟨by first | omega | exact trivial | (dsimp only; omega) | (refine ⟨by omega, ?_⟩; simp_all; try omega), hM⟩ rfl (by show _ - _ < _ - _; (try dsimp only); omega) su (by decide)
    ·
      have h2l : ¬ (i < p0.length) := by have := of_decide_eq_false h2; omega
      have hM := hE.trans ((congrArg (fun n => laws_eqTxS_l1 p0 p1 n i) (show p0.length - i = 0 by omega)).trans (laws_eqTxS_l1.eq_1 _ _ _))
      refine ad 5 ?_
      exact rz (rs := [.tmp 4]) (congrArg (fun x => [Re.c (.bool x)]) hM)

/- F172 loop.example/g00974/laws.eqSlot -/
def laws_eqSlot (p0 : Slot) (p1 : Slot) : Bool := bif !decide (p0.Seq = p1.Seq) then false else (bif !(laws_eqCellS p0.Cells p1.Cells) then false else (bif !decide (p0.Whole = p1.Whole) then false else true))
theorem c_laws_eqSlot (p0 : Slot) (p1 : Slot) : CTs 172 [.o (.st Slot _ inferInstance p0), .o (.st Slot _ inferInstance p1)] [Re.c (.bool (laws_eqSlot p0 p1))] := by
  refine en Tryz.func172 Tryz.ntmps172 fun w hG hgd => ?_
  obtain ⟨hg_p0, hg_p1, _⟩ := hgd
  have hM := laws_eqSlot.eq_1 p0 p1
  refine ad 15 ?_
  refine cd (fun h1 => ?_) (fun h1 => ?_)
  ·
    have hM := hM.trans (bt h1)
    refine ad 4 ?_
    exact rz (rs := [.tmp 4]) (congrArg (fun x => [Re.c (.bool x)]) hM)
  ·
    have hM := hM.trans (bf h1)
    refine ad 8 ?_
    refine op (cl (c_laws_eqCellS p0.Cells p1.Cells) fok45) ?_
    refine ad 2 ?_
    refine cd (fun h2 => ?_) (fun h2 => ?_)
    ·
      have hM := hM.trans (bt h2)
      refine ad 4 ?_
      exact rz (rs := [.tmp 4]) (congrArg (fun x => [Re.c (.bool x)]) hM)
    ·
      have hM := hM.trans (bf h2)
      refine ad 10 ?_
      refine cd (fun h3 => ?_) (fun h3 => ?_)
      ·
        have hM := hM.trans (bt h3)
        refine ad 4 ?_
        exact rz (rs := [.tmp 4]) (congrArg (fun x => [Re.c (.bool x)]) hM)
      ·
        have hM := hM.trans (bf h3)
        refine ad 5 ?_
        exact rz (rs := [.tmp 4]) (congrArg (fun x => [Re.c (.bool x)]) hM)

/- F96 loop.example/g00974/laws.eqSlotS -/
def laws_eqSlotS_l1 (p0 : List Slot) (p1 : List Slot) : Nat → Nat → Bool
  | 0, i => true
  | n + 1, i => bif !(laws_eqSlot (nth p0 i) (nth p1 i)) then false else (laws_eqSlotS_l1 p0 p1 n (i + 1))
def laws_eqSlotS (p0 : List Slot) (p1 : List Slot) : Bool := bif !decide ((p0.length : Int) = (p1.length : Int)) then false else (laws_eqSlotS_l1 p0 p1 (p0.length - 0) 0)
theorem c_laws_eqSlotS (p0 : List Slot) (p1 : List Slot) : CTs 96 [.o (.sl Slot instDatSlot p0), .o (.sl Slot instDatSlot p1)] [Re.c (.bool (laws_eqSlotS p0 p1))] := by
  refine en Tryz.func96 Tryz.ntmps96 fun w hG hgd => ?_
  obtain ⟨hg_p0, hg_p1, _⟩ := hgd
  have hl_p0 : p0.length ≤ 9223372036854775807 := hg_p0.1
  have hl_p1 : p1.length ≤ 9223372036854775807 := hg_p1.1
  have hM := laws_eqSlotS.eq_1 p0 p1
  refine ad 13 ?_
  refine cd (fun h1 => ?_) (fun h1 => ?_)
  ·
    have hM := hM.trans (bt h1)
    refine ad 4 ?_
    exact rz (rs := [.tmp 4]) (congrArg (fun x => [Re.c (.bool x)]) hM)
  ·
    have hM := hM.trans (bf h1)
    refine ad 7 ?_
    refine Run.loopM (ι := Nat) (fun s => laws_eqSlotS_l1 p0 p1 (p0.length - s) s) (fun s => ⟨27, 2, [(0, .sl 0 p0.length), (1, .sl 1 p1.length), (5, .v (.int .i64 (s : Int)))], [(0, .ros Slot instDatSlot p0), (1, .ros Slot instDatSlot p1)]⟩) (fun s => s ≤ p0.length) (fun s => p0.length - s) 0 [0, 1] [0, 1] hM (by first | exact ⟨by omega, by simp⟩ | omega | simp | (dsimp only; omega)) su (by decide) ?_
    rintro i hv hE
    try dsimp only at hE
    have hi := hv
    try dsimp only at hi
    refine ad 8 ?_
    refine cd (fun h2 => ?_) (fun h2 => ?_)
    ·
      have h2l : i < p0.length := by have := of_decide_eq_true h2; omega
      have hM := hE.trans ((congrArg (fun n => laws_eqSlotS_l1 p0 p1 n i) (show p0.length - i = (p0.length - (i + 1)) + 1 by omega)).trans (laws_eqSlotS_l1.eq_2 _ _ _ _))
      refine ad 4 ?_
      refine dr 10 fun _ _ _ _ _ hb => ?_
      refine tk [0, 1] ?_
      have hg3 := good_nth (k := i) hg_p0 om
      refine tx 2 (dx (xs := p0) i om) ?_
      refine tk [3, 4, 5] ?_
      have hg4 := good_nth (k := i) hg_p1 om
      refine tx 6 (dx (xs := p1) i om) ?_
      refine tk [7] ?_
      have hg5 : Dat.good (nth p0 i : Slot) := hg3
      have hg6 : Dat.good (nth p1 i : Slot) := hg4
      refine on 8 [4, 5] (cl (c_laws_eqSlot (nth p0 i) (nth p1 i)) fok172) ?_
      refine tk [9] ?_
      refine dn hb ?_
      refine cd (fun h7 => ?_) (fun h7 => ?_)
      ·
        have hM := hM.trans (bt h7)
        refine ad 4 ?_
        exact rz (rs := [.tmp 4]) (congrArg (fun x => [Re.c (.bool x)]) hM)
      ·
        have hM := hM.trans (bf h7)
        refine ad 5 ?_
        rw [wrapN (i := i) (by first | omega | exact om)]
        refine ad 2 ?_
        exact Run.again (i + 1) [0, 1] [4, 5] ⟨by first | omega | exact trivial | (dsimp only; omega) | (refine ⟨by omega, ?_⟩; simp_all; try omega), hM⟩ rfl (by show _ - _ < _ - _; (try dsimp only); omega) su (by decide)
    ·
      have h2l : ¬ (i < p0.length) := by have := of_decide_eq_false h2; omega
      have hM := hE.trans ((congrArg (fun n => laws_eqSlotS_l1 p0 p1 n i) (show p0.length - i = 0 by omega)).trans (laws_eqSlotS_l1.eq_1 _ _ _))
      refine ad 5 ?_
      exact rz (rs := [.tmp 4]) (congrArg (fun x => [Re.c (.bool x)]) hM)

/- F97 loop.example/g00974/laws.eqJournal -/
def laws_eqJournal (p0 : Journal) (p1 : Journal) : Bool := bif !decide (p0.Text = p1.Text) then false else (bif !decide (p0.Sure = p1.Sure) then false else true)
theorem c_laws_eqJournal (p0 : Journal) (p1 : Journal) : CTs 97 [.o (.st Journal _ inferInstance p0), .o (.st Journal _ inferInstance p1)] [Re.c (.bool (laws_eqJournal p0 p1))] := by
  refine en Tryz.func97 Tryz.ntmps97 fun w hG hgd => ?_
  obtain ⟨hg_p0, hg_p1, _⟩ := hgd
  have hM := laws_eqJournal.eq_1 p0 p1
  refine ad 15 ?_
  refine cd (fun h1 => ?_) (fun h1 => ?_)
  ·
    have hM := hM.trans (bt h1)
    refine ad 4 ?_
    exact rz (rs := [.tmp 4]) (congrArg (fun x => [Re.c (.bool x)]) hM)
  ·
    have hM := hM.trans (bf h1)
    refine ad 10 ?_
    refine cd (fun h2 => ?_) (fun h2 => ?_)
    ·
      have hM := hM.trans (bt h2)
      refine ad 4 ?_
      exact rz (rs := [.tmp 4]) (congrArg (fun x => [Re.c (.bool x)]) hM)
    ·
      have hM := hM.trans (bf h2)
      refine ad 5 ?_
      exact rz (rs := [.tmp 4]) (congrArg (fun x => [Re.c (.bool x)]) hM)

/- F47 loop.example/g00974/laws.eqDisk -/
def laws_eqDisk (p0 : Disk) (p1 : Disk) : Bool := bif !(laws_eqSlotS p0.Slots p1.Slots) then false else (bif !(laws_eqJournal p0.Journal p1.Journal) then false else true)
theorem c_laws_eqDisk (p0 : Disk) (p1 : Disk) : CTs 47 [.o (.st Disk _ inferInstance p0), .o (.st Disk _ inferInstance p1)] [Re.c (.bool (laws_eqDisk p0 p1))] := by
  refine en Tryz.func47 Tryz.ntmps47 fun w hG hgd => ?_
  obtain ⟨hg_p0, hg_p1, _⟩ := hgd
  have hM := laws_eqDisk.eq_1 p0 p1
  refine ad 13 ?_
  refine op (cl (c_laws_eqSlotS p0.Slots p1.Slots) fok96) ?_
  refine ad 2 ?_
  refine cd (fun h1 => ?_) (fun h1 => ?_)
  ·
    have hM := hM.trans (bt h1)
    refine ad 4 ?_
    exact rz (rs := [.tmp 4]) (congrArg (fun x => [Re.c (.bool x)]) hM)
  ·
    have hM := hM.trans (bf h1)
    refine ad 8 ?_
    have hg2 : Dat.good (p0.Journal : Journal) := hg_p0.2
    have hg3 : Dat.good (p1.Journal : Journal) := hg_p1.2
    refine op (cl (c_laws_eqJournal p0.Journal p1.Journal) fok97) ?_
    refine ad 2 ?_
    refine cd (fun h4 => ?_) (fun h4 => ?_)
    ·
      have hM := hM.trans (bt h4)
      refine ad 4 ?_
      exact rz (rs := [.tmp 4]) (congrArg (fun x => [Re.c (.bool x)]) hM)
    ·
      have hM := hM.trans (bf h4)
      refine ad 5 ?_
      exact rz (rs := [.tmp 4]) (congrArg (fun x => [Re.c (.bool x)]) hM)

/- F183 loop.example/g00974/laws.eqStep -/
def laws_eqStep (p0 : Step) (p1 : Step) : Bool := bif !decide (p0.Proc = p1.Proc) then false else (bif !(laws_eqCall p0.Call p1.Call) then false else true)
theorem c_laws_eqStep (p0 : Step) (p1 : Step) : CTs 183 [.o (.st Step _ inferInstance p0), .o (.st Step _ inferInstance p1)] [Re.c (.bool (laws_eqStep p0 p1))] := by
  refine en Tryz.func183 Tryz.ntmps183 fun w hG hgd => ?_
  obtain ⟨hg_p0, hg_p1, _⟩ := hgd
  have hM := laws_eqStep.eq_1 p0 p1
  refine ad 15 ?_
  refine cd (fun h1 => ?_) (fun h1 => ?_)
  ·
    have hM := hM.trans (bt h1)
    refine ad 4 ?_
    exact rz (rs := [.tmp 4]) (congrArg (fun x => [Re.c (.bool x)]) hM)
  ·
    have hM := hM.trans (bf h1)
    refine ad 8 ?_
    have hg2 : Dat.good (p0.Call : Call) := hg_p0.2
    have hg3 : Dat.good (p1.Call : Call) := hg_p1.2
    refine op (cl (c_laws_eqCall p0.Call p1.Call) fok223) ?_
    refine ad 2 ?_
    refine cd (fun h4 => ?_) (fun h4 => ?_)
    ·
      have hM := hM.trans (bt h4)
      refine ad 4 ?_
      exact rz (rs := [.tmp 4]) (congrArg (fun x => [Re.c (.bool x)]) hM)
    ·
      have hM := hM.trans (bf h4)
      refine ad 5 ?_
      exact rz (rs := [.tmp 4]) (congrArg (fun x => [Re.c (.bool x)]) hM)

/- F122 loop.example/g00974/laws.eqStepS -/
def laws_eqStepS_l1 (p0 : List Step) (p1 : List Step) : Nat → Nat → Bool
  | 0, i => true
  | n + 1, i => bif !(laws_eqStep (nth p0 i) (nth p1 i)) then false else (laws_eqStepS_l1 p0 p1 n (i + 1))
def laws_eqStepS (p0 : List Step) (p1 : List Step) : Bool := bif !decide ((p0.length : Int) = (p1.length : Int)) then false else (laws_eqStepS_l1 p0 p1 (p0.length - 0) 0)
theorem c_laws_eqStepS (p0 : List Step) (p1 : List Step) : CTs 122 [.o (.sl Step instDatStep p0), .o (.sl Step instDatStep p1)] [Re.c (.bool (laws_eqStepS p0 p1))] := by
  refine en Tryz.func122 Tryz.ntmps122 fun w hG hgd => ?_
  obtain ⟨hg_p0, hg_p1, _⟩ := hgd
  have hl_p0 : p0.length ≤ 9223372036854775807 := hg_p0.1
  have hl_p1 : p1.length ≤ 9223372036854775807 := hg_p1.1
  have hM := laws_eqStepS.eq_1 p0 p1
  refine ad 13 ?_
  refine cd (fun h1 => ?_) (fun h1 => ?_)
  ·
    have hM := hM.trans (bt h1)
    refine ad 4 ?_
    exact rz (rs := [.tmp 4]) (congrArg (fun x => [Re.c (.bool x)]) hM)
  ·
    have hM := hM.trans (bf h1)
    refine ad 7 ?_
    refine Run.loopM (ι := Nat) (fun s => laws_eqStepS_l1 p0 p1 (p0.length - s) s) (fun s => ⟨27, 2, [(0, .sl 0 p0.length), (1, .sl 1 p1.length), (5, .v (.int .i64 (s : Int)))], [(0, .ros Step instDatStep p0), (1, .ros Step instDatStep p1)]⟩) (fun s => s ≤ p0.length) (fun s => p0.length - s) 0 [0, 1] [0, 1] hM (by first | exact ⟨by omega, by simp⟩ | omega | simp | (dsimp only; omega)) su (by decide) ?_
    rintro i hv hE
    try dsimp only at hE
    have hi := hv
    try dsimp only at hi
    refine ad 8 ?_
    refine cd (fun h2 => ?_) (fun h2 => ?_)
    ·
      have h2l : i < p0.length := by have := of_decide_eq_true h2; omega
      have hM := hE.trans ((congrArg (fun n => laws_eqStepS_l1 p0 p1 n i) (show p0.length - i = (p0.length - (i + 1)) + 1 by omega)).trans (laws_eqStepS_l1.eq_2 _ _ _ _))
      refine ad 4 ?_
      refine dr 10 fun _ _ _ _ _ hb => ?_
      refine tk [0, 1] ?_
      have hg3 := good_nth (k := i) hg_p0 om
      refine tx 2 (dx (xs := p0) i om) ?_
      refine tk [3, 4, 5] ?_
      have hg4 := good_nth (k := i) hg_p1 om
      refine tx 6 (dx (xs := p1) i om) ?_
      refine tk [7] ?_
      have hg5 : Dat.good (nth p0 i : Step) := hg3
      have hg6 : Dat.good (nth p1 i : Step) := hg4
      refine on 8 [2, 3] (cl (c_laws_eqStep (nth p0 i) (nth p1 i)) fok183) ?_
      refine tk [9] ?_
      refine dn hb ?_
      refine cd (fun h7 => ?_) (fun h7 => ?_)
      ·
        have hM := hM.trans (bt h7)
        refine ad 4 ?_
        exact rz (rs := [.tmp 4]) (congrArg (fun x => [Re.c (.bool x)]) hM)
      ·
        have hM := hM.trans (bf h7)
        refine ad 5 ?_
        rw [wrapN (i := i) (by first | omega | exact om)]
        refine ad 2 ?_
        exact Run.again (i + 1) [0, 1] [2, 3] ⟨by first | omega | exact trivial | (dsimp only; omega) | (refine ⟨by omega, ?_⟩; simp_all; try omega), hM⟩ rfl (by show _ - _ < _ - _; (try dsimp only); omega) su (by decide)
    ·
      have h2l : ¬ (i < p0.length) := by have := of_decide_eq_false h2; omega
      have hM := hE.trans ((congrArg (fun n => laws_eqStepS_l1 p0 p1 n i) (show p0.length - i = 0 by omega)).trans (laws_eqStepS_l1.eq_1 _ _ _))
      refine ad 5 ?_
      exact rz (rs := [.tmp 4]) (congrArg (fun x => [Re.c (.bool x)]) hM)

/- F63 loop.example/g00974/laws.eqEntry -/
def laws_eqEntry (p0 : Entry) (p1 : Entry) : Bool := bif !decide (p0.Seq = p1.Seq) then false else (bif !decide (p0.Kind = p1.Kind) then false else (bif !decide (p0.Tx = p1.Tx) then false else (bif !(laws_eqStepS p0.Steps p1.Steps) then false else (bif !(laws_eqAnswerS p0.Answers p1.Answers) then false else (bif !decide (p0.Began = p1.Began) then false else (bif !decide (p0.Ended = p1.Ended) then false else (bif !decide (p0.Laid = p1.Laid) then false else true)))))))
theorem c_laws_eqEntry (p0 : Entry) (p1 : Entry) : CTs 63 [.o (.st Entry _ inferInstance p0), .o (.st Entry _ inferInstance p1)] [Re.c (.bool (laws_eqEntry p0 p1))] := by
  refine en Tryz.func63 Tryz.ntmps63 fun w hG hgd => ?_
  obtain ⟨hg_p0, hg_p1, _⟩ := hgd
  have hM := laws_eqEntry.eq_1 p0 p1
  refine ad 15 ?_
  refine cd (fun h1 => ?_) (fun h1 => ?_)
  ·
    have hM := hM.trans (bt h1)
    refine ad 4 ?_
    exact rz (rs := [.tmp 4]) (congrArg (fun x => [Re.c (.bool x)]) hM)
  ·
    have hM := hM.trans (bf h1)
    refine ad 10 ?_
    refine cd (fun h2 => ?_) (fun h2 => ?_)
    ·
      have hM := hM.trans (bt h2)
      refine ad 4 ?_
      exact rz (rs := [.tmp 4]) (congrArg (fun x => [Re.c (.bool x)]) hM)
    ·
      have hM := hM.trans (bf h2)
      refine ad 10 ?_
      refine cd (fun h3 => ?_) (fun h3 => ?_)
      ·
        have hM := hM.trans (bt h3)
        refine ad 4 ?_
        exact rz (rs := [.tmp 4]) (congrArg (fun x => [Re.c (.bool x)]) hM)
      ·
        have hM := hM.trans (bf h3)
        refine ad 8 ?_
        refine op (cl (c_laws_eqStepS p0.Steps p1.Steps) fok122) ?_
        refine ad 2 ?_
        refine cd (fun h4 => ?_) (fun h4 => ?_)
        ·
          have hM := hM.trans (bt h4)
          refine ad 4 ?_
          exact rz (rs := [.tmp 4]) (congrArg (fun x => [Re.c (.bool x)]) hM)
        ·
          have hM := hM.trans (bf h4)
          refine ad 8 ?_
          refine op (cl (c_laws_eqAnswerS p0.Answers p1.Answers) fok123) ?_
          refine ad 2 ?_
          refine cd (fun h5 => ?_) (fun h5 => ?_)
          ·
            have hM := hM.trans (bt h5)
            refine ad 4 ?_
            exact rz (rs := [.tmp 4]) (congrArg (fun x => [Re.c (.bool x)]) hM)
          ·
            have hM := hM.trans (bf h5)
            refine ad 10 ?_
            refine cd (fun h6 => ?_) (fun h6 => ?_)
            ·
              have hM := hM.trans (bt h6)
              refine ad 4 ?_
              exact rz (rs := [.tmp 4]) (congrArg (fun x => [Re.c (.bool x)]) hM)
            ·
              have hM := hM.trans (bf h6)
              refine ad 10 ?_
              refine cd (fun h7 => ?_) (fun h7 => ?_)
              ·
                have hM := hM.trans (bt h7)
                refine ad 4 ?_
                exact rz (rs := [.tmp 4]) (congrArg (fun x => [Re.c (.bool x)]) hM)
              ·
                have hM := hM.trans (bf h7)
                refine ad 10 ?_
                refine cd (fun h8 => ?_) (fun h8 => ?_)
                ·
                  have hM := hM.trans (bt h8)
                  refine ad 4 ?_
                  exact rz (rs := [.tmp 4]) (congrArg (fun x => [Re.c (.bool x)]) hM)
                ·
                  have hM := hM.trans (bf h8)
                  refine ad 5 ?_
                  exact rz (rs := [.tmp 4]) (congrArg (fun x => [Re.c (.bool x)]) hM)

/- F24 loop.example/g00974/laws.eqEntryS -/
def laws_eqEntryS_l1 (p0 : List Entry) (p1 : List Entry) : Nat → Nat → Bool
  | 0, i => true
  | n + 1, i => bif !(laws_eqEntry (nth p0 i) (nth p1 i)) then false else (laws_eqEntryS_l1 p0 p1 n (i + 1))
def laws_eqEntryS (p0 : List Entry) (p1 : List Entry) : Bool := bif !decide ((p0.length : Int) = (p1.length : Int)) then false else (laws_eqEntryS_l1 p0 p1 (p0.length - 0) 0)
theorem c_laws_eqEntryS (p0 : List Entry) (p1 : List Entry) : CTs 24 [.o (.sl Entry instDatEntry p0), .o (.sl Entry instDatEntry p1)] [Re.c (.bool (laws_eqEntryS p0 p1))] := by
  refine en Tryz.func24 Tryz.ntmps24 fun w hG hgd => ?_
  obtain ⟨hg_p0, hg_p1, _⟩ := hgd
  have hl_p0 : p0.length ≤ 9223372036854775807 := hg_p0.1
  have hl_p1 : p1.length ≤ 9223372036854775807 := hg_p1.1
  have hM := laws_eqEntryS.eq_1 p0 p1
  refine ad 13 ?_
  refine cd (fun h1 => ?_) (fun h1 => ?_)
  ·
    have hM := hM.trans (bt h1)
    refine ad 4 ?_
    exact rz (rs := [.tmp 4]) (congrArg (fun x => [Re.c (.bool x)]) hM)
  ·
    have hM := hM.trans (bf h1)
    refine ad 7 ?_
    refine Run.loopM (ι := Nat) (fun s => laws_eqEntryS_l1 p0 p1 (p0.length - s) s) (fun s => ⟨27, 2, [(0, .sl 0 p0.length), (1, .sl 1 p1.length), (5, .v (.int .i64 (s : Int)))], [(0, .ros Entry instDatEntry p0), (1, .ros Entry instDatEntry p1)]⟩) (fun s => s ≤ p0.length) (fun s => p0.length - s) 0 [0, 1] [0, 1] hM (by first | exact ⟨by omega, by simp⟩ | omega | simp | (dsimp only; omega)) su (by decide) ?_
    rintro i hv hE
    try dsimp only at hE
    have hi := hv
    try dsimp only at hi
    refine ad 8 ?_
    refine cd (fun h2 => ?_) (fun h2 => ?_)
    ·
      have h2l : i < p0.length := by have := of_decide_eq_true h2; omega
      have hM := hE.trans ((congrArg (fun n => laws_eqEntryS_l1 p0 p1 n i) (show p0.length - i = (p0.length - (i + 1)) + 1 by omega)).trans (laws_eqEntryS_l1.eq_2 _ _ _ _))
      refine ad 4 ?_
      refine dr 10 fun _ _ _ _ _ hb => ?_
      refine tk [0, 1] ?_
      have hg3 := good_nth (k := i) hg_p0 om
      refine tx 2 (dx (xs := p0) i om) ?_
      refine tk [3, 4, 5] ?_
      have hg4 := good_nth (k := i) hg_p1 om
      refine tx 6 (dx (xs := p1) i om) ?_
      refine tk [7] ?_
      have hg5 : Dat.good (nth p0 i : Entry) := hg3
      have hg6 : Dat.good (nth p1 i : Entry) := hg4
      refine on 8 [6, 7] (cl (c_laws_eqEntry (nth p0 i) (nth p1 i)) fok63) ?_
      refine tk [9] ?_
      refine dn hb ?_
      refine cd (fun h7 => ?_) (fun h7 => ?_)
      ·
        have hM := hM.trans (bt h7)
        refine ad 4 ?_
        exact rz (rs := [.tmp 4]) (congrArg (fun x => [Re.c (.bool x)]) hM)
      ·
        have hM := hM.trans (bf h7)
        refine ad 5 ?_
        rw [wrapN (i := i) (by first | omega | exact om)]
        refine ad 2 ?_
        exact Run.again (i + 1) [0, 1] [6, 7] ⟨by first | omega | exact trivial | (dsimp only; omega) | (refine ⟨by omega, ?_⟩; simp_all; try omega), hM⟩ rfl (by show _ - _ < _ - _; (try dsimp only); omega) su (by decide)
    ·
      have h2l : ¬ (i < p0.length) := by have := of_decide_eq_false h2; omega
      have hM := hE.trans ((congrArg (fun n => laws_eqEntryS_l1 p0 p1 n i) (show p0.length - i = 0 by omega)).trans (laws_eqEntryS_l1.eq_1 _ _ _))
      refine ad 5 ?_
      exact rz (rs := [.tmp 4]) (congrArg (fun x => [Re.c (.bool x)]) hM)

/- F13 loop.example/g00974/laws.eqKernel -/
def laws_eqKernel (p0 : Kernel) (p1 : Kernel) : Bool := bif !(laws_eqCellS p0.Store p1.Store) then false else (bif !(laws_eqTxS p0.Txs p1.Txs) then false else (bif !(laws_eqDisk p0.Disk p1.Disk) then false else (bif !decide (p0.Seq = p1.Seq) then false else (bif !decide (p0.Next = p1.Next) then false else (bif !decide (p0.Time = p1.Time) then false else (bif !(laws_eqEntryS p0.History p1.History) then false else (bif !(laws_eqStringS p0.Seen p1.Seen) then false else (bif !decide (p0.Room = p1.Room) then false else true))))))))
theorem c_laws_eqKernel (p0 : Kernel) (p1 : Kernel) : CTs 13 [.o (.st Kernel _ inferInstance p0), .o (.st Kernel _ inferInstance p1)] [Re.c (.bool (laws_eqKernel p0 p1))] := by
  refine en Tryz.func13 Tryz.ntmps13 fun w hG hgd => ?_
  obtain ⟨hg_p0, hg_p1, _⟩ := hgd
  have hM := laws_eqKernel.eq_1 p0 p1
  refine ad 13 ?_
  refine op (cl (c_laws_eqCellS p0.Store p1.Store) fok45) ?_
  refine ad 2 ?_
  refine cd (fun h1 => ?_) (fun h1 => ?_)
  ·
    have hM := hM.trans (bt h1)
    refine ad 4 ?_
    exact rz (rs := [.tmp 4]) (congrArg (fun x => [Re.c (.bool x)]) hM)
  ·
    have hM := hM.trans (bf h1)
    refine ad 8 ?_
    refine op (cl (c_laws_eqTxS p0.Txs p1.Txs) fok46) ?_
    refine ad 2 ?_
    refine cd (fun h2 => ?_) (fun h2 => ?_)
    ·
      have hM := hM.trans (bt h2)
      refine ad 4 ?_
      exact rz (rs := [.tmp 4]) (congrArg (fun x => [Re.c (.bool x)]) hM)
    ·
      have hM := hM.trans (bf h2)
      refine ad 8 ?_
      have hg3 : Dat.good (p0.Disk : Disk) := hg_p0.2.2.1
      have hg4 : Dat.good (p1.Disk : Disk) := hg_p1.2.2.1
      refine op (cl (c_laws_eqDisk p0.Disk p1.Disk) fok47) ?_
      refine ad 2 ?_
      refine cd (fun h5 => ?_) (fun h5 => ?_)
      ·
        have hM := hM.trans (bt h5)
        refine ad 4 ?_
        exact rz (rs := [.tmp 4]) (congrArg (fun x => [Re.c (.bool x)]) hM)
      ·
        have hM := hM.trans (bf h5)
        refine ad 10 ?_
        refine cd (fun h6 => ?_) (fun h6 => ?_)
        ·
          have hM := hM.trans (bt h6)
          refine ad 4 ?_
          exact rz (rs := [.tmp 4]) (congrArg (fun x => [Re.c (.bool x)]) hM)
        ·
          have hM := hM.trans (bf h6)
          refine ad 10 ?_
          refine cd (fun h7 => ?_) (fun h7 => ?_)
          ·
            have hM := hM.trans (bt h7)
            refine ad 4 ?_
            exact rz (rs := [.tmp 4]) (congrArg (fun x => [Re.c (.bool x)]) hM)
          ·
            have hM := hM.trans (bf h7)
            refine ad 10 ?_
            refine cd (fun h8 => ?_) (fun h8 => ?_)
            ·
              have hM := hM.trans (bt h8)
              refine ad 4 ?_
              exact rz (rs := [.tmp 4]) (congrArg (fun x => [Re.c (.bool x)]) hM)
            ·
              have hM := hM.trans (bf h8)
              refine ad 8 ?_
              refine op (cl (c_laws_eqEntryS p0.History p1.History) fok24) ?_
              refine ad 2 ?_
              refine cd (fun h9 => ?_) (fun h9 => ?_)
              ·
                have hM := hM.trans (bt h9)
                refine ad 4 ?_
                exact rz (rs := [.tmp 4]) (congrArg (fun x => [Re.c (.bool x)]) hM)
              ·
                have hM := hM.trans (bf h9)
                refine ad 8 ?_
                refine op (cl (c_laws_eqStringS p0.Seen p1.Seen) fok18) ?_
                refine ad 2 ?_
                refine cd (fun h10 => ?_) (fun h10 => ?_)
                ·
                  have hM := hM.trans (bt h10)
                  refine ad 4 ?_
                  exact rz (rs := [.tmp 4]) (congrArg (fun x => [Re.c (.bool x)]) hM)
                ·
                  have hM := hM.trans (bf h10)
                  refine ad 10 ?_
                  refine cd (fun h11 => ?_) (fun h11 => ?_)
                  ·
                    have hM := hM.trans (bt h11)
                    refine ad 4 ?_
                    exact rz (rs := [.tmp 4]) (congrArg (fun x => [Re.c (.bool x)]) hM)
                  ·
                    have hM := hM.trans (bf h11)
                    refine ad 5 ?_
                    exact rz (rs := [.tmp 4]) (congrArg (fun x => [Re.c (.bool x)]) hM)

end Go.Proofs.YtppialklomgajaaGreatDoor.Fw
/-
  A copy is the same; what is the same is equal. No condition.
-/
namespace Go.Proofs.YtppialklomgajaaGreatDoor.Fw
open Go.RowKit
set_option linter.unusedVariables false
set_option linter.unusedSimpArgs false
set_option maxRecDepth 100000

def toL {α : Type} [Inhabited α] (f : α → α) (xs : List α) : Nat → List α → Nat → List α
  | 0, w, _ => w
  | n + 1, w, i => toL f xs n (w.set i (f (nth xs i))) (i + 1)
theorem toL_eq {α : Type} [Inhabited α] {f : α → α} (hf : ∀ x, f x = x) (xs : List α) : ∀ n w i, n = xs.length - i → w.length = xs.length → (∀ j, j < i → w[j]? = xs[j]?) → toL f xs n w i = xs := by
  intro n
  induction n with
  | zero =>
    intro w i h hl hj
    show w = xs
    apply List.ext_getElem?
    intro j
    rcases Nat.lt_or_ge j i with h1 | h1
    · exact hj j h1
    · rw [List.getElem?_eq_none (by omega), List.getElem?_eq_none (by omega)]
  | succ n ih =>
    intro w i h hl hj
    rw [toL]
    refine ih _ (i + 1) (by omega) (by rw [List.length_set]; exact hl) fun j hji => ?_
    rcases Nat.lt_or_ge j i with h1 | h1
    · rw [List.getElem?_set_ne (by omega)]
      exact hj j h1
    · obtain rfl : j = i := by omega
      rw [List.getElem?_set_self (by omega), hf]
      unfold nth
      rw [List.getD_eq_getElem?_getD, List.getElem?_eq_getElem (by omega : j < xs.length)]
      rfl
def eqL {α : Type} [Inhabited α] (f : α → α → Bool) (xs ys : List α) : Nat → Nat → Bool
  | 0, _ => true
  | n + 1, i => bif !(f (nth xs i) (nth ys i)) then false else eqL f xs ys n (i + 1)
theorem eqL_refl {α : Type} [Inhabited α] {f : α → α → Bool} (hf : ∀ x, f x x = true) (xs : List α) : ∀ n i, eqL f xs xs n i = true := by
  intro n
  induction n with
  | zero => intro i; rfl
  | succ n ih => intro i; rw [eqL, hf, ih]; rfl
theorem laws_toCell_id (p0 : Cell) : laws_toCell p0 = p0 := by
  unfold laws_toCell
  rfl
theorem laws_toCellS_l1_eq (p0 : List Cell) : ∀ n w i, laws_toCellS_l1 p0 n w i = toL (laws_toCell) p0 n w i := by
  intro n
  induction n with
  | zero => intro w i; rfl
  | succ n ih => intro w i; rw [laws_toCellS_l1, toL, ih]
theorem laws_toCellS_id (p0 : List Cell) : laws_toCellS p0 = p0 := by
  unfold laws_toCellS
  rw [laws_toCellS_l1_eq]
  exact toL_eq (laws_toCell_id) p0 _ _ 0 rfl (by rw [List.length_replicate]) fun j hj => by omega
theorem laws_toCall_id (p0 : Call) : laws_toCall p0 = p0 := by
  unfold laws_toCall
  rfl
theorem laws_toCallS_l1_eq (p0 : List Call) : ∀ n w i, laws_toCallS_l1 p0 n w i = toL (laws_toCall) p0 n w i := by
  intro n
  induction n with
  | zero => intro w i; rfl
  | succ n ih => intro w i; rw [laws_toCallS_l1, toL, ih]
theorem laws_toCallS_id (p0 : List Call) : laws_toCallS p0 = p0 := by
  unfold laws_toCallS
  rw [laws_toCallS_l1_eq]
  exact toL_eq (laws_toCall_id) p0 _ _ 0 rfl (by rw [List.length_replicate]) fun j hj => by omega
theorem laws_toAnswer_id (p0 : Answer) : laws_toAnswer p0 = p0 := by
  unfold laws_toAnswer
  rfl
theorem laws_toAnswerS_l1_eq (p0 : List Answer) : ∀ n w i, laws_toAnswerS_l1 p0 n w i = toL (laws_toAnswer) p0 n w i := by
  intro n
  induction n with
  | zero => intro w i; rfl
  | succ n ih => intro w i; rw [laws_toAnswerS_l1, toL, ih]
theorem laws_toAnswerS_id (p0 : List Answer) : laws_toAnswerS p0 = p0 := by
  unfold laws_toAnswerS
  rw [laws_toAnswerS_l1_eq]
  exact toL_eq (laws_toAnswer_id) p0 _ _ 0 rfl (by rw [List.length_replicate]) fun j hj => by omega
theorem laws_toStringS_l1_eq (p0 : List ByteArray) : ∀ n w i, laws_toStringS_l1 p0 n w i = toL (fun x => x) p0 n w i := by
  intro n
  induction n with
  | zero => intro w i; rfl
  | succ n ih => intro w i; rw [laws_toStringS_l1, toL, ih]
theorem laws_toStringS_id (p0 : List ByteArray) : laws_toStringS p0 = p0 := by
  unfold laws_toStringS
  rw [laws_toStringS_l1_eq]
  exact toL_eq (fun _ => rfl) p0 _ _ 0 rfl (by rw [List.length_replicate]) fun j hj => by omega
theorem laws_toTouch_id (p0 : Touch) : laws_toTouch p0 = p0 := by
  unfold laws_toTouch
  simp only [laws_toStringS_id]
theorem laws_toIntS_l1_eq (p0 : List Int) : ∀ n w i, laws_toIntS_l1 p0 n w i = toL (fun x => x) p0 n w i := by
  intro n
  induction n with
  | zero => intro w i; rfl
  | succ n ih => intro w i; rw [laws_toIntS_l1, toL, ih]
theorem laws_toIntS_id (p0 : List Int) : laws_toIntS p0 = p0 := by
  unfold laws_toIntS
  rw [laws_toIntS_l1_eq]
  exact toL_eq (fun _ => rfl) p0 _ _ 0 rfl (by rw [List.length_replicate]) fun j hj => by omega
theorem laws_toTx_id (p0 : Tx) : laws_toTx p0 = p0 := by
  unfold laws_toTx
  simp only [laws_toAnswerS_id, laws_toCallS_id, laws_toIntS_id, laws_toTouch_id]
theorem laws_toTxS_l1_eq (p0 : List Tx) : ∀ n w i, laws_toTxS_l1 p0 n w i = toL (laws_toTx) p0 n w i := by
  intro n
  induction n with
  | zero => intro w i; rfl
  | succ n ih => intro w i; rw [laws_toTxS_l1, toL, ih]
theorem laws_toTxS_id (p0 : List Tx) : laws_toTxS p0 = p0 := by
  unfold laws_toTxS
  rw [laws_toTxS_l1_eq]
  exact toL_eq (laws_toTx_id) p0 _ _ 0 rfl (by rw [List.length_replicate]) fun j hj => by omega
theorem laws_toSlot_id (p0 : Slot) : laws_toSlot p0 = p0 := by
  unfold laws_toSlot
  simp only [laws_toCellS_id]
theorem laws_toSlotS_l1_eq (p0 : List Slot) : ∀ n w i, laws_toSlotS_l1 p0 n w i = toL (laws_toSlot) p0 n w i := by
  intro n
  induction n with
  | zero => intro w i; rfl
  | succ n ih => intro w i; rw [laws_toSlotS_l1, toL, ih]
theorem laws_toSlotS_id (p0 : List Slot) : laws_toSlotS p0 = p0 := by
  unfold laws_toSlotS
  rw [laws_toSlotS_l1_eq]
  exact toL_eq (laws_toSlot_id) p0 _ _ 0 rfl (by rw [List.length_replicate]) fun j hj => by omega
theorem laws_toJournal_id (p0 : Journal) : laws_toJournal p0 = p0 := by
  unfold laws_toJournal
  rfl
theorem laws_toDisk_id (p0 : Disk) : laws_toDisk p0 = p0 := by
  unfold laws_toDisk
  simp only [laws_toJournal_id, laws_toSlotS_id]
theorem laws_toStep_id (p0 : Step) : laws_toStep p0 = p0 := by
  unfold laws_toStep
  simp only [laws_toCall_id]
theorem laws_toStepS_l1_eq (p0 : List Step) : ∀ n w i, laws_toStepS_l1 p0 n w i = toL (laws_toStep) p0 n w i := by
  intro n
  induction n with
  | zero => intro w i; rfl
  | succ n ih => intro w i; rw [laws_toStepS_l1, toL, ih]
theorem laws_toStepS_id (p0 : List Step) : laws_toStepS p0 = p0 := by
  unfold laws_toStepS
  rw [laws_toStepS_l1_eq]
  exact toL_eq (laws_toStep_id) p0 _ _ 0 rfl (by rw [List.length_replicate]) fun j hj => by omega
theorem laws_toEntry_id (p0 : Entry) : laws_toEntry p0 = p0 := by
  unfold laws_toEntry
  simp only [laws_toAnswerS_id, laws_toStepS_id]
theorem laws_toEntryS_l1_eq (p0 : List Entry) : ∀ n w i, laws_toEntryS_l1 p0 n w i = toL (laws_toEntry) p0 n w i := by
  intro n
  induction n with
  | zero => intro w i; rfl
  | succ n ih => intro w i; rw [laws_toEntryS_l1, toL, ih]
theorem laws_toEntryS_id (p0 : List Entry) : laws_toEntryS p0 = p0 := by
  unfold laws_toEntryS
  rw [laws_toEntryS_l1_eq]
  exact toL_eq (laws_toEntry_id) p0 _ _ 0 rfl (by rw [List.length_replicate]) fun j hj => by omega
theorem laws_toKernel_id (p0 : Kernel) : laws_toKernel p0 = p0 := by
  unfold laws_toKernel
  simp only [laws_toCellS_id, laws_toDisk_id, laws_toEntryS_id, laws_toStringS_id, laws_toTxS_id]
theorem laws_eqCell_refl (p0 : Cell) : laws_eqCell p0 p0 = true := by
  unfold laws_eqCell
  simp only [decide_true, Bool.not_true, cond_false]
theorem laws_eqCellS_l1_eq (p0 p1 : List Cell) : ∀ n i, laws_eqCellS_l1 p0 p1 n i = eqL (laws_eqCell) p0 p1 n i := by
  intro n
  induction n with
  | zero => intro i; rfl
  | succ n ih => intro i; rw [laws_eqCellS_l1, eqL, ih]
theorem laws_eqCellS_refl (p0 : List Cell) : laws_eqCellS p0 p0 = true := by
  unfold laws_eqCellS
  rw [decide_eq_true rfl, laws_eqCellS_l1_eq]
  exact eqL_refl (laws_eqCell_refl) _ _ _
theorem laws_eqCall_refl (p0 : Call) : laws_eqCall p0 p0 = true := by
  unfold laws_eqCall
  simp only [decide_true, Bool.not_true, cond_false]
theorem laws_eqCallS_l1_eq (p0 p1 : List Call) : ∀ n i, laws_eqCallS_l1 p0 p1 n i = eqL (laws_eqCall) p0 p1 n i := by
  intro n
  induction n with
  | zero => intro i; rfl
  | succ n ih => intro i; rw [laws_eqCallS_l1, eqL, ih]
theorem laws_eqCallS_refl (p0 : List Call) : laws_eqCallS p0 p0 = true := by
  unfold laws_eqCallS
  rw [decide_eq_true rfl, laws_eqCallS_l1_eq]
  exact eqL_refl (laws_eqCall_refl) _ _ _
theorem laws_eqAnswer_refl (p0 : Answer) : laws_eqAnswer p0 p0 = true := by
  unfold laws_eqAnswer
  simp only [decide_true, Bool.not_true, cond_false]
theorem laws_eqAnswerS_l1_eq (p0 p1 : List Answer) : ∀ n i, laws_eqAnswerS_l1 p0 p1 n i = eqL (laws_eqAnswer) p0 p1 n i := by
  intro n
  induction n with
  | zero => intro i; rfl
  | succ n ih => intro i; rw [laws_eqAnswerS_l1, eqL, ih]
theorem laws_eqAnswerS_refl (p0 : List Answer) : laws_eqAnswerS p0 p0 = true := by
  unfold laws_eqAnswerS
  rw [decide_eq_true rfl, laws_eqAnswerS_l1_eq]
  exact eqL_refl (laws_eqAnswer_refl) _ _ _
theorem laws_eqStringS_l1_eq (p0 p1 : List ByteArray) : ∀ n i, laws_eqStringS_l1 p0 p1 n i = eqL (fun a b => decide (a = b)) p0 p1 n i := by
  intro n
  induction n with
  | zero => intro i; rfl
  | succ n ih => intro i; rw [laws_eqStringS_l1, eqL, ih]
theorem laws_eqStringS_refl (p0 : List ByteArray) : laws_eqStringS p0 p0 = true := by
  unfold laws_eqStringS
  rw [decide_eq_true rfl, laws_eqStringS_l1_eq]
  exact eqL_refl (fun x => by simp) _ _ _
theorem laws_eqTouch_refl (p0 : Touch) : laws_eqTouch p0 p0 = true := by
  unfold laws_eqTouch
  simp only [decide_true, Bool.not_true, cond_false, laws_eqStringS_refl]
theorem laws_eqIntS_l1_eq (p0 p1 : List Int) : ∀ n i, laws_eqIntS_l1 p0 p1 n i = eqL (fun a b => decide (a = b)) p0 p1 n i := by
  intro n
  induction n with
  | zero => intro i; rfl
  | succ n ih => intro i; rw [laws_eqIntS_l1, eqL, ih]
theorem laws_eqIntS_refl (p0 : List Int) : laws_eqIntS p0 p0 = true := by
  unfold laws_eqIntS
  rw [decide_eq_true rfl, laws_eqIntS_l1_eq]
  exact eqL_refl (fun x => by simp) _ _ _
theorem laws_eqTx_refl (p0 : Tx) : laws_eqTx p0 p0 = true := by
  unfold laws_eqTx
  simp only [decide_true, Bool.not_true, cond_false, laws_eqAnswerS_refl, laws_eqCallS_refl, laws_eqIntS_refl, laws_eqTouch_refl]
theorem laws_eqTxS_l1_eq (p0 p1 : List Tx) : ∀ n i, laws_eqTxS_l1 p0 p1 n i = eqL (laws_eqTx) p0 p1 n i := by
  intro n
  induction n with
  | zero => intro i; rfl
  | succ n ih => intro i; rw [laws_eqTxS_l1, eqL, ih]
theorem laws_eqTxS_refl (p0 : List Tx) : laws_eqTxS p0 p0 = true := by
  unfold laws_eqTxS
  rw [decide_eq_true rfl, laws_eqTxS_l1_eq]
  exact eqL_refl (laws_eqTx_refl) _ _ _
theorem laws_eqSlot_refl (p0 : Slot) : laws_eqSlot p0 p0 = true := by
  unfold laws_eqSlot
  simp only [decide_true, Bool.not_true, cond_false, laws_eqCellS_refl]
theorem laws_eqSlotS_l1_eq (p0 p1 : List Slot) : ∀ n i, laws_eqSlotS_l1 p0 p1 n i = eqL (laws_eqSlot) p0 p1 n i := by
  intro n
  induction n with
  | zero => intro i; rfl
  | succ n ih => intro i; rw [laws_eqSlotS_l1, eqL, ih]
theorem laws_eqSlotS_refl (p0 : List Slot) : laws_eqSlotS p0 p0 = true := by
  unfold laws_eqSlotS
  rw [decide_eq_true rfl, laws_eqSlotS_l1_eq]
  exact eqL_refl (laws_eqSlot_refl) _ _ _
theorem laws_eqJournal_refl (p0 : Journal) : laws_eqJournal p0 p0 = true := by
  unfold laws_eqJournal
  simp only [decide_true, Bool.not_true, cond_false]
theorem laws_eqDisk_refl (p0 : Disk) : laws_eqDisk p0 p0 = true := by
  unfold laws_eqDisk
  simp only [decide_true, Bool.not_true, cond_false, laws_eqJournal_refl, laws_eqSlotS_refl]
theorem laws_eqStep_refl (p0 : Step) : laws_eqStep p0 p0 = true := by
  unfold laws_eqStep
  simp only [decide_true, Bool.not_true, cond_false, laws_eqCall_refl]
theorem laws_eqStepS_l1_eq (p0 p1 : List Step) : ∀ n i, laws_eqStepS_l1 p0 p1 n i = eqL (laws_eqStep) p0 p1 n i := by
  intro n
  induction n with
  | zero => intro i; rfl
  | succ n ih => intro i; rw [laws_eqStepS_l1, eqL, ih]
theorem laws_eqStepS_refl (p0 : List Step) : laws_eqStepS p0 p0 = true := by
  unfold laws_eqStepS
  rw [decide_eq_true rfl, laws_eqStepS_l1_eq]
  exact eqL_refl (laws_eqStep_refl) _ _ _
theorem laws_eqEntry_refl (p0 : Entry) : laws_eqEntry p0 p0 = true := by
  unfold laws_eqEntry
  simp only [decide_true, Bool.not_true, cond_false, laws_eqAnswerS_refl, laws_eqStepS_refl]
theorem laws_eqEntryS_l1_eq (p0 p1 : List Entry) : ∀ n i, laws_eqEntryS_l1 p0 p1 n i = eqL (laws_eqEntry) p0 p1 n i := by
  intro n
  induction n with
  | zero => intro i; rfl
  | succ n ih => intro i; rw [laws_eqEntryS_l1, eqL, ih]
theorem laws_eqEntryS_refl (p0 : List Entry) : laws_eqEntryS p0 p0 = true := by
  unfold laws_eqEntryS
  rw [decide_eq_true rfl, laws_eqEntryS_l1_eq]
  exact eqL_refl (laws_eqEntry_refl) _ _ _
theorem laws_eqKernel_refl (p0 : Kernel) : laws_eqKernel p0 p0 = true := by
  unfold laws_eqKernel
  simp only [decide_true, Bool.not_true, cond_false, laws_eqCellS_refl, laws_eqDisk_refl, laws_eqEntryS_refl, laws_eqStringS_refl, laws_eqTxS_refl]
end Go.Proofs.YtppialklomgajaaGreatDoor.Fw

/- Contracts: each call returns what the model says. By program (wip/am/gen2.py). -/
namespace Go.Proofs.YtppialklomgajaaGreatDoor.Fw
open Go.RowKit
set_option linter.unusedVariables false
set_option linter.unusedSimpArgs false
set_option maxRecDepth 100000

theorem fok9 : FnOk Tryz.prog 9 := ⟨_, Tryz.func9, rfl, by kernel_rfl⟩
theorem fok10 : FnOk Tryz.prog 10 := ⟨_, Tryz.func10, rfl, by kernel_rfl⟩
theorem fok11 : FnOk Tryz.prog 11 := ⟨_, Tryz.func11, rfl, by kernel_rfl⟩
theorem fok12 : FnOk Tryz.prog 12 := ⟨_, Tryz.func12, rfl, by kernel_rfl⟩
theorem fok13 : FnOk Tryz.prog 13 := ⟨_, Tryz.func13, rfl, by kernel_rfl⟩
/- F3 loop.example/g00974/laws.FnExactAuditStore -/
def laws_FnExactAuditStore (p0 : Kernel) : Bool := bif decide ((laws_szKernel p0 1048576) < 0) then true else (bif !decide ((impl_AuditStore (laws_toKernel p0)) = (spec_AuditStore (laws_toKernel p0))) then false else (bif !(laws_eqKernel (laws_toKernel p0) (laws_toKernel p0)) then false else true))
theorem c_laws_FnExactAuditStore (p0 : Kernel) : CTs 3 [.o (.st Kernel _ inferInstance p0)] [Re.c (.bool (laws_FnExactAuditStore p0))] := by
  refine en Tryz.func3 Tryz.ntmps3 fun w hG hgd => ?_
  obtain ⟨hg_p0, _⟩ := hgd
  have hM := laws_FnExactAuditStore.eq_1 p0
  refine ad 13 ?_
  refine op (cl (c_laws_szKernel p0 1048576) fok9) ?_
  refine ad 8 ?_
  refine cd (fun h1 => ?_) (fun h1 => ?_)
  ·
    have hM := hM.trans (bt h1)
    refine ad 4 ?_
    exact rz (rs := [.tmp 2]) (congrArg (fun x => [Re.c (.bool x)]) hM)
  ·
    have hM := hM.trans (bf h1)
    have hsm := (laws_szKernel_small p0 1048576 (by decide) (by decide) hg_p0 (of_decide_eq_false h1)).1
    have hsm2 : Dat.small 1048576 (laws_toKernel p0) := by rw [laws_toKernel_id]; exact hsm
    refine ad 4 ?_
    refine og (clg (c_laws_toKernel p0 (by first | assumption | exact small_nth hs (by omega))) fok11) fun hgq => ?_
    obtain ⟨hg2, _⟩ := hgq
    refine op (cl (c_spec_AuditStore (laws_toKernel p0)) fok10) ?_
    refine ad 5 ?_
    refine og (clg (c_laws_toKernel p0 (by first | assumption | exact small_nth hs (by omega))) fok11) fun hgq => ?_
    obtain ⟨hg3, _⟩ := hgq
    refine ad 6 ?_
    refine op (cl (c_impl_AuditStore (laws_toKernel p0)) fok12) ?_
    refine ad 9 ?_
    refine cd (fun h4 => ?_) (fun h4 => ?_)
    ·
      have hM := hM.trans (bt h4)
      refine ad 4 ?_
      exact rz (rs := [.tmp 2]) (congrArg (fun x => [Re.c (.bool x)]) hM)
    ·
      have hM := hM.trans (bf h4)
      refine ad 3 ?_
      refine dr 5 fun _ _ _ _ _ hb => ?_
      refine tk [0, 1] ?_
      refine ong 2 [5, 6, 7, 8, 9, 10, 11, 12, 13, 14, 15, 16, 17, 18, 19, 20, 21] (clg (c_laws_toKernel p0 (by first | assumption | exact small_nth hs (by omega))) fok11) fun hgq => ?_
      obtain ⟨hg5, _⟩ := hgq
      refine on 3 [5, 6, 7, 8, 9, 10, 11, 12, 13, 14, 15, 16, 17, 18, 19, 20, 21] (cl (c_laws_eqKernel (laws_toKernel p0) (laws_toKernel p0)) fok13) ?_
      refine tk [4] ?_
      refine dn hb ?_
      refine cd (fun h6 => ?_) (fun h6 => ?_)
      ·
        have hM := hM.trans (bt h6)
        refine ad 4 ?_
        exact rz (rs := [.tmp 2]) (congrArg (fun x => [Re.c (.bool x)]) hM)
      ·
        have hM := hM.trans (bf h6)
        refine ad 5 ?_
        exact rz (rs := [.tmp 2]) (congrArg (fun x => [Re.c (.bool x)]) hM)

end Go.Proofs.YtppialklomgajaaGreatDoor.Fw
/-
  The reference and the program read the same off a disk. No condition.
-/
namespace Go.Proofs.YtppialklomgajaaGreatDoor.Fw
open Go.RowKit
set_option linter.unusedVariables false
set_option linter.unusedSimpArgs false
set_option maxRecDepth 100000
/-! ## Putting -/
/-- What is put, before the first that is greater. -/
def insG (f : Cell → Bool) (x : Cell) : List Cell → List Cell
  | [] => [x]
  | e :: r => bif f e then x :: e :: r else e :: insG f x r
theorem insG_none (f : Cell → Bool) (x : Cell) : ∀ l : List Cell, (∀ j, j < l.length → f (nth l j) = false) → insG f x l = l ++ [x]
  | [], _ => rfl
  | e :: r, h => by
    rw [insG, show f e = false from h 0 (by simp), cond_false, insG_none f x r fun j hj => h (j + 1) (by simpa using hj)]
    rfl
theorem insG_at (f : Cell → Bool) (x : Cell) : ∀ (l : List Cell) (m : Nat), m < l.length → f (nth l m) = true → (∀ j, j < m → f (nth l j) = false) → insG f x l = insL l m x
  | [], m, h, _, _ => by simp at h
  | e :: r, 0, _, h, _ => by
    rw [insG, show f e = true from h, cond_true]
    rfl
  | e :: r, m + 1, h, h1, h2 => by
    rw [insG, show f e = false from h2 0 (by omega), cond_false, insG_at f x r m (by simpa using h) h1 fun j hj => h2 (j + 1) (by omega)]
    rfl
theorem insG_idx (f : Cell → Bool) (x : Cell) (l : List Cell) : insG f x l = insL l (bif decide (idxL f l (l.length - 0) 0 < 0) then (l.length : Int) else idxL f l (l.length - 0) 0).toNat x := by
  rcases idxL_spec (f := f) (xs := l) (l.length - 0) 0 (by omega) with ⟨h1, h2⟩ | ⟨m, _, h2, h3, h4, h5⟩
  · rw [h1, decide_eq_true (by decide), cond_true, Int.toNat_natCast, insG_none f x l fun j hj => h2 j (Nat.zero_le _) hj]
    unfold insL
    rw [List.take_length, List.drop_length]
  · rw [h3, decide_eq_false (by omega), cond_false, Int.toNat_natCast, insG_at f x l m h2 h4 fun j hj => h5 j (Nat.zero_le _) hj]
theorem PutKey_done (p0 : List Cell) (k v : ByteArray) : ∀ n i acc, i + n = p0.length → spec_PutKey_l1 p0 k v n acc true i = acc ++ (p0.drop i).filter (fun c => !impl_put_1 c k) := by
  intro n
  induction n with
  | zero =>
    intro i acc hi
    rw [spec_PutKey_l1, List.drop_eq_nil_of_le (by omega), List.filter_nil, List.append_nil]
    rfl
  | succ n ih =>
    intro i acc hi
    have hlt : i < p0.length := by omega
    rw [spec_PutKey_l1]
    simp only [Bool.not_true, Bool.false_and, cond_false, Bool.or_true]
    rw [ih (i + 1) _ (by omega), List.drop_eq_getElem_cons hlt, show p0[i] = nth p0 i by have := nth_e hlt; rw [List.getElem?_eq_getElem hlt] at this; exact Option.some.inj this]
    unfold impl_put_1
    cases hk : decide ((nth p0 i).Key = k) with
    | true => rw [List.filter_cons_of_neg (by simpa using hk)]; rfl
    | false => rw [List.filter_cons_of_pos (by simpa using hk)]; simp
theorem PutKey_fresh (p0 : List Cell) (k v : ByteArray) : ∀ n i acc, i + n = p0.length → spec_PutKey_l1 p0 k v n acc false i = acc ++ insG (fun c => impl_put_2 c k) ⟨k, v⟩ ((p0.drop i).filter (fun c => !impl_put_1 c k)) := by
  intro n
  induction n with
  | zero =>
    intro i acc hi
    rw [spec_PutKey_l1, List.drop_eq_nil_of_le (by omega)]
    rfl
  | succ n ih =>
    intro i acc hi
    have hlt : i < p0.length := by omega
    rw [spec_PutKey_l1, List.drop_eq_getElem_cons hlt, show p0[i] = nth p0 i by have := nth_e hlt; rw [List.getElem?_eq_getElem hlt] at this; exact Option.some.inj this]
    simp only [Bool.not_false, Bool.true_and, Bool.or_false]
    cases hk : decide ((nth p0 i).Key = k) with
    | true =>
      simp only [Bool.or_true, Bool.not_true, cond_false]
      rw [ih (i + 1) _ (by omega), List.filter_cons_of_neg (by unfold impl_put_1; simpa using hk)]
    | false =>
      rw [List.filter_cons_of_pos (by unfold impl_put_1; simpa using hk)]
      simp only [Bool.or_false, Bool.not_false, cond_true]
      have hf : impl_put_2 (nth p0 i) k = !(ltB (nth p0 i).Key k) := by
        unfold impl_put_2
        rw [hk, Bool.or_false]
      rw [insG, hf]
      cases ltB (nth p0 i).Key k with
      | true =>
        simp only [Bool.not_true, cond_false]
        rw [ih (i + 1) _ (by omega)]
        simp
      | false =>
        simp only [Bool.not_false, cond_true]
        rw [PutKey_done p0 k v n (i + 1) _ (by omega)]
        simp
theorem put_twin (p0 : List Cell) (k v : ByteArray) (hb : p0.length ≤ 9223372036854775806) : impl_put p0 k v = spec_PutKey p0 k v := by
  unfold impl_put spec_PutKey
  rw [KeyOk_twin]
  cases ((!(spec_KeyOk k)) || (decide ((v.size : Int) > 60))) with
  | true => rfl
  | false =>
    rw [cond_false, cond_false]
    cases hv : decide (v = ⟨#[]⟩) with
    | true =>
      rw [cond_true, DeleteFunc_is p0 k hb, PutKey_done p0 k v _ 0 [] (by omega)]
      rfl
    | false =>
      rw [cond_false, PutKey_fresh p0 k v _ 0 [] (by omega), DeleteFunc_is p0 k hb]
      unfold slices_IndexFunc_Cell_p2
      rw [IF2_is, List.drop_zero, List.nil_append, insG_idx]
      rfl
theorem ApplyRecord_is (p0 p1 : List Cell) : ∀ n i (v : List Cell), v.length + n ≤ 9223372036854775806 → spec_ApplyRecord_l1 p0 p1 n v i = spec_ApplyRecord_l1 [] p1 n v i := by
  intro n
  induction n with
  | zero => intro i v _; rfl
  | succ n ih =>
    intro i v h
    rw [spec_ApplyRecord_l1, spec_ApplyRecord_l1]
    have := spec_PutKey_len v ((nth p1 i).Key) ((nth p1 i).Val)
    exact ih _ _ (by omega)
/-! ## The text of a record -/
theorem sbytes_app (a b : ByteArray) : sbytes (a ++ b) = sbytes a ++ sbytes b := by
  unfold sbytes
  rw [ByteArray.data_append, Array.toList_append]
theorem sbytes_bstr (l : List UInt8) : sbytes (bstr l) = l := by
  unfold sbytes bstr
  exact List.toList_toArray
theorem Hex_twin (p0 : ByteArray) : (spec_Hex p0).1 = impl_hexOf p0 := by
  by_cases h : p0.size ≤ 20000
  · rw [spec_Hex_is h]
    unfold impl_hexOf impl_Hex
    rw [decide_eq_false (by omega)]
    rfl
  · unfold impl_hexOf impl_Hex spec_Hex
    rw [decide_eq_true (by omega)]
    rfl
theorem RecordText_l1_twin (p0 : Int) (p1 : List Cell) : ∀ n v i, impl_RecordText_l1 p0 p1 n v i = spec_RecordText_l1 p0 p1 n v i := by
  intro n
  induction n with
  | zero =>
    intro v i
    have hs := impl_ByteSum_in (bstr v)
    rw [impl_RecordText_l1, spec_RecordText_l1, spec_ByteSum_is, Decimal_twin (by unfold I64; omega)]
  | succ n ih =>
    intro v i
    rw [impl_RecordText_l1, spec_RecordText_l1, ih, KeyOk_twin, Hex_twin, Hex_twin, sbytes_app, sbytes_app, sbytes_app]
    simp only [List.append_assoc]
    rfl
theorem RecordText_twin (p0 : Int) (p1 : List Cell) : impl_RecordText p0 p1 = spec_RecordText p0 p1 := by
  unfold impl_RecordText spec_RecordText
  rw [within_is]
  cases h : spec_l01In p0 1 100000 with
  | false => rfl
  | true =>
    have := spec_l01In_t h
    rw [RecordText_l1_twin, Decimal_twin (by unfold I64; omega)]
/-! ## Parts of a record's text -/
theorem splitS_none {c : UInt8} {x : List UInt8} (h : ∀ y ∈ x, y ≠ c) : splitS c (bstr x) = [bstr x] := splitS_miss (by rw [indexB_one]; exact ib_none _ h)
theorem splitS_one {c : UInt8} {x y : List UInt8} (h : ∀ b ∈ x, b ≠ c) : splitS c (bstr (x ++ c :: y)) = bstr x :: splitS c (bstr y) := by
  have hx : Lib.indexB (bstr (x ++ c :: y)) ⟨#[c]⟩ = (x.length : Int) := by
    rw [indexB_one]
    refine ib_at x.length (x ++ c :: y) (fun j hj e => ?_) (by simp)
    rw [List.getElem?_append_left hj] at e
    exact h c (List.mem_of_getElem? e) rfl
  rw [splitS_hit hx]
  congr 1
  · apply ByteArray.ext
    apply Array.toList_inj.1
    rw [Lib.extract_from_zero]
    show (x ++ c :: y).take x.length = x
    exact List.take_left
  · congr 1
    apply ByteArray.ext
    apply Array.toList_inj.1
    rw [Lib.extract_to_end]
    show (x ++ c :: y).drop (x.length + 1) = y
    rw [List.drop_append, List.drop_eq_nil_of_le (by omega), show x.length + 1 - x.length = 1 by omega]
    rfl
theorem digit_no : ∀ k : Fin 16, Lib.Hx.digit k.val ≠ 32 ∧ Lib.Hx.digit k.val ≠ 61 := by decide
theorem encode_no : ∀ (l : List UInt8), ∀ y ∈ Lib.Hx.encode l, y ≠ 32 ∧ y ≠ 61
  | [], y, h => by cases h
  | b :: l, y, h => by
    rw [Lib.Hx.encode_cons] at h
    have hb := b.toNat_lt
    rcases List.mem_cons.1 h with rfl | h
    · exact digit_no ⟨b.toNat / 16, by omega⟩
    · rcases List.mem_cons.1 h with rfl | h
      · exact digit_no ⟨b.toNat % 16, by omega⟩
      · exact encode_no l y h
theorem hex_no (s : ByteArray) : ∀ y ∈ sbytes (spec_Hex s).1, y ≠ 32 ∧ y ≠ 61 := by
  by_cases h : s.size ≤ 20000
  · rw [spec_Hex_is h, sbytes_hexEnc]
    exact encode_no _
  · unfold spec_Hex
    rw [decide_eq_true (by omega)]
    intro y hy
    cases hy
theorem decDigits_no (u : Nat) : ∀ y ∈ Lib.decDigits u, y ≠ 32 := by
  induction u using Nat.strongRecOn with
  | ind u ih =>
    intro y hy
    have key : ∀ k, k < 10 → (UInt8.ofNat (48 + k)) ≠ 32 := fun k hk e => by
      have := congrArg UInt8.toNat e
      simp at this
      omega
    rw [Lib.decDigits] at hy
    split at hy
    · rw [List.mem_singleton.1 hy]
      exact key u (by assumption)
    · rcases List.mem_append.1 hy with hy | hy
      · exact ih (u / 10) (by omega) y hy
      · rw [List.mem_singleton.1 hy]
        exact key (u % 10) (by omega)
theorem dec_no {n : Int} (h : I64 n) : ∀ y ∈ sbytes (spec_Decimal n), y ≠ 32 := by
  rw [Decimal_twin h]
  show ∀ y ∈ ((Lib.itoa n).toArray).toList, y ≠ 32
  rw [List.toList_toArray]
  unfold Lib.itoa
  split
  · intro y hy
    rcases List.mem_cons.1 hy with rfl | hy
    · decide
    · exact decDigits_no _ y hy
  · exact decDigits_no _
def partB (c : Cell) : List UInt8 := sbytes (spec_Hex c.Key).1 ++ 61 :: sbytes (spec_Hex c.Val).1
def cellB (c : Cell) : List UInt8 := 32 :: partB c
theorem partB_no (c : Cell) : ∀ y ∈ partB c, y ≠ 32 := by
  intro y hy
  rcases List.mem_append.1 hy with hy | hy
  · exact (hex_no _ y hy).1
  · rcases List.mem_cons.1 hy with rfl | hy
    · decide
    · exact (hex_no _ y hy).1
theorem partB_two (c : Cell) : (splitS 61 (bstr (partB c))).length = 2 := by
  unfold partB
  rw [splitS_one fun y hy => (hex_no _ y hy).2, splitS_none fun y hy => (hex_no _ y hy).2]
  rfl
theorem split_cells {e : List UInt8} (he : ∀ y ∈ e, y ≠ 32) : ∀ (cells : List Cell) (d : List UInt8), (∀ y ∈ d, y ≠ 32) → splitS 32 (bstr (d ++ (cells.flatMap cellB ++ 32 :: e))) = bstr d :: (cells.map (fun c => bstr (partB c)) ++ [bstr e])
  | [], d, hd => by
    show splitS 32 (bstr (d ++ 32 :: e)) = _
    rw [splitS_one hd, splitS_none he]
    rfl
  | c :: r, d, hd => by
    rw [List.flatMap_cons]
    show splitS 32 (bstr (d ++ (32 :: partB c ++ r.flatMap cellB ++ 32 :: e))) = _
    rw [List.append_assoc, List.cons_append, splitS_one hd, split_cells he r (partB c) (partB_no c)]
    rfl
def finT (w : List UInt8) : ByteArray := ((bstr w ++ ⟨#[32, 35]⟩) ++ spec_Decimal (spec_ByteSum (bstr w))) ++ ⟨#[10]⟩
theorem RT_l1_is (p0 : Int) (p1 : List Cell) : ∀ n i v, i + n = p1.length → spec_RecordText_l1 p0 p1 n v i = ⟨#[]⟩ ∨ spec_RecordText_l1 p0 p1 n v i = finT (v ++ (p1.drop i).flatMap cellB) := by
  intro n
  induction n with
  | zero =>
    intro i v hi
    rw [spec_RecordText_l1, List.drop_eq_nil_of_le (by omega)]
    show (bif _ then _ else finT v) = _ ∨ (bif _ then _ else finT v) = finT (v ++ [])
    rw [List.append_nil]
    generalize decide (_ > (4000 : Int)) = q
    cases q
    · exact .inr rfl
    · exact .inl rfl
  | succ n ih =>
    intro i v hi
    have hlt : i < p1.length := by omega
    rw [spec_RecordText_l1]
    generalize (((!_) || _) || _) = q
    cases q with
    | true => exact .inl rfl
    | false =>
      rw [cond_false]
      have hx : p1[i] = nth p1 i := by have := nth_e hlt; rw [List.getElem?_eq_getElem hlt] at this; exact Option.some.inj this
      have := ih (i + 1) ((((v ++ ([(32 : UInt8)] : List UInt8)) ++ sbytes ((spec_Hex ((nth p1 i).Key)).1)) ++ ([(61 : UInt8)] : List UInt8)) ++ sbytes ((spec_Hex ((nth p1 i).Val)).1)) (by omega)
      rw [List.drop_eq_getElem_cons hlt, hx, List.flatMap_cons]
      have e : v ++ (cellB (nth p1 i) ++ (p1.drop (i + 1)).flatMap cellB) = ((((v ++ ([(32 : UInt8)] : List UInt8)) ++ sbytes ((spec_Hex ((nth p1 i).Key)).1)) ++ ([(61 : UInt8)] : List UInt8)) ++ sbytes ((spec_Hex ((nth p1 i).Val)).1)) ++ (p1.drop (i + 1)).flatMap cellB := by
        unfold cellB partB
        simp
      rw [e]
      exact this
theorem RT_is {p0 : Int} {p1 : List Cell} (h : spec_RecordText p0 p1 ≠ ⟨#[]⟩) : ∃ d e : List UInt8, (∀ y ∈ d, y ≠ 32) ∧ (∀ y ∈ e, y ≠ 32) ∧ spec_RecordText p0 p1 = bstr (d ++ (p1.flatMap cellB ++ 32 :: e)) := by
  unfold spec_RecordText at h ⊢
  cases hw : spec_l01In p0 1 100000 with
  | false => rw [hw] at h; exact absurd rfl h
  | true =>
    rw [hw] at h
    have hp := spec_l01In_t hw
    rw [Bool.not_true, cond_false] at h ⊢
    rcases RT_l1_is p0 p1 (p1.length - 0) 0 (sbytes (spec_Decimal p0)) (by omega) with e | e
    · exact absurd e h
    · have hs := spec_ByteSum_in (bstr (sbytes (spec_Decimal p0) ++ (p1.drop 0).flatMap cellB))
      refine ⟨sbytes (spec_Decimal p0), 35 :: (sbytes (spec_Decimal (spec_ByteSum (bstr (sbytes (spec_Decimal p0) ++ (p1.drop 0).flatMap cellB)))) ++ [10]), dec_no (by unfold I64; omega), fun y hy => ?_, ?_⟩
      · rcases List.mem_cons.1 hy with rfl | hy
        · decide
        · rcases List.mem_append.1 hy with hy | hy
          · exact dec_no (by unfold I64; omega) y hy
          · rw [List.mem_singleton.1 hy]; decide
      · rw [e]
        unfold finT
        apply ByteArray.ext
        apply Array.toList_inj.1
        show sbytes _ = sbytes _
        rw [sbytes_app, sbytes_app, sbytes_app, sbytes_bstr, sbytes_bstr]
        show _ ++ [32, 35] ++ _ ++ [10] = _
        simp
theorem nth_mid (a e : ByteArray) (m : List ByteArray) (i : Nat) (h1 : 1 ≤ i) (h2 : i < m.length + 1) : nth (a :: (m ++ [e])) i ∈ m := by
  obtain ⟨k, rfl⟩ : ∃ k, i = k + 1 := ⟨i - 1, by omega⟩
  have hk : k < m.length := by omega
  have : nth (a :: (m ++ [e])) (k + 1) = m[k] := by
    unfold nth
    rw [List.getD_eq_getElem?_getD, List.getElem?_cons_succ, List.getElem?_append_left hk, List.getElem?_eq_getElem hk]
    rfl
  rw [this]
  exact List.getElem_mem hk
/-- Every part between of a record's text has one sign of equality. -/
theorem RT_parts {p0 : Int} {p1 : List Cell} {s : ByteArray} (h : spec_RecordText p0 p1 = s) (hs : s ≠ ⟨#[]⟩) (i : Nat) (h1 : 1 ≤ i) (h2 : i + 1 < (splitS 32 s).length) : (splitS 61 (nth (splitS 32 s) i)).length = 2 := by
  obtain ⟨d, e, hd, he, hT⟩ := RT_is (p0 := p0) (p1 := p1) (by rw [h]; exact hs)
  rw [h] at hT
  have hsp := split_cells he p1 d hd
  rw [← hT] at hsp
  rw [hsp] at h2 ⊢
  have hm := nth_mid (bstr d) (bstr e) (p1.map fun c => bstr (partB c)) i h1 (by simp at h2 ⊢; omega)
  obtain ⟨c, _, hc⟩ := List.mem_map.1 hm
  rw [← hc]
  exact partB_two c
/-! ## Reading a record -/
theorem cut_two {x : ByteArray} (hx : x.size ≤ 1048576) (h : (splitS 61 x).length = 2) : (strings_Cut x ⟨#[61]⟩).1 = nth (splitS 61 x) 0 ∧ (strings_Cut x ⟨#[61]⟩).2.1 = nth (splitS 61 x) 1 := by
  have hi : Lib.indexB x ⟨#[61]⟩ = idx1 x ⟨#[61]⟩ := indexB_one 61 x
  rcases Lib.indexB_cases x ⟨#[61]⟩ with h1 | ⟨i, h1, _⟩
  · rw [splitS_miss h1] at h
    cases h
  · have hr := splitS_hit h1
    rw [hr] at h ⊢
    have h2 : (splitS 61 (x.extract (i + 1) x.size)).length = 1 := by simpa using h
    have h3 : splitS 61 (x.extract (i + 1) x.size) = [x.extract (i + 1) x.size] := by
      rcases Lib.indexB_cases (x.extract (i + 1) x.size) ⟨#[61]⟩ with h4 | ⟨j, h4, _⟩
      · exact splitS_miss h4
      · have h5 := splitS_hit h4
        rw [h5, List.length_cons, splitS_len] at h2
        omega
    rw [h3]
    have hin := idx1_in x ⟨#[61]⟩
    rw [← hi, h1] at hin
    unfold strings_Cut internal_stringslite_Cut
    rw [← hi, h1, decide_eq_true (show (i : Int) ≥ 0 by omega), IntWalk.i64_in _ (by show -9223372036854775808 ≤ (i : Int) + ((1 : Nat) : Int) ∧ (i : Int) + ((1 : Nat) : Int) ≤ 9223372036854775807; omega)]
    exact ⟨rfl, rfl⟩
def partC (x : ByteArray) : Cell := Cell.mk (impl_Unhex (strings_Cut x ⟨#[61]⟩).1).1 (impl_Unhex (strings_Cut x ⟨#[61]⟩).2.1).1
def accR (P : List ByteArray) : Nat → List Cell → Nat → List Cell
  | 0, v, _ => v
  | n + 1, v, i => accR P n (v ++ [partC (nth P (i + 1))]) (i + 1)
def finRI (s : ByteArray) (w : List Cell) : Int × (List Cell) × Bool := bif (decide (s = ⟨#[]⟩)) || (!decide ((impl_RecordText ((impl_ReadDecimal (nth (splitS 32 s) 0)).1) w) = s)) then (0, [], false) else ((impl_ReadDecimal (nth (splitS 32 s) 0)).1, w, true)
def finRS (s : ByteArray) (w : List Cell) : Int × (List Cell) × Bool := bif ((!((spec_ReadDecimal (nth (splitS 32 s) 0)).2)) || (decide ((spec_RecordText ((spec_ReadDecimal (nth (splitS 32 s) 0)).1) w) = ⟨#[]⟩))) || (!decide ((spec_RecordText ((spec_ReadDecimal (nth (splitS 32 s) 0)).1) w) = s)) then (0, ([] : List Cell), false) else ((spec_ReadDecimal (nth (splitS 32 s) 0)).1, w, true)
theorem nth_cut {xs : List ByteArray} {u i : Nat} (h : i + 1 < u) : nth (cutL xs 1 u) i = nth xs (i + 1) := by
  unfold nth cutL
  rw [List.getD_eq_getElem?_getD, List.getD_eq_getElem?_getD, List.getElem?_drop, List.getElem?_take, if_pos (by omega), Nat.add_comm 1 i]
theorem impl_RR_l1_is (s : ByteArray) (u : Nat) (hu : (IntKind.i64.wrap ((max ((strings_Split s ⟨#[32]⟩).length : Int) 2) - 1)).toNat = u) : ∀ n i v, i + n + 1 ≤ u → impl_ReadRecord_l1 s n v i = finRI s (accR (splitS 32 s) n v i) := by
  intro n
  induction n with
  | zero => intro i v _; rfl
  | succ n ih =>
    intro i v h
    rw [impl_ReadRecord_l1, ih (i + 1) _ (by omega), hu, nth_cut (by omega)]
    rfl
theorem spec_RR_l1_is (s : ByteArray) (hs : s.size ≤ 4000) : ∀ n i v, (∀ j, i ≤ j → j < i + n → (splitS 61 (nth (splitS 32 s) (j + 1))).length = 2) → spec_ReadRecord_l1 s n v (i + 1) = finRS s (accR (splitS 32 s) n v i) := by
  intro n
  induction n with
  | zero => intro i v _; rw [spec_ReadRecord_l1, l21_lines]; rfl
  | succ n ih =>
    intro i v h
    have h2 := h i (Nat.le_refl _) (by omega)
    have hsz := splitS_size 32 s (i + 1)
    have hc := cut_two (by omega) h2
    rw [spec_ReadRecord_l1, l21_lines, l21_lines, h2]
    have hl : (!decide (((2 : Nat) : Int) = 2)) = false := rfl
    rw [hl, cond_false, ih (i + 1) _ fun j a b => h j (by omega) (by omega), ← Unhex_twin, ← Unhex_twin, ← hc.1, ← hc.2]
    rfl
theorem spec_RR_l1_not (s : ByteArray) : ∀ n i v, (∃ j, i ≤ j ∧ j < i + n ∧ (splitS 61 (nth (splitS 32 s) (j + 1))).length ≠ 2) → spec_ReadRecord_l1 s n v (i + 1) = (0, ([] : List Cell), false) := by
  intro n
  induction n with
  | zero => rintro i v ⟨j, a, b, _⟩; omega
  | succ n ih =>
    rintro i v ⟨j, a, b, hne⟩
    rw [spec_ReadRecord_l1]
    cases hq : !decide (((spec_l21Split (nth (spec_l21Split s (32 : UInt8)) (i + 1)) (61 : UInt8)).length : Int) = 2) with
    | true => rfl
    | false =>
      rw [cond_false]
      refine ih (i + 1) _ ⟨j, ?_, by omega, hne⟩
      rcases Nat.lt_or_ge i j with hij | hij
      · exact hij
      · obtain rfl : j = i := by omega
        rw [l21_lines, l21_lines] at hq
        have : (((splitS 61 (nth (splitS 32 s) (j + 1))).length : Nat) : Int) = 2 := by simpa using hq
        omega
theorem ReadDecimal_bad (x : ByteArray) (h : (spec_ReadDecimal x).2 = false) : (spec_ReadDecimal x).1 = 0 := by
  rw [← ReadDecimal_twin] at h ⊢
  unfold impl_ReadDecimal at h ⊢
  revert h
  generalize (((!_) || _) || _) = q
  cases q
  · intro h; cases h
  · exact fun _ => rfl
theorem RT_zero (w : List Cell) : spec_RecordText 0 w = ⟨#[]⟩ := rfl
theorem finR_is (s : ByteArray) (w : List Cell) : finRI s w = finRS s w := by
  unfold finRI finRS
  rw [RecordText_twin, ReadDecimal_twin]
  by_cases hT : spec_RecordText ((spec_ReadDecimal (nth (splitS 32 s) 0)).1) w = s
  · rw [decide_eq_true hT, Bool.not_true, Bool.or_false, Bool.or_false, hT]
    cases hok : (spec_ReadDecimal (nth (splitS 32 s) 0)).2 with
    | true => rfl
    | false =>
      have h0 := ReadDecimal_bad _ hok
      rw [h0, RT_zero] at hT
      rw [← hT]
      rfl
  · rw [decide_eq_false hT, Bool.not_false, Bool.or_true, Bool.or_true]
theorem finR_parts {s : ByteArray} {w : List Cell} (h : ∃ j, j + 2 < (splitS 32 s).length ∧ (splitS 61 (nth (splitS 32 s) (j + 1))).length ≠ 2) : finRS s w = (0, ([] : List Cell), false) := by
  unfold finRS
  by_cases hT : spec_RecordText ((spec_ReadDecimal (nth (splitS 32 s) 0)).1) w = s
  · by_cases hs : s = ⟨#[]⟩
    · rw [decide_eq_true (hT.trans hs), Bool.or_true, Bool.true_or]
      rfl
    · obtain ⟨j, hj, hne⟩ := h
      exact absurd (RT_parts hT hs (j + 1) (by omega) (by omega)) hne
  · rw [decide_eq_false hT, Bool.not_false, Bool.or_true]
    rfl
theorem ReadRecord_twin (s : ByteArray) : impl_ReadRecord s = spec_ReadRecord s := by
  unfold impl_ReadRecord spec_ReadRecord
  cases h1 : decide ((s.size : Int) > 4000) with
  | true => rfl
  | false =>
    have hz : s.size ≤ 4000 := by have := of_decide_eq_false h1; omega
    have hl := splitS_le 32 s
    have hl1 : 1 ≤ (splitS 32 s).length := by rw [splitS_len]; omega
    rw [cond_false, cond_false, l21_lines]
    have hu : (IntKind.i64.wrap ((max ((strings_Split s ⟨#[32]⟩).length : Int) 2) - 1)).toNat = max (splitS 32 s).length 2 - 1 := by
      rw [split_lines, IntWalk.i64_in _ (by omega)]
      omega
    rw [hu, cutL_len1 (by omega) (by rw [split_lines]; omega), IntWalk.i64_in _ (by omega)]
    have hn : (((splitS 32 s).length : Int) - 1).toNat - 1 = max (splitS 32 s).length 2 - 1 - 1 - 0 := by omega
    rw [hn, impl_RR_l1_is s _ hu _ 0 [] (by omega), finR_is]
    by_cases hall : ∀ j, 0 ≤ j → j < 0 + (max (splitS 32 s).length 2 - 1 - 1 - 0) → (splitS 61 (nth (splitS 32 s) (j + 1))).length = 2
    · exact (spec_RR_l1_is s hz _ 0 [] hall).symm
    · have hex : ∃ j, 0 ≤ j ∧ j < 0 + (max (splitS 32 s).length 2 - 1 - 1 - 0) ∧ (splitS 61 (nth (splitS 32 s) (j + 1))).length ≠ 2 := by
        apply Classical.byContradiction
        intro hno
        exact hall fun j a b => Classical.byContradiction fun e => hno ⟨j, a, b, e⟩
      rw [spec_RR_l1_not s _ 0 [] hex]
      obtain ⟨j, _, hj, hne⟩ := hex
      exact finR_parts ⟨j, by omega, hne⟩
/-! ## Records in a text -/
theorem rec_break {L sq f W : Int} (hL : 0 ≤ L) (hW : L = 0 → W = f) : ((!((decide (L = 0)) && (decide (sq < f)))) && (!decide (sq = W))) = ((!decide (sq = W)) && ((decide (L > 0)) || (decide (sq > f)))) := by
  by_cases h : sq = W
  · rw [decide_eq_true h]
    simp
  · rw [decide_eq_false h, Bool.not_false, Bool.and_true, Bool.true_and]
    by_cases h0 : L = 0
    · have := hW h0
      rw [decide_eq_true h0, Bool.true_and, decide_eq_false (show ¬ L > 0 by omega), Bool.false_or]
      by_cases h1 : sq < f
      · rw [decide_eq_true h1, decide_eq_false (by omega)]
        rfl
      · rw [decide_eq_false h1, decide_eq_true (by omega)]
        rfl
    · rw [decide_eq_false h0, Bool.false_and, decide_eq_true (show L > 0 by omega)]
      rfl
theorem rec_keep {L sq f W : Int} (hL : 0 ≤ L) (hW : L = 0 → W = f) (h : ((!decide (sq = W)) && ((decide (L > 0)) || (decide (sq > f)))) = false) : (!((decide (L = 0)) && (decide (sq < f)))) = decide (sq = W) := by
  by_cases h1 : sq = W
  · rw [decide_eq_true h1]
    by_cases h0 : L = 0
    · have := hW h0
      rw [decide_eq_false (show ¬ sq < f by omega), Bool.and_false]
      rfl
    · rw [decide_eq_false h0]
      rfl
  · rw [decide_eq_false h1] at h ⊢
    rw [Bool.not_false, Bool.true_and, Bool.or_eq_false_iff] at h
    have ha := of_decide_eq_false h.1
    have hb := of_decide_eq_false h.2
    have h0 : L = 0 := by omega
    have := hW h0
    rw [decide_eq_true h0, decide_eq_true (show sq < f by omega)]
    rfl
theorem RecordsIn_l1_twin (p0 : ByteArray) (p1 : Int) (hf : 1 ≤ p1 ∧ p1 ≤ 100000) : ∀ n v s i, impl_RecordsIn_l1 p0 p1 n v s i = spec_RecordsIn_l1 p0 p1 n v s i := by
  intro n
  induction n with
  | zero => intro v s i; rfl
  | succ n ih =>
    intro v s i
    have hW : (v.length : Int) = 0 → IntKind.i64.wrap (p1 + (v.length : Int)) = p1 := fun h => by
      rw [h, Int.add_zero, IntWalk.i64_in _ (by omega)]
    rw [impl_RecordsIn_l1, spec_RecordsIn_l1, LinesIn_twin, ReadRecord_twin, rec_break (by omega) hW]
    cases hq : (!((spec_ReadRecord (nth (spec_LinesIn p0) i)).2.2)) || ((!decide (((spec_ReadRecord (nth (spec_LinesIn p0) i)).1) = (IntKind.i64.wrap (p1 + (v.length : Int))))) && ((decide ((v.length : Int) > 0)) || (decide (((spec_ReadRecord (nth (spec_LinesIn p0) i)).1) > p1)))) with
    | true => rfl
    | false =>
      rw [cond_false, cond_false, rec_keep (by omega) hW (Bool.or_eq_false_iff.1 hq).2]
      exact ih _ _ _
theorem RecordsIn_twin (p0 : ByteArray) (p1 : Int) : impl_RecordsIn p0 p1 = spec_RecordsIn p0 p1 := by
  unfold impl_RecordsIn spec_RecordsIn
  rw [within_is, LinesIn_twin]
  cases h : spec_l01In p1 1 100000 with
  | false => rfl
  | true => exact RecordsIn_l1_twin p0 p1 (spec_l01In_t h) _ _ _ _
/-! ## What a disk comes to -/
theorem Recovered_l2_is (p0 : Disk) (v7 : List Cell) (i : Nat) (K : List Cell → List Cell × Int) : ∀ n v j, v.length + n ≤ 9223372036854775806 → impl_Recovered_l2 p0 v7 i K n v j = K (spec_ApplyRecord_l1 [] (nth ((impl_RecordsIn p0.Journal.Text (IntKind.i64.wrap (((nth p0.Slots ((impl_BestSlot p0).toNat)).Seq) + 1))).1) i) n v j) := by
  intro n
  induction n with
  | zero => intro v j _; rfl
  | succ n ih =>
    intro v j h
    rw [impl_Recovered_l2, spec_ApplyRecord_l1, put_twin _ _ _ (by omega)]
    have := spec_PutKey_len v (nth (nth ((impl_RecordsIn p0.Journal.Text (IntKind.i64.wrap (((nth p0.Slots ((impl_BestSlot p0).toNat)).Seq) + 1))).1) i) j).Key (nth (nth ((impl_RecordsIn p0.Journal.Text (IntKind.i64.wrap (((nth p0.Slots ((impl_BestSlot p0).toNat)).Seq) + 1))).1) i) j).Val
    exact ih _ _ (by omega)
theorem Recovered_l1_twin (p0 : Disk) : ∀ n v i, v.length + 4001 * n ≤ 9223372036854775806 → impl_Recovered_l1 p0 n v i = spec_Recovered_l1 p0 n v i := by
  intro n
  induction n with
  | zero => intro v i _; rw [impl_Recovered_l1, spec_Recovered_l1, RecordsIn_twin, BestSlot_twin]
  | succ n ih =>
    intro v i h
    have hk := (spec_RecordsIn_len p0.Journal.Text (IntKind.i64.wrap (((nth p0.Slots ((spec_BestSlot p0).toNat)).Seq) + 1))).2 i
    rw [impl_Recovered_l1, spec_Recovered_l1, Recovered_l2_is _ _ _ _ _ _ _ (by rw [RecordsIn_twin, BestSlot_twin]; omega), RecordsIn_twin, BestSlot_twin]
    have hal := spec_ApplyRecord_len v (nth ((spec_RecordsIn p0.Journal.Text (IntKind.i64.wrap (((nth p0.Slots ((spec_BestSlot p0).toNat)).Seq) + 1))).1) i)
    have e : spec_ApplyRecord v (nth ((spec_RecordsIn p0.Journal.Text (IntKind.i64.wrap (((nth p0.Slots ((spec_BestSlot p0).toNat)).Seq) + 1))).1) i) = spec_ApplyRecord_l1 [] (nth ((spec_RecordsIn p0.Journal.Text (IntKind.i64.wrap (((nth p0.Slots ((spec_BestSlot p0).toNat)).Seq) + 1))).1) i) ((nth ((spec_RecordsIn p0.Journal.Text (IntKind.i64.wrap (((nth p0.Slots ((spec_BestSlot p0).toNat)).Seq) + 1))).1) i).length - 0) v 0 := by
      unfold spec_ApplyRecord
      rw [List.nil_append, ApplyRecord_is _ _ _ _ _ (by omega)]
    rw [← e]
    exact ih _ _ (by omega)
theorem Recovered_twin (p0 : Disk) : impl_Recovered p0 = spec_Recovered p0 := by
  unfold impl_Recovered spec_Recovered
  rw [DiskOk_twin]
  cases h : spec_DiskOk p0 with
  | false => rfl
  | true =>
    have hd := spec_DiskOk_t h
    have hr := (spec_RecordsIn_len p0.Journal.Text (IntKind.i64.wrap (((nth p0.Slots ((spec_BestSlot p0).toNat)).Seq) + 1))).1
    rw [Bool.not_true, cond_false, cond_false, Recovered_l1_twin _ _ _ _ (by rw [Clone_len, RecordsIn_twin, BestSlot_twin]; omega), RecordsIn_twin, BestSlot_twin]
    rfl
theorem SameStore_l1_twin (p0 p1 : List Cell) : ∀ n i, slices_Equal_Cell_l1 p0 p1 n i = spec_SameStore_l1 p0 p1 n i := by
  intro n
  induction n with
  | zero => intro i; rfl
  | succ n ih => intro i; rw [slices_Equal_Cell_l1, spec_SameStore_l1, ih]
theorem SameStore_twin (p0 p1 : List Cell) : impl_SameStore p0 p1 = spec_SameStore p0 p1 := by
  unfold impl_SameStore slices_Equal_Cell spec_SameStore
  rw [SameStore_l1_twin]
theorem AuditStore_twin (p0 : Kernel) : impl_AuditStore p0 = spec_AuditStore p0 := by
  unfold impl_AuditStore spec_AuditStore
  rw [Recovered_twin, SameStore_twin]

end Go.Proofs.YtppialklomgajaaGreatDoor.Fw

/-
  A package variable that is laid as an error holds one. No condition.
-/
namespace Go.Proofs.YtppialklomgajaaGreatDoor.Fw
open Go.RowKit
set_option linter.unusedVariables false
theorem GE_iface {P : Program} {W : World} {H : Type} {enc : TypeId × Value → H} {sp : Nat → Bool} {b : Bool} {fuel t g : Nat} {x : List MemPlace} {cs : Array Value} {nm nm2 : String} {d : DataW H} {ms : Array (String × TypeId)}
    (hg : P.globalNamed nm = some g) (hu : P.underlying t = some (.interface ms)) (hv : W.var? P nm = some cs) (hd : DataW.trod enc P W 0 sp b fuel t cs.toList = some (.iface nm2 d, x)) : GE g W := by
  have key : ∃ u v, cs.toList = [.iface u v] := by
    cases fuel with
    | zero => simp [DataW.trod] at hd
    | succ n =>
      generalize cs.toList = l at hd ⊢
      rcases l with _ | ⟨c, _ | ⟨c2, r⟩⟩
      · simp [DataW.trod, hu] at hd
      · cases c <;> first | exact ⟨_, _, rfl⟩ | simp [DataW.trod, hu] at hd
      · simp [DataW.trod, hu] at hd
  obtain ⟨u, v, e⟩ := key
  obtain ⟨T, fr, h⟩ := var_gv hg hv e
  refine ⟨u, v, ?_⟩
  simp [World.cell?, h]
end Go.Proofs.YtppialklomgajaaGreatDoor.Fw
