/- Contracts: each call returns what the model says. By program (wip/am/gen2.py). -/
import Derived.Test.YtmjjcihoobnbgaaDoorKC
namespace Go.Proofs.YtmjjcihoobnbgaaDoor.Fw
open Go.RowKit
set_option linter.unusedVariables false
set_option maxRecDepth 100000

theorem fok43 : FnOk Tryd.prog 43 := ⟨_, Tryd.func43, rfl, by kernel_rfl⟩
theorem fok44 : FnOk Tryd.prog 44 := ⟨_, Tryd.func44, rfl, by kernel_rfl⟩
theorem fok82 : FnOk Tryd.prog 82 := ⟨_, Tryd.func82, rfl, by kernel_rfl⟩
/- F44 loop.example/g00974/spec.l01New -/
def spec_l01New_l1 (p0 : List (UInt8)) (k_1 : Int → Cur) : Nat → Int → Nat → Cur
  | 0, v3_1, i_1 => k_1 v3_1
  | n_1 + 1, v3_1, i_1 => bif (decide ((i_1 : Int) < (p0.length : Int))) && (decide ((i_1 : Int) < 4000)) then (spec_l01New_l1 p0 k_1 n_1 (andI .i64 (IntKind.i64.wrap ((IntKind.i64.wrap ((IntKind.i64.wrap (v3_1 * 131)) + (IntKind.i64.wrap ((nth p0 i_1).toNat : Int)))) + 7)) 1073741823) (i_1 + 1)) else (k_1 v3_1)
theorem spec_l01New_l1_x (p0 : List (UInt8)) (k_1 : Int → Cur) (fu : Nat) (v3_1 : Int) (i_1 : Nat) (h : ((decide ((i_1 : Int) < (p0.length : Int))) && (decide ((i_1 : Int) < 4000))) = false) : spec_l01New_l1 p0 k_1 fu v3_1 i_1 = k_1 v3_1 := by
  cases fu with
  | zero => rfl
  | succ n => exact (bf h)
def spec_l01New (p0 : List (UInt8)) : Cur := spec_l01New_l1 p0 (fun e => (Cur.mk 0 e)) (p0.length - 0) (IntKind.i64.wrap (94701 + (p0.length : Int))) 0
theorem c_spec_l01New (p0 : List (UInt8)) : CTMs 44 1 1 [] [(0, .ros UInt8 instDatUInt8 p0)] [.sl 0 p0.length] [(1, .var [.sl 0 p0.length, .v (.int .i64 ((spec_l01New p0).i : Int)), .v (.int .i64 ((spec_l01New p0).h))] 105)] 1 [.pt 1 0] True := by
  refine enM Tryd.func44 Tryd.ntmps44 fun S w p hG hb hg => ?_
  refine Run.cg (σ' := ⟨32, 1, [(0, .sl 0 p0.length)], [(0, .ros UInt8 instDatUInt8 p0), (0, .pin (p 0))]⟩) rfl ?_
  refine gd 0 fun hg_p0 => ?_
  have hl_p0 : p0.length ≤ 9223372036854775807 := hg_p0.1
  have hM := spec_l01New.eq_1 p0
  refine ad 17 ?_
  refine Run.loopkM (ι := Nat × Int × Nat) (κ := Int) (fun k s => spec_l01New_l1 p0 k s.1 s.2.1 s.2.2) (fun s => ⟨32, 1, [(0, .sl 0 p0.length), (3, .v (.int .i64 s.2.1)), (4, .v (.int .i64 (s.2.2 : Int)))], [(0, .ros UInt8 instDatUInt8 p0), (0, .pin (p 0))]⟩) (fun s => p0.length - s.2.2 ≤ s.1) (fun s => s.1) (fun e => ⟨32, 1, [(0, .sl 0 p0.length), (3, .v (.int .i64 e))], [(0, .ros UInt8 instDatUInt8 p0), (0, .pin (p 0))]⟩) (fun e => True) (p0.length - 0, IntKind.i64.wrap (94701 + (p0.length : Int)), 0) [0] [0, 1] hM (by first | exact ⟨by omega, by simp⟩ | omega | simp | (dsimp only; omega)) su (by decide) ?_ ?_
  ·
    rintro ev3_1 hv hM
    try dsimp only at hM hv ⊢
    refine ad 8 ?_
    exact rzM (rs := [.tmp 2]) [0, 1] [0, 2] (hg1 := trivial) (hG1 := congrArg (fun x => (True : Prop)) hM) (congrArg (fun x => ([(1, .var [.sl 0 p0.length, .v (.int .i64 (x.i : Int)), .v (.int .i64 x.h)] 105)] : List (Nat × En))) hM) (congrArg (fun x => ([.pt 1 0] : List V)) hM)
  ·
    intro k_1 hk_1
    rintro ⟨fu_1, v3_1, i_1⟩ hv_1 hE
    try dsimp only at hE
    have hi_1 := hv_1
    try dsimp only at hi_1
    refine ad 8 ?_
    refine ag 3 ?_
    refine ad 1 ?_
    refine cd (fun h1 => ?_) (fun h1 => ?_)
    ·
      obtain ⟨n_1, rfl⟩ : ∃ n, fu_1 = n + 1 := ⟨fu_1 - 1, by have := h1; have := om (p := 0 < p0.length - i_1); omega⟩
      have hM := hE.trans ((spec_l01New_l1.eq_2 _ _ _ _ _).trans (bt h1))
      refine ad 8 ?_
      have hg3 := good_nth (k := i_1) hg_p0 om
      refine op (ix (xs := p0) i_1 om) ?_
      refine ad 11 ?_
      rw [wrapN (i := i_1) (by first | omega | exact om)]
      refine ad 2 ?_
      exact Run.again (n_1, andI .i64 (IntKind.i64.wrap ((IntKind.i64.wrap ((IntKind.i64.wrap (v3_1 * 131)) + (IntKind.i64.wrap ((nth p0 i_1).toNat : Int)))) + 7)) 1073741823, (i_1 + 1)) [0] [1, 2] ⟨by first | omega | exact trivial | (dsimp only; omega) | (refine ⟨by omega, ?_⟩; simp_all; try omega), hM⟩ rfl (by exact Nat.lt_succ_self _) su (by decide)
    ·
      have hM := hE.trans (spec_l01New_l1_x p0 k_1 fu_1 v3_1 i_1 h1)
      refine ad 1 ?_
      exact Run.exitkM hk_1 v3_1 [0] [0, 1] hM (by trivial) su (by decide)

/- F82 loop.example/g00974/spec.l01Byte -/
def spec_l01Byte (p0b : List (UInt8)) (p0 : Cur) : Int × Cur := (bif (decide ((p0.i : Int) < (p0b.length : Int))) then (andI .i64 (IntKind.i64.wrap ((andI .i64 (xorI .i64 (shrI .i64 (IntKind.i64.wrap ((IntKind.i64.wrap (p0.h * 6364136223846793005)) + 1442695040888963407)) 33) (shrI .i64 (IntKind.i64.wrap ((IntKind.i64.wrap (p0.h * 6364136223846793005)) + 1442695040888963407)) 45)) 255) + (IntKind.i64.wrap ((nth p0b p0.i).toNat : Int)))) 255) else (andI .i64 (xorI .i64 (shrI .i64 (IntKind.i64.wrap ((IntKind.i64.wrap (p0.h * 6364136223846793005)) + 1442695040888963407)) 33) (shrI .i64 (IntKind.i64.wrap ((IntKind.i64.wrap (p0.h * 6364136223846793005)) + 1442695040888963407)) 45)) 255), (Cur.mk (bif (decide ((p0.i : Int) < (p0b.length : Int))) then (p0.i + 1) else p0.i) (IntKind.i64.wrap ((IntKind.i64.wrap (p0.h * 6364136223846793005)) + 1442695040888963407))))
theorem c_spec_l01Byte (p0b : List (UInt8)) (p0 : Cur) : CTMs 82 2 2 [(0, .var [.sl 1 p0b.length, .v (.int .i64 (p0.i : Int)), .v (.int .i64 p0.h)] 105)] [(1, .ros UInt8 instDatUInt8 p0b)] [.pt 0 0] [(0, .var [.sl 1 p0b.length, .v (.int .i64 (((spec_l01Byte p0b p0).2).i : Int)), .v (.int .i64 (((spec_l01Byte p0b p0).2).h))] 105)] 0 [.v (.int .i64 ((spec_l01Byte p0b p0).1))] (I64 ((spec_l01Byte p0b p0).1)) := by
  refine enM Tryd.func82 Tryd.ntmps82 fun S w p hG hb hg => ?_
  refine Run.cg (σ' := ⟨58, 2, [(0, .pt 0 0)], [(0, .var [.sl 1 p0b.length, .v (.int .i64 (p0.i : Int)), .v (.int .i64 p0.h)] 105), (1, .ros UInt8 instDatUInt8 p0b), (0, .pin (p 0)), (1, .pin (p 1))]⟩) rfl ?_
  refine gd 1 fun hg_p0b => ?_
  have hl_p0b : p0b.length ≤ 9223372036854775807 := hg_p0b.1
  have hM := spec_l01Byte.eq_1 p0b p0
  refine ad 18 ?_
  refine Run.mid ⟨58, 2, [(0, .pt 0 0), (3, .v (.int .i64 (andI .i64 (xorI .i64 (shrI .i64 (IntKind.i64.wrap ((IntKind.i64.wrap (p0.h * 6364136223846793005)) + 1442695040888963407)) 33) (shrI .i64 (IntKind.i64.wrap ((IntKind.i64.wrap (p0.h * 6364136223846793005)) + 1442695040888963407)) 45)) 255)))], [(0, .var [.sl 1 p0b.length, .v (.int .i64 (p0.i : Int)), .v (.int .i64 (IntKind.i64.wrap ((IntKind.i64.wrap (p0.h * 6364136223846793005)) + 1442695040888963407)))] 105), (1, .ros UInt8 instDatUInt8 p0b), (1, .pin (p 1)), (0, .pin (p 0))]⟩ ?_ ?_
  ·
    refine dr 13 fun _ _ _ _ _ hb => ?_
    refine tk [0, 1, 2, 3, 5, 6, 7, 8] ?_
    refine o2 4 9 ?_ ?_
    ·
      refine on1 4 [0, 1, 2, 3] (sr) ?_
      refine on 9 [0, 1, 2, 3] (sr) ?_
      refine tk [10, 11, 12] ?_
      refine dn hb ?_
      exact Run.at [0, 1] [0, 1, 3, 2] su (by decide)
    ·
      refine on1 9 [0, 1, 2, 3] (sr) ?_
      refine on 4 [0, 1, 2, 3] (sr) ?_
      refine tk [10, 11, 12] ?_
      refine dn hb ?_
      exact Run.at [0, 1] [0, 1, 3, 2] su (by decide)
  refine ad 2 ?_
  refine dr 10 fun _ _ _ _ _ hb => ?_
  refine tk [0, 1, 2, 3, 4, 5, 6, 7, 8, 9] ?_
  refine dn hb ?_
  refine Run.mid ⟨58, 2, [(0, .pt 0 0), (3, .v (.int .i64 (bif (decide ((p0.i : Int) < (p0b.length : Int))) then (andI .i64 (IntKind.i64.wrap ((andI .i64 (xorI .i64 (shrI .i64 (IntKind.i64.wrap ((IntKind.i64.wrap (p0.h * 6364136223846793005)) + 1442695040888963407)) 33) (shrI .i64 (IntKind.i64.wrap ((IntKind.i64.wrap (p0.h * 6364136223846793005)) + 1442695040888963407)) 45)) 255) + (IntKind.i64.wrap ((nth p0b p0.i).toNat : Int)))) 255) else (andI .i64 (xorI .i64 (shrI .i64 (IntKind.i64.wrap ((IntKind.i64.wrap (p0.h * 6364136223846793005)) + 1442695040888963407)) 33) (shrI .i64 (IntKind.i64.wrap ((IntKind.i64.wrap (p0.h * 6364136223846793005)) + 1442695040888963407)) 45)) 255))))], [(0, .var [.sl 1 p0b.length, .v (.int .i64 ((bif (decide ((p0.i : Int) < (p0b.length : Int))) then (p0.i + 1) else p0.i : Nat) : Int)), .v (.int .i64 (IntKind.i64.wrap ((IntKind.i64.wrap (p0.h * 6364136223846793005)) + 1442695040888963407)))] 105), (0, .pin (p 0)), (1, .ros UInt8 instDatUInt8 p0b), (1, .pin (p 1))]⟩ ?_ ?_
  · refine cd (fun h1 => ?_) (fun h1 => ?_)
    ·
      refine ad 1 ?_
      refine dr 15 fun _ _ _ _ _ hb => ?_
      refine tk [0, 1, 2, 3, 4, 5, 6, 7, 8] ?_
      have hg2 := good_nth (k := p0.i) hg_p0b om
      refine tx 9 (dx (xs := p0b) p0.i om) ?_
      refine tk [10, 11, 12, 13, 14] ?_
      refine dn hb ?_
      refine ad 7 ?_
      rw [wrapN (i := p0.i) (by first | omega | exact om)]
      refine ad 4 ?_
      exact Run.at [0, 1] [1, 4, 2, 3] (by first | exact su | (rw [h1]; exact su)) (by decide)
    ·
      refine ad 1 ?_
      exact Run.at [0, 1] [0, 3, 1, 2] (by first | exact su | (rw [h1]; exact su)) (by decide)
  refine ad 5 ?_
  exact rzM (rs := [.tmp 2]) [0, 1] [0, 1, 3] (hg1 := (bifI (andI_in _ _) (andI_in _ _))) (hG1 := congrArg (fun x => (I64 x.1 : Prop)) hM) (congrArg (fun x => ([(0, .var [.sl 1 p0b.length, .v (.int .i64 (x.2.i : Int)), .v (.int .i64 x.2.h)] 105)] : List (Nat × En))) hM) (congrArg (fun x => ([.v (.int .i64 x.1)] : List V)) hM)
theorem and255 (x : Int) : 0 ≤ andI .i64 x 255 ∧ andI .i64 x 255 ≤ 255 := by
  unfold andI
  have h : (BitVec.ofInt 64 x &&& BitVec.ofInt 64 255).toNat ≤ 255 := by
    rw [BitVec.toNat_and]
    exact Nat.le_trans Nat.and_le_right (by decide)
  show 0 ≤ IntKind.i64.wrap ((BitVec.ofInt 64 x &&& BitVec.ofInt 64 255).toNat : Int) ∧ _
  rw [show IntKind.bits .i64 = 64 from rfl, IntWalk.i64_in _ (by omega)]
  omega
theorem byte_in (b : List UInt8) (c : Cur) : 0 ≤ (spec_l01Byte b c).1 ∧ (spec_l01Byte b c).1 ≤ 255 := by
  unfold spec_l01Byte
  cases decide ((c.i : Int) < (b.length : Int))
  · exact and255 _
  · exact and255 _

/- F43 loop.example/g00974/spec.l01Below -/
def spec_l01Below (p0b : List (UInt8)) (p0 : Cur) (p1 : Int) : Int × Cur := bif decide (p1 ≤ 0) then (0, p0) else (bif decide (p1 ≤ 256) then (Int.tmod ((spec_l01Byte p0b p0).1) p1, ((spec_l01Byte p0b p0).2)) else (Int.tmod (IntKind.i64.wrap ((IntKind.i64.wrap ((IntKind.i64.wrap ((IntKind.i64.wrap (((spec_l01Byte p0b p0).1) * 16777216)) + (IntKind.i64.wrap (((spec_l01Byte p0b ((spec_l01Byte p0b p0).2)).1) * 65536)))) + (IntKind.i64.wrap (((spec_l01Byte p0b ((spec_l01Byte p0b ((spec_l01Byte p0b p0).2)).2)).1) * 256)))) + ((spec_l01Byte p0b ((spec_l01Byte p0b ((spec_l01Byte p0b ((spec_l01Byte p0b p0).2)).2)).2)).1))) p1, ((spec_l01Byte p0b ((spec_l01Byte p0b ((spec_l01Byte p0b ((spec_l01Byte p0b p0).2)).2)).2)).2)))
theorem c_spec_l01Below (p0b : List (UInt8)) (p0 : Cur) (p1 : Int) : CTMs 43 2 2 [(0, .var [.sl 1 p0b.length, .v (.int .i64 (p0.i : Int)), .v (.int .i64 p0.h)] 105)] [(1, .ros UInt8 instDatUInt8 p0b)] [.pt 0 0, .v (.int .i64 p1)] [(0, .var [.sl 1 p0b.length, .v (.int .i64 (((spec_l01Below p0b p0 p1).2).i : Int)), .v (.int .i64 (((spec_l01Below p0b p0 p1).2).h))] 105)] 0 [.v (.int .i64 ((spec_l01Below p0b p0 p1).1))] (I64 ((spec_l01Below p0b p0 p1).1)) := by
  refine enM Tryd.func43 Tryd.ntmps43 fun S w p hG hb hg => ?_
  refine Run.cg (σ' := ⟨37, 2, [(0, .pt 0 0), (1, .v (.int .i64 p1))], [(0, .var [.sl 1 p0b.length, .v (.int .i64 (p0.i : Int)), .v (.int .i64 p0.h)] 105), (1, .ros UInt8 instDatUInt8 p0b), (0, .pin (p 0)), (1, .pin (p 1))]⟩) rfl ?_
  refine gd 1 fun hg_p0b => ?_
  have hl_p0b : p0b.length ≤ 9223372036854775807 := hg_p0b.1
  have hM := spec_l01Below.eq_1 p0b p0 p1
  refine ad 10 ?_
  refine cd (fun h1 => ?_) (fun h1 => ?_)
  ·
    have hM := hM.trans (bt h1)
    refine ad 4 ?_
    exact rzM (rs := [.tmp 4]) [0, 1] [0, 2, 3] (hg1 := (gi 0)) (hG1 := congrArg (fun x => (I64 x.1 : Prop)) hM) (congrArg (fun x => ([(0, .var [.sl 1 p0b.length, .v (.int .i64 (x.2.i : Int)), .v (.int .i64 x.2.h)] 105)] : List (Nat × En))) hM) (congrArg (fun x => ([.v (.int .i64 x.1)] : List V)) hM)
  ·
    have hM := hM.trans (bf h1)
    refine ad 7 ?_
    refine cd (fun h2 => ?_) (fun h2 => ?_)
    ·
      have hM := hM.trans (bt h2)
      refine ad 3 ?_
      refine og (cm [0, 1] [0, 1] [0] [1] [1, 2, 3] (c_spec_l01Byte p0b p0) fok82) fun hg3 => ?_
      refine ad 1 ?_
      refine op (rm (hj := om)) ?_
      refine ad 2 ?_
      exact rzM (rs := [.tmp 4]) [0, 1] [0, 2, 3] (hg1 := (I64_tmod (y := p1) hg3)) (hG1 := congrArg (fun x => (I64 x.1 : Prop)) hM) (congrArg (fun x => ([(0, .var [.sl 1 p0b.length, .v (.int .i64 (x.2.i : Int)), .v (.int .i64 x.2.h)] 105)] : List (Nat × En))) hM) (congrArg (fun x => ([.v (.int .i64 x.1)] : List V)) hM)
    ·
      have hM := hM.trans (bf h2)
      refine ad 4 ?_
      refine og (cm [0, 1] [0, 1] [0] [1] [1, 2, 3] (c_spec_l01Byte p0b p0) fok82) fun hg4 => ?_
      refine ad 5 ?_
      refine og (cm [0, 1] [0, 1] [0] [1] [1, 2, 3] (c_spec_l01Byte p0b ((spec_l01Byte p0b p0).2)) fok82) fun hg5 => ?_
      refine ad 5 ?_
      refine og (cm [0, 1] [0, 1] [0] [1] [1, 2, 3] (c_spec_l01Byte p0b ((spec_l01Byte p0b ((spec_l01Byte p0b p0).2)).2)) fok82) fun hg6 => ?_
      refine ad 5 ?_
      refine og (cm [0, 1] [0, 1] [0] [1] [1, 2, 3] (c_spec_l01Byte p0b ((spec_l01Byte p0b ((spec_l01Byte p0b ((spec_l01Byte p0b p0).2)).2)).2)) fok82) fun hg7 => ?_
      refine ad 15 ?_
      refine op (rm (hj := om)) ?_
      refine ad 2 ?_
      exact rzM (rs := [.tmp 4]) [0, 1] [0, 2, 3] (hg1 := (I64_tmod (y := p1) (I64_wrap _))) (hG1 := congrArg (fun x => (I64 x.1 : Prop)) hM) (congrArg (fun x => ([(0, .var [.sl 1 p0b.length, .v (.int .i64 (x.2.i : Int)), .v (.int .i64 x.2.h)] 105)] : List (Nat × En))) hM) (congrArg (fun x => ([.v (.int .i64 x.1)] : List V)) hM)
theorem spec_l01Below_I64 (b : List UInt8) (c : Cur) (n : Int) : I64 (spec_l01Below b c n).1 := by
  unfold spec_l01Below
  cases decide (n ≤ 0) with
  | true => exact gi 0
  | false =>
    cases decide (n ≤ 256) with
    | true =>
      have h := byte_in b c
      exact I64_tmod (by unfold I64; omega)
    | false => exact I64_tmod (I64_wrap _)

/- F31 loop.example/g00974/spec.DrawPlaces -/
def spec_DrawPlaces_l1 (p0 : List (UInt8)) : Nat → Nat → Int → (List Int) → Nat → (List Int)
  | 0, c1_1, c1_2, v4, i => v4
  | n + 1, c1_1, c1_2, v4, i => spec_DrawPlaces_l1 p0 n (((spec_l01Below p0 (Cur.mk c1_1 c1_2) 10000).2).i) (((spec_l01Below p0 (Cur.mk c1_1 c1_2) 10000).2).h) (v4 ++ [(spec_l01Below p0 (Cur.mk c1_1 c1_2) 10000).1]) (i + 1)
def spec_DrawPlaces (p0 : List (UInt8)) : (List Int) := spec_DrawPlaces_l1 p0 (12 - 0) ((spec_l01New p0).i) ((spec_l01New p0).h) ([] : List Int) 0
theorem c_spec_DrawPlaces (p0 : List (UInt8)) : CTs 31 [.o (.sl UInt8 instDatUInt8 p0)] [Re.sl Int instDatInt (spec_DrawPlaces p0)] := by
  refine en Tryd.func31 Tryd.ntmps31 fun w hG hgd => ?_
  obtain ⟨hg_p0, _⟩ := hgd
  have hl_p0 : p0.length ≤ 9223372036854775807 := hg_p0.1
  have hM := spec_DrawPlaces.eq_1 p0
  refine ad 7 ?_
  refine og (cm [0] [0] [] [0] [0] (c_spec_l01New p0) fok44) fun _ => ?_
  refine ad 4 ?_
  refine op (l0) ?_
  refine ad 8 ?_
  refine li 2 (d := instDatInt) ([] : List Int) ?_
  refine Run.loopM (ι := Nat × Int × (List Int) × Nat) (fun s => spec_DrawPlaces_l1 p0 (12 - s.2.2.2) s.1 s.2.1 s.2.2.1 s.2.2.2) (fun s => ⟨19, 3, [(3, .pt 0 0), (4, .sl 2 s.2.2.1.length), (5, .v (.int .i64 (s.2.2.2 : Int)))], [(0, .var [.sl 1 p0.length, .v (.int .i64 (s.1 : Int)), .v (.int .i64 s.2.1)] 105), (1, .ros UInt8 instDatUInt8 p0), (2, .own Int instDatInt s.2.2.1)]⟩) (fun s => s.2.2.2 ≤ 12 ∧ s.2.2.1.length = s.2.2.2) (fun s => 12 - s.2.2.2) ((spec_l01New p0).i, (spec_l01New p0).h, ([] : List Int), 0) [1, 0, 2] [1, 2, 0] hM (by exact ⟨by (try dsimp only); omega, rfl⟩) su (by decide) ?_
  rintro ⟨c1_1, c1_2, v4, i⟩ hv hE
  try dsimp only at hE
  obtain ⟨hi, hv0⟩ := hv
  try dsimp only at hi hv0
  refine ad 6 ?_
  refine cd (fun h1 => ?_) (fun h1 => ?_)
  ·
    have h1l : i < 12 := by have := of_decide_eq_true h1; omega
    have hM := hE.trans ((congrArg (fun n => spec_DrawPlaces_l1 p0 n c1_1 c1_2 v4 i) (show 12 - i = (12 - (i + 1)) + 1 by omega)).trans (spec_DrawPlaces_l1.eq_2 _ _ _ _ _ _))
    have hb1 : I64 (spec_l01Below p0 (Cur.mk c1_1 c1_2) 10000).1 := spec_l01Below_I64 _ _ _
    refine ad 6 ?_
    refine og (cm [0, 1] [0, 1] [0] [1] [1, 2] (c_spec_l01Below p0 (Cur.mk c1_1 c1_2) 10000) fok43) fun hg2 => ?_
    refine ad 1 ?_
    refine op (ap [(spec_l01Below p0 (Cur.mk c1_1 c1_2) 10000).1] (hg := gdt) (hb := by simp only [List.length_cons, List.length_nil]; first | omega | exact om)) ?_
    refine ad 6 ?_
    rw [wrapN (i := i) (by first | omega | exact om)]
    refine ad 2 ?_
    exact Run.again (((spec_l01Below p0 (Cur.mk c1_1 c1_2) 10000).2).i, ((spec_l01Below p0 (Cur.mk c1_1 c1_2) 10000).2).h, (v4 ++ [(spec_l01Below p0 (Cur.mk c1_1 c1_2) 10000).1]), (i + 1)) [0, 1, 4] [1, 2, 3] ⟨by exact ⟨by (try dsimp only); omega, by (try dsimp only); rw [List.length_append]; show v4.length + 1 = _; omega⟩, hM⟩ rfl (by show _ - _ < _ - _; (try dsimp only); omega) su (by decide)
  ·
    have h1l : ¬ (i < 12) := by have := of_decide_eq_false h1; omega
    have hM := hE.trans ((congrArg (fun n => spec_DrawPlaces_l1 p0 n c1_1 c1_2 v4 i) (show 12 - i = 0 by omega)).trans (spec_DrawPlaces_l1.eq_1 _ _ _ _ _))
    refine ad 6 ?_
    exact rz (rs := [.tmp 2]) (congrArg (fun x => [Re.sl Int instDatInt x]) hM)

end Go.Proofs.YtmjjcihoobnbgaaDoor.Fw